/- Proved: lemmas for the law of this folder, part 4. No condition. -/
import Derived.Test.YtbgcadcpeabpgaaGreatRows
import Derived.WalkKit
import Derived.WalkSpells
import Derived.WalkLawsBesides
import Derived.Lib.Hide
import Derived.Laws.CopyOwn
import Derived.Deep.QuietTactic
import Derived.BigQuiet
import Derived.Orders
import Derived.Defers
import Derived.Recover
import Derived.Test.YtbgcadcpeabpgaaGreatProg
import Derived.KernelRfl
import Derived.ProofKit
import Derived.OpenShut
import Derived.Test.YtbgcadcpeabpgaaGreatZc3b3fad1
set_option linter.unusedSimpArgs false
set_option linter.unusedVariables false
namespace Go.Proofs.YtbgcadcpeabpgaaGreat
def mdL : List (Nat × FMode) := [(157, { own := [(0, [])] }), (82, { own := [(0, [])] }), (135, { own := [(0, [])] }), (136, { own := [(0, [])] }), (68, { noop := true }), (39, { noop := true }), (51, { noop := true }), (56, { noop := true }), (53, { noop := true }), (138, { arg := some 0, back := true }), (139, { arg := some 0, back := true }), (158, { arg := some 0, back := true }), (168, { arg := some 0, back := true }), (110, { arg := some 0, back := true }), (69, { arg := some 0, back := true })]
def md (f : Nat) : FMode := mdAt mdL f
theorem wfP : WfP Tryz.prog := wf_of (by kernel_rfl)
theorem mixP : Tryz.prog.follows .mixedOrders = true := by kernel_rfl
theorem noop_0 : NoopF Tryz.prog 68 := noop_of (by kernel_rfl)
theorem noop_1 : NoopF Tryz.prog 39 := noop_of (by kernel_rfl)
theorem noop_2 : NoopF Tryz.prog 51 := noop_of (by kernel_rfl)
theorem noop_3 : NoopF Tryz.prog 56 := noop_of (by kernel_rfl)
theorem noop_4 : NoopF Tryz.prog 53 := noop_of (by kernel_rfl)
theorem noopP : NoopP Tryz.prog md := noop_all (by
  intro p hp hn
  simp only [mdL, List.mem_cons, List.not_mem_nil, or_false] at hp
  rcases hp with rfl | rfl | rfl | rfl | rfl | rfl | rfl | rfl | rfl | rfl | rfl | rfl | rfl | rfl | rfl
  all_goals first | exact absurd hn (by decide) | skip
  · exact noop_0
  · exact noop_1
  · exact noop_2
  · exact noop_3
  · exact noop_4
  )
theorem sound_ {f : Nat} {cts : List CT} {xs ys : List D} {orc : List (Nat × Orc)} {t : Tree} (n : Nat) (h : evFun Tryz.prog md orc n f cts xs = t) (ht : t.wp Tryz.prog md (fun zs => zs = ys)) : Spec Tryz.prog md f cts xs ys :=
  fun_sound wfP mixP noopP (orc := orc) (n := n) (by rw [h]; exact ht)
end Go.Proofs.YtbgcadcpeabpgaaGreat

set_option maxRecDepth 100000
namespace Go.Proofs.YtbgcadcpeabpgaaGreat
/-! scrim/array.Ints -/
def array_Ints_orc : List (Nat × Orc) := [(5, ⟨[(4, none), (18, some 24), (19, none), (20, none)], [], [(.slot 4, 1050, 3)]⟩)]
def array_Ints_ps : List Nat := [26]
def array_Ints_rs : List ResultVar := [.tmp 2, .tmp 3]
def array_Ints_ts : List Nat := [23, 29]
noncomputable def array_Ints_l5 (n m5 : Nat) (out4 : List D) (t18 : D) (t19 : Int) (t20 : Int) : Tree :=
  evLoop Tryz.prog md (ev Tryz.prog md n array_Ints_orc (cAt (bodyOf Tryz.prog 40) [1, 1, 1, 0, 1, 0, 0])) (orcAt array_Ints_orc 5) m5 ⟨[.undef, .undef, .undef, .undef, .row 1050, .undef, .undef, .undef, .undef, .undef, .undef, .undef, .undef, .undef, .undef, .undef, .undef, .undef, .d 24 t18, .i .i64 t19, .i .i64 t20, .undef, .undef, .undef, .undef, .undef, .undef, .undef, .undef, .undef, .undef, .undef, .undef, .undef, .undef, .undef, .undef, .undef, .undef, .undef, .undef, .undef, .undef], [(1050, .row 3 out4 true)], [1050], [], []⟩
   (blockK 0 (seqK (joinE Tryz.prog md (joinAt array_Ints_orc (cAt (bodyOf Tryz.prog 40) [1, 1, 1, 1])) (ev Tryz.prog md n array_Ints_orc (cAt (bodyOf Tryz.prog 40) [1, 1, 1, 1]))) (retK Tryz.prog md (md 40) array_Ints_ps array_Ints_rs array_Ints_ts)))
theorem array_Ints_l5_succ (n m5 : Nat) (out4 : List D) (t18 : D) (t19 : Int) (t20 : Int) : array_Ints_l5 n (m5 + 1) out4 t18 t19 t20 =
 .br (decide (t20 < t19)) (.br (decide (0 ≤ t20)) (.br (decide (t20 < (t18.els.length : Int))) (.call 80 [] [(t18.els.getD (Int.toNat t20) D.nil).fld 2] fun yy1 =>
 .br ((((t18.els.getD (Int.toNat t20) D.nil).fld 1).toInt) != 0) (.ret [D.sl [], D.int 3])
 (.br (!((yy1.getD 1 D.nil).toBool)) (.ret [D.sl [], D.int 3])
 (.br (decide (out4.length + [D.int ((yy1.getD 0 D.nil).toInt)].length ≤ bigN)) (array_Ints_l5 n m5 (out4 ++ [D.int ((yy1.getD 0 D.nil).toInt)]) t18 t19 (IntKind.wrap .i64 (t20 + 1))) .fail))) .fail) .fail)
 (.ret [D.sl out4, D.int 0]) := by kernel_rfl
theorem array_Ints_tree (n : Nat) (a0 : D) : evFun Tryz.prog md array_Ints_orc n 40 [] [a0] =
 .br (decide (1 < (((a0.fld 1).els).length : Int))) (.ret [D.sl [], D.int 5])
 (.br (decide (0 ≤ 0)) (.br (decide (0 ≤ (((a0.fld 2).els).length : Int))) (.br (decide ((((a0.fld 2).els).length : Int) ≤ bigN)) (array_Ints_l5 n n (List.replicate (Int.toNat 0) (D.int 0)) (a0.fld 2) (((a0.fld 2).els).length : Int) 0) .fail) .fail) .fail) := by kernel_rfl

/-! scrim/array.Total -/
def array_Total_orc : List (Nat × Orc) := [(3, ⟨[(3, none), (11, some 24), (12, none), (13, none)], [], []⟩), (7, ⟨[(3, none), (11, some 24), (12, none), (13, none), (22, some 66), (23, none), (24, none)], [], []⟩)]
def array_Total_ps : List Nat := [26]
def array_Total_rs : List ResultVar := [.tmp 2]
def array_Total_ts : List Nat := [22]
noncomputable def array_Total_l7 (n m3 m7 : Nat) (out3 : Int) (t11 : D) (t12 : Int) (t13 : Int) (t22 : D) (t23 : Int) (t24 : Int) : Tree :=
  evLoop Tryz.prog md (ev Tryz.prog md n array_Total_orc (cAt (bodyOf Tryz.prog 61) [1, 1, 0, 1, 0, 0, 1, 1, 0, 0, 1, 1, 1, 0, 0])) (orcAt array_Total_orc 7) m7 ⟨[.undef, .undef, .undef, .i .u64 out3, .undef, .undef, .undef, .undef, .undef, .undef, .undef, .d 24 t11, .i .i64 t12, .i .i64 t13, .undef, .undef, .undef, .undef, .undef, .undef, .undef, .undef, .d 66 t22, .i .i64 t23, .i .i64 t24, .undef, .undef, .undef, .undef, .undef, .undef, .undef, .undef, .undef, .undef], [], [], [], []⟩
   (blockK 2 (blockK 1 (seqK (joinE Tryz.prog md (joinAt array_Total_orc (cAt (bodyOf Tryz.prog 61) [1, 1, 0, 1, 0, 0, 1, 1, 1])) (ev Tryz.prog md n array_Total_orc (cAt (bodyOf Tryz.prog 61) [1, 1, 0, 1, 0, 0, 1, 1, 1]))) (loopK Tryz.prog md (orcAt array_Total_orc 3) (fun s1 => evLoop Tryz.prog md (ev Tryz.prog md n array_Total_orc (cAt (bodyOf Tryz.prog 61) [1, 1, 0, 1, 0, 0])) (orcAt array_Total_orc 3) m3 s1 (blockK 0 (seqK (joinE Tryz.prog md (joinAt array_Total_orc (cAt (bodyOf Tryz.prog 61) [1, 1, 1])) (ev Tryz.prog md n array_Total_orc (cAt (bodyOf Tryz.prog 61) [1, 1, 1]))) (retK Tryz.prog md (md 61) array_Total_ps array_Total_rs array_Total_ts)))) (blockK 0 (seqK (joinE Tryz.prog md (joinAt array_Total_orc (cAt (bodyOf Tryz.prog 61) [1, 1, 1])) (ev Tryz.prog md n array_Total_orc (cAt (bodyOf Tryz.prog 61) [1, 1, 1]))) (retK Tryz.prog md (md 61) array_Total_ps array_Total_rs array_Total_ts)))))))
noncomputable def array_Total_l3 (n m3 : Nat) (out3 : Int) (t11 : D) (t12 : Int) (t13 : Int) : Tree :=
  evLoop Tryz.prog md (ev Tryz.prog md n array_Total_orc (cAt (bodyOf Tryz.prog 61) [1, 1, 0, 1, 0, 0])) (orcAt array_Total_orc 3) m3 ⟨[.undef, .undef, .undef, .i .u64 out3, .undef, .undef, .undef, .undef, .undef, .undef, .undef, .d 24 t11, .i .i64 t12, .i .i64 t13, .undef, .undef, .undef, .undef, .undef, .undef, .undef, .undef, .undef, .undef, .undef, .undef, .undef, .undef, .undef, .undef, .undef, .undef, .undef, .undef, .undef], [], [], [], []⟩
   (blockK 0 (seqK (joinE Tryz.prog md (joinAt array_Total_orc (cAt (bodyOf Tryz.prog 61) [1, 1, 1])) (ev Tryz.prog md n array_Total_orc (cAt (bodyOf Tryz.prog 61) [1, 1, 1]))) (retK Tryz.prog md (md 61) array_Total_ps array_Total_rs array_Total_ts)))
theorem array_Total_l7_succ (n m3 m7 : Nat) (out3 : Int) (t11 : D) (t12 : Int) (t13 : Int) (t22 : D) (t23 : Int) (t24 : Int) : array_Total_l7 n m3 (m7 + 1) out3 t11 t12 t13 t22 t23 t24 =
 .br (decide (t24 < t23)) (.br (decide (0 ≤ t24)) (.br (decide (t24 < (t22.els.length : Int))) (.call 61 [] [t22.els.getD (Int.toNat t24) D.nil] fun yy2 =>
 .call 54 [] [D.int out3, D.int ((yy2.getD 0 D.nil).toInt)] fun yy3 =>
 array_Total_l7 n m3 m7 ((yy3.getD 0 D.nil).toInt) t11 t12 t13 t22 t23 (IntKind.wrap .i64 (t24 + 1))) .fail) .fail)
 (array_Total_l3 n m3 out3 t11 t12 (IntKind.wrap .i64 (t13 + 1))) := by kernel_rfl
theorem array_Total_l3_succ (n m3 : Nat) (out3 : Int) (t11 : D) (t12 : Int) (t13 : Int) : array_Total_l3 n (m3 + 1) out3 t11 t12 t13 =
 .br (decide (t13 < t12)) (.br (decide (0 ≤ t13)) (.br (decide (t13 < (t11.els.length : Int))) (.call 54 [] [D.int out3, D.int (((t11.els.getD (Int.toNat t13) D.nil).fld 0).toInt)] fun yy1 =>
 array_Total_l7 n m3 n ((yy1.getD 0 D.nil).toInt) t11 t12 t13 ((t11.els.getD (Int.toNat t13) D.nil).fld 4) ((((t11.els.getD (Int.toNat t13) D.nil).fld 4).els).length : Int) 0) .fail) .fail)
 (.ret [D.int out3]) := by kernel_rfl
theorem array_Total_tree (n : Nat) (a0 : D) : evFun Tryz.prog md array_Total_orc n 61 [] [a0] =
 array_Total_l3 n n ((a0.fld 0).toInt) (a0.fld 2) (((a0.fld 2).els).length : Int) 0 := by kernel_rfl

/-! scrim/array.Int -/
def array_Int_orc : List (Nat × Orc) := []
theorem array_Int_tree (n : Nat) (nn0 : D) : evFun Tryz.prog md array_Int_orc n 64 [] [nn0] =
 .call 102 [] [D.int nn0.toInt] fun yy1 =>
 .ret [D.agg [D.int 0, D.int 0, yy1.getD 0 D.nil, D.int 0, D.sl []]] := by kernel_rfl

/-! scrim/array.Vector -/
def array_Vector_orc : List (Nat × Orc) := [(3, ⟨[(0, some 24), (2, none), (3, none), (9, some 24), (10, none), (11, none)], [(2, false)], [(.slot 3, 1030, 68)]⟩)]
def array_Vector_ps : List Nat := [24]
def array_Vector_rs : List ResultVar := [.cell 2 26]
def array_Vector_ts : List Nat := [26]
noncomputable def array_Vector_l3 (n m3 : Nat) (l0 : D) (cells3 : List D) (t9 : D) (t10 : Int) (t11 : Int) (t2_0 : Int) : Tree :=
  evLoop Tryz.prog md (ev Tryz.prog md n array_Vector_orc (cAt (bodyOf Tryz.prog 66) [1, 1, 0, 1, 0, 0])) (orcAt array_Vector_orc 3) m3 ⟨[.d 24 l0, .undef, .ptr 2 [], .row 1030, .undef, .undef, .undef, .undef, .undef, .d 24 t9, .i .i64 t10, .i .i64 t11, .undef, .undef, .undef, .undef, .undef, .undef, .undef, .undef, .undef, .undef, .undef, .undef, .undef, .undef, .undef], [(2, .var 26 (.agg 26 [.i .u64 t2_0, .mt, .mt]) true), (1030, .row 68 cells3 true)], [2, 1030], [], []⟩
   (blockK 0 (seqK (joinE Tryz.prog md (joinAt array_Vector_orc (cAt (bodyOf Tryz.prog 66) [1, 1, 1])) (ev Tryz.prog md n array_Vector_orc (cAt (bodyOf Tryz.prog 66) [1, 1, 1]))) (retK Tryz.prog md (md 66) array_Vector_ps array_Vector_rs array_Vector_ts)))
theorem array_Vector_l3_succ (n m3 : Nat) (l0 : D) (cells3 : List D) (t9 : D) (t10 : Int) (t11 : Int) (t2_0 : Int) : array_Vector_l3 n (m3 + 1) l0 cells3 t9 t10 t11 t2_0 =
 .br (decide (t11 < t10)) (.br (decide (0 ≤ t11)) (.br (decide (t11 < (t9.els.length : Int))) (.call 103 [] [t9.els.getD (Int.toNat t11) D.nil] fun yy1 =>
 .br (decide (0 ≤ t11)) (.br (decide (t11 < (cells3.length : Int))) (array_Vector_l3 n m3 l0 (cells3.set (Int.toNat t11) (yy1.getD 0 D.nil)) t9 t10 (IntKind.wrap .i64 (t11 + 1)) t2_0) .fail) .fail) .fail) .fail)
 (.ret [D.agg [D.int 0, D.sl [D.int (l0.els.length : Int)], D.sl cells3]]) := by kernel_rfl
theorem array_Vector_tree (n : Nat) (l0 : D) : evFun Tryz.prog md array_Vector_orc n 66 [] [l0] =
 .br (decide (0 ≤ (l0.els.length : Int))) (.br (decide ((l0.els.length : Int) ≤ (l0.els.length : Int))) (.br (decide ((l0.els.length : Int) ≤ bigN)) (array_Vector_l3 n n l0 (List.replicate (Int.toNat (l0.els.length : Int)) (D.agg [D.int 0, D.int 0, D.agg [D.bool false, D.sl [], D.sl []], D.int 0, D.sl []])) l0 (l0.els.length : Int) 0 0) .fail) .fail) .fail := by kernel_rfl

/-! scrim/array.Fill -/
def array_Fill_orc : List (Nat × Orc) := []
theorem array_Fill_tree (n : Nat) (a0 : D) : evFun Tryz.prog md array_Fill_orc n 86 [] [a0] =
 .br ((((a0.fld 2).els).length : Int) == 0) (.call 64 [] [D.int 0] fun yy1 =>
 .ret [yy1.getD 0 D.nil])
 (.call 64 [] [D.int 0] fun yy2 =>
 .br (decide (0 ≤ 0)) (.br (decide (0 < (((a0.fld 2).els).length : Int))) (.br ((((((a0.fld 2).els).getD (Int.toNat 0) D.nil).fld 1).toInt) == 1) (.call 128 [] [D.int 32] fun yy3 =>
 .br (decide (0 ≤ 0)) (.br (decide (0 < (((a0.fld 2).els).length : Int))) (.ret [D.agg [D.int (((((a0.fld 2).els).getD (Int.toNat 0) D.nil).fld 0).toInt), D.int (((yy3.getD 0 D.nil).fld 1).toInt), (yy3.getD 0 D.nil).fld 2, D.int (((yy3.getD 0 D.nil).fld 3).toInt), (yy3.getD 0 D.nil).fld 4]]) .fail) .fail)
 (.br (decide (0 ≤ 0)) (.br (decide (0 < (((a0.fld 2).els).length : Int))) (.ret [D.agg [D.int (((((a0.fld 2).els).getD (Int.toNat 0) D.nil).fld 0).toInt), D.int (((yy2.getD 0 D.nil).fld 1).toInt), (yy2.getD 0 D.nil).fld 2, D.int (((yy2.getD 0 D.nil).fld 3).toInt), (yy2.getD 0 D.nil).fld 4]]) .fail) .fail)) .fail) .fail) := by kernel_rfl

/-! scrim/array.own -/
def array_own_orc : List (Nat × Orc) := []
theorem array_own_tree (n : Nat) (c0 : D) : evFun Tryz.prog md array_own_orc n 103 [] [c0] =
 .call 135 [] [(c0.fld 2).fld 1] fun yy1 =>
 .call 135 [] [(c0.fld 2).fld 2] fun yy2 =>
 .call 136 [] [c0.fld 4] fun yy3 =>
 .ret [D.agg [D.int ((c0.fld 0).toInt), D.int ((c0.fld 1).toInt), D.agg [D.bool (((c0.fld 2).fld 0).toBool), D.sl ((yy1.getD 0 D.nil).els), D.sl ((yy2.getD 0 D.nil).els)], D.int ((c0.fld 3).toInt), D.sl ((yy3.getD 0 D.nil).els)]] := by kernel_rfl

/-! scrim/array.Chr -/
def array_Chr_orc : List (Nat × Orc) := []
theorem array_Chr_tree (n : Nat) (c0 : D) : evFun Tryz.prog md array_Chr_orc n 128 [] [c0] =
 .ret [D.agg [D.int 0, D.int 1, D.agg [D.bool false, D.sl [], D.sl []], D.int c0.toInt, D.sl []]] := by kernel_rfl

end Go.Proofs.YtbgcadcpeabpgaaGreat

set_option maxRecDepth 100000
namespace Go.Proofs.YtbgcadcpeabpgaaGreat
/-! scrim/scrimref08.Right -/
def ref08_Right_orc : List (Nat × Orc) := [(5, ⟨[(1, none), (2, none), (5, none), (7, none)], [(2, true)], []⟩)]
def ref08_Right_ps : List Nat := [26, 3]
def ref08_Right_rs : List ResultVar := [.tmp 4]
def ref08_Right_ts : List Nat := [4]
noncomputable def ref08_Right_l5 (n m5 : Nat) (deep1 : Int) (nn5 : Int) (i7 : Int) (a2 : D) : Tree :=
  evLoop Tryz.prog md (ev Tryz.prog md n ref08_Right_orc (cAt (bodyOf Tryz.prog 15) [1, 1, 1, 0, 1, 0, 0])) (orcAt ref08_Right_orc 5) m5 ⟨[.undef, .i .i64 deep1, .ptr 2 [], .undef, .undef, .i .i64 nn5, .undef, .i .i64 i7, .undef, .undef, .undef, .undef, .undef, .undef, .undef, .undef, .undef, .undef, .undef, .undef, .undef, .undef, .undef, .undef, .undef, .undef, .undef, .undef, .undef, .undef, .undef, .undef, .undef, .undef, .undef, .undef], [(2, .var 26 (.d 26 a2) true)], [2], [], []⟩
   (blockK 0 (seqK (joinE Tryz.prog md (joinAt ref08_Right_orc (cAt (bodyOf Tryz.prog 15) [1, 1, 1, 1])) (ev Tryz.prog md n ref08_Right_orc (cAt (bodyOf Tryz.prog 15) [1, 1, 1, 1]))) (retK Tryz.prog md (md 15) ref08_Right_ps ref08_Right_rs ref08_Right_ts)))
theorem ref08_Right_l5_succ (n m5 : Nat) (deep1 : Int) (nn5 : Int) (i7 : Int) (a2 : D) : ref08_Right_l5 n (m5 + 1) deep1 nn5 i7 a2 =
 .br (decide (i7 < nn5)) (.br (decide (0 ≤ i7)) (.br (decide (i7 < (((a2.fld 2).els).length : Int))) (.call 50 [] [((a2.fld 2).els).getD (Int.toNat i7) D.nil, D.int deep1] fun yy2 =>
 .br (!((yy2.getD 0 D.nil).toBool)) (.ret [D.bool false])
 (ref08_Right_l5 n m5 deep1 nn5 (IntKind.wrap .i64 (i7 + 1)) a2)) .fail) .fail)
 (.ret [D.bool true]) := by kernel_rfl
theorem ref08_Right_tree (n : Nat) (a0 : D) (deep1 : D) : evFun Tryz.prog md ref08_Right_orc n 15 [] [a0, deep1] =
 .call 49 [] [a0.fld 1] fun yy1 =>
 .br (((yy1.getD 1 D.nil).toInt) != 0) (.ret [D.bool false])
 (.br (((yy1.getD 0 D.nil).toInt) != (((a0.fld 2).els).length : Int)) (.ret [D.bool false])
 (ref08_Right_l5 n n deep1.toInt ((yy1.getD 0 D.nil).toInt) 0 a0)) := by kernel_rfl

/-! scrim/scrimref08.Ints -/
def ref08_Ints_orc : List (Nat × Orc) := [(5, ⟨[(1, none), (4, none), (5, none)], [(1, true)], [(.slot 4, 1050, 3)]⟩)]
def ref08_Ints_ps : List Nat := [26]
def ref08_Ints_rs : List ResultVar := [.tmp 2, .tmp 3]
def ref08_Ints_ts : List Nat := [23, 3]
noncomputable def ref08_Ints_l5 (n m5 : Nat) (out4 : List D) (i5 : Int) (a1 : D) : Tree :=
  evLoop Tryz.prog md (ev Tryz.prog md n ref08_Ints_orc (cAt (bodyOf Tryz.prog 34) [1, 1, 1, 0, 1, 0, 0])) (orcAt ref08_Ints_orc 5) m5 ⟨[.undef, .ptr 1 [], .undef, .undef, .row 1050, .i .i64 i5, .undef, .undef, .undef, .undef, .undef, .undef, .undef, .undef, .undef, .undef, .undef, .undef, .undef, .undef, .undef, .undef, .undef, .undef, .undef, .undef, .undef, .undef, .undef, .undef, .undef, .undef, .undef, .undef, .undef, .undef, .undef, .undef, .undef, .undef, .undef, .undef, .undef], [(1, .var 26 (.d 26 a1) true), (1050, .row 3 out4 true)], [1, 1050], [], []⟩
   (blockK 0 (seqK (joinE Tryz.prog md (joinAt ref08_Ints_orc (cAt (bodyOf Tryz.prog 34) [1, 1, 1, 1])) (ev Tryz.prog md n ref08_Ints_orc (cAt (bodyOf Tryz.prog 34) [1, 1, 1, 1]))) (retK Tryz.prog md (md 34) ref08_Ints_ps ref08_Ints_rs ref08_Ints_ts)))
theorem ref08_Ints_l5_succ (n m5 : Nat) (out4 : List D) (i5 : Int) (a1 : D) : ref08_Ints_l5 n (m5 + 1) out4 i5 a1 =
 .br (decide (i5 < (((a1.fld 2).els).length : Int))) (.br (decide (0 ≤ i5)) (.br (decide (i5 < (((a1.fld 2).els).length : Int))) (.br ((((((a1.fld 2).els).getD (Int.toNat i5) D.nil).fld 1).toInt) != 0) (.ret [D.sl [], D.int 3])
 (.br (decide (0 ≤ i5)) (.br (decide (i5 < (((a1.fld 2).els).length : Int))) (.call 72 [] [(((a1.fld 2).els).getD (Int.toNat i5) D.nil).fld 2] fun yy1 =>
 .br (!((yy1.getD 1 D.nil).toBool)) (.ret [D.sl [], D.int 3])
 (.br (decide (out4.length + [D.int ((yy1.getD 0 D.nil).toInt)].length ≤ bigN)) (ref08_Ints_l5 n m5 (out4 ++ [D.int ((yy1.getD 0 D.nil).toInt)]) (IntKind.wrap .i64 (i5 + 1)) a1) .fail)) .fail) .fail)) .fail) .fail)
 (.ret [D.sl out4, D.int 0]) := by kernel_rfl
theorem ref08_Ints_tree (n : Nat) (a0 : D) : evFun Tryz.prog md ref08_Ints_orc n 34 [] [a0] =
 .br (decide (1 < (((a0.fld 1).els).length : Int))) (.ret [D.sl [], D.int 5])
 (ref08_Ints_l5 n n [] 0 a0) := by kernel_rfl

/-! scrim/scrimref08.Good -/
def ref08_Good_orc : List (Nat × Orc) := []
theorem ref08_Good_tree (n : Nat) (a0 : D) : evFun Tryz.prog md ref08_Good_orc n 36 [] [a0] =
 .call 76 [] [a0] fun yy1 =>
 .br ((yy1.getD 0 D.nil).toBool) (.call 15 [] [a0, D.int 8] fun yy2 =>
 .br ((yy2.getD 0 D.nil).toBool) (.call 77 [] [a0] fun yy3 =>
 .ret [D.bool ((yy3.getD 0 D.nil).toBool)])
 (.ret [D.bool false]))
 (.ret [D.bool false]) := by kernel_rfl

/-! scrim/scrimref08.Same -/
def ref08_Same_orc : List (Nat × Orc) := [(4, ⟨[(2, none), (3, none), (5, none)], [(2, true), (3, true)], []⟩)]
def ref08_Same_ps : List Nat := [26, 26]
def ref08_Same_rs : List ResultVar := [.tmp 4]
def ref08_Same_ts : List Nat := [4]
noncomputable def ref08_Same_l4 (n m4 : Nat) (i5 : Int) (a2 : D) (b3 : D) : Tree :=
  evLoop Tryz.prog md (ev Tryz.prog md n ref08_Same_orc (cAt (bodyOf Tryz.prog 38) [1, 1, 0, 1, 0, 0])) (orcAt ref08_Same_orc 4) m4 ⟨[.undef, .undef, .ptr 2 [], .ptr 3 [], .undef, .i .i64 i5, .undef, .undef, .undef, .undef, .undef, .undef, .undef, .undef, .undef, .undef, .undef, .undef, .undef, .undef, .undef, .undef, .undef, .undef, .undef, .undef, .undef, .undef, .undef, .undef, .undef, .undef, .undef, .undef, .undef, .undef, .undef, .undef, .undef, .undef, .undef, .undef, .undef, .undef, .undef, .undef, .undef], [(2, .var 26 (.d 26 a2) true), (3, .var 26 (.d 26 b3) true)], [2, 3], [], []⟩
   (blockK 0 (seqK (joinE Tryz.prog md (joinAt ref08_Same_orc (cAt (bodyOf Tryz.prog 38) [1, 1, 1])) (ev Tryz.prog md n ref08_Same_orc (cAt (bodyOf Tryz.prog 38) [1, 1, 1]))) (retK Tryz.prog md (md 38) ref08_Same_ps ref08_Same_rs ref08_Same_ts)))
theorem ref08_Same_l4_succ (n m4 : Nat) (i5 : Int) (a2 : D) (b3 : D) : ref08_Same_l4 n (m4 + 1) i5 a2 b3 =
 .br (decide (i5 < (((a2.fld 2).els).length : Int))) (.br (decide (0 ≤ i5)) (.br (decide (i5 < (((a2.fld 2).els).length : Int))) (.br (decide (0 ≤ i5)) (.br (decide (i5 < (((b3.fld 2).els).length : Int))) (.call 79 [] [((a2.fld 2).els).getD (Int.toNat i5) D.nil, ((b3.fld 2).els).getD (Int.toNat i5) D.nil] fun yy2 =>
 .br (!((yy2.getD 0 D.nil).toBool)) (.ret [D.bool false])
 (ref08_Same_l4 n m4 (IntKind.wrap .i64 (i5 + 1)) a2 b3)) .fail) .fail) .fail) .fail)
 (.ret [D.bool true]) := by kernel_rfl
theorem ref08_Same_tree (n : Nat) (a0 : D) (b1 : D) : evFun Tryz.prog md ref08_Same_orc n 38 [] [a0, b1] =
 .br (((a0.fld 0).toInt) != ((b1.fld 0).toInt)) (.ret [D.bool false])
 (.call 24 [] [a0.fld 1, b1.fld 1] fun yy1 =>
 .br (!((yy1.getD 0 D.nil).toBool)) (.ret [D.bool false])
 (.br ((((a0.fld 2).els).length : Int) != (((b1.fld 2).els).length : Int)) (.ret [D.bool false])
 (ref08_Same_l4 n n 0 a0 b1))) := by kernel_rfl

/-! scrim/scrimref08.Total -/
def ref08_Total_orc : List (Nat × Orc) := [(3, ⟨[(1, none), (3, none), (4, none)], [(1, true)], []⟩), (7, ⟨[(1, none), (3, none), (4, none), (5, none)], [(1, true)], []⟩)]
def ref08_Total_ps : List Nat := [26]
def ref08_Total_rs : List ResultVar := [.tmp 2]
def ref08_Total_ts : List Nat := [22]
noncomputable def ref08_Total_l7 (n m3 m7 : Nat) (l3 : Int) (i4 : Int) (k5 : Int) (a1 : D) : Tree :=
  evLoop Tryz.prog md (ev Tryz.prog md n ref08_Total_orc (cAt (bodyOf Tryz.prog 48) [1, 1, 0, 1, 0, 0, 1, 0, 0, 1, 1, 0, 0])) (orcAt ref08_Total_orc 7) m7 ⟨[.undef, .ptr 1 [], .undef, .i .u64 l3, .i .i64 i4, .i .i64 k5, .undef, .undef, .undef, .undef, .undef, .undef, .undef, .undef, .undef, .undef, .undef, .undef, .undef, .undef, .undef, .undef, .undef, .undef, .undef, .undef, .undef, .undef, .undef, .undef, .undef, .undef, .undef, .undef, .undef, .undef, .undef, .undef, .undef, .undef, .undef, .undef, .undef, .undef, .undef, .undef, .undef], [(1, .var 26 (.d 26 a1) true)], [1], [], []⟩
   (blockK 2 (blockK 1 (seqK (joinE Tryz.prog md (joinAt ref08_Total_orc (cAt (bodyOf Tryz.prog 48) [1, 1, 0, 1, 0, 0, 1, 1])) (ev Tryz.prog md n ref08_Total_orc (cAt (bodyOf Tryz.prog 48) [1, 1, 0, 1, 0, 0, 1, 1]))) (loopK Tryz.prog md (orcAt ref08_Total_orc 3) (fun s1 => evLoop Tryz.prog md (ev Tryz.prog md n ref08_Total_orc (cAt (bodyOf Tryz.prog 48) [1, 1, 0, 1, 0, 0])) (orcAt ref08_Total_orc 3) m3 s1 (blockK 0 (seqK (joinE Tryz.prog md (joinAt ref08_Total_orc (cAt (bodyOf Tryz.prog 48) [1, 1, 1])) (ev Tryz.prog md n ref08_Total_orc (cAt (bodyOf Tryz.prog 48) [1, 1, 1]))) (retK Tryz.prog md (md 48) ref08_Total_ps ref08_Total_rs ref08_Total_ts)))) (blockK 0 (seqK (joinE Tryz.prog md (joinAt ref08_Total_orc (cAt (bodyOf Tryz.prog 48) [1, 1, 1])) (ev Tryz.prog md n ref08_Total_orc (cAt (bodyOf Tryz.prog 48) [1, 1, 1]))) (retK Tryz.prog md (md 48) ref08_Total_ps ref08_Total_rs ref08_Total_ts)))))))
noncomputable def ref08_Total_l3 (n m3 : Nat) (l3 : Int) (i4 : Int) (a1 : D) : Tree :=
  evLoop Tryz.prog md (ev Tryz.prog md n ref08_Total_orc (cAt (bodyOf Tryz.prog 48) [1, 1, 0, 1, 0, 0])) (orcAt ref08_Total_orc 3) m3 ⟨[.undef, .ptr 1 [], .undef, .i .u64 l3, .i .i64 i4, .undef, .undef, .undef, .undef, .undef, .undef, .undef, .undef, .undef, .undef, .undef, .undef, .undef, .undef, .undef, .undef, .undef, .undef, .undef, .undef, .undef, .undef, .undef, .undef, .undef, .undef, .undef, .undef, .undef, .undef, .undef, .undef, .undef, .undef, .undef, .undef, .undef, .undef, .undef, .undef, .undef, .undef], [(1, .var 26 (.d 26 a1) true)], [1], [], []⟩
   (blockK 0 (seqK (joinE Tryz.prog md (joinAt ref08_Total_orc (cAt (bodyOf Tryz.prog 48) [1, 1, 1])) (ev Tryz.prog md n ref08_Total_orc (cAt (bodyOf Tryz.prog 48) [1, 1, 1]))) (retK Tryz.prog md (md 48) ref08_Total_ps ref08_Total_rs ref08_Total_ts)))
theorem ref08_Total_l7_succ (n m3 m7 : Nat) (l3 : Int) (i4 : Int) (k5 : Int) (a1 : D) : ref08_Total_l7 n m3 (m7 + 1) l3 i4 k5 a1 =
 .br (decide (0 ≤ i4)) (.br (decide (i4 < (((a1.fld 2).els).length : Int))) (.br (decide (k5 < ((((((a1.fld 2).els).getD (Int.toNat i4) D.nil).fld 4).els).length : Int))) (.br (decide (0 ≤ i4)) (.br (decide (i4 < (((a1.fld 2).els).length : Int))) (.br (decide (0 ≤ k5)) (.br (decide (k5 < ((((((a1.fld 2).els).getD (Int.toNat i4) D.nil).fld 4).els).length : Int))) (.call 48 [] [(((((a1.fld 2).els).getD (Int.toNat i4) D.nil).fld 4).els).getD (Int.toNat k5) D.nil] fun yy2 =>
 .call 55 [] [D.int l3, D.int ((yy2.getD 0 D.nil).toInt)] fun yy3 =>
 ref08_Total_l7 n m3 m7 ((yy3.getD 0 D.nil).toInt) i4 (IntKind.wrap .i64 (k5 + 1)) a1) .fail) .fail) .fail) .fail)
 (ref08_Total_l3 n m3 l3 (IntKind.wrap .i64 (i4 + 1)) a1)) .fail) .fail := by kernel_rfl
theorem ref08_Total_l3_succ (n m3 : Nat) (l3 : Int) (i4 : Int) (a1 : D) : ref08_Total_l3 n (m3 + 1) l3 i4 a1 =
 .br (decide (i4 < (((a1.fld 2).els).length : Int))) (.br (decide (0 ≤ i4)) (.br (decide (i4 < (((a1.fld 2).els).length : Int))) (.call 55 [] [D.int l3, D.int (((((a1.fld 2).els).getD (Int.toNat i4) D.nil).fld 0).toInt)] fun yy1 =>
 ref08_Total_l7 n m3 n ((yy1.getD 0 D.nil).toInt) i4 0 a1) .fail) .fail)
 (.ret [D.int l3]) := by kernel_rfl
theorem ref08_Total_tree (n : Nat) (a0 : D) : evFun Tryz.prog md ref08_Total_orc n 48 [] [a0] =
 ref08_Total_l3 n n ((a0.fld 0).toInt) 0 a0 := by kernel_rfl

/-! scrim/scrimref08.Cell -/
def ref08_Cell_orc : List (Nat × Orc) := []
theorem ref08_Cell_tree (n : Nat) (c0 : D) (deep1 : D) : evFun Tryz.prog md ref08_Cell_orc n 50 [] [c0, deep1] =
 .br (((c0.fld 1).toInt) == 0) (.br (((c0.fld 3).toInt) == 0) (.br ((((c0.fld 4).els).length : Int) == 0) (.call 91 [] [c0.fld 2] fun yy1 =>
 .ret [D.bool ((yy1.getD 0 D.nil).toBool)])
 (.ret [D.bool false]))
 (.ret [D.bool false]))
 (.br (((c0.fld 1).toInt) == 1) (.call 92 [] [c0.fld 2] fun yy2 =>
 .br ((yy2.getD 0 D.nil).toBool) (.br ((((c0.fld 4).els).length : Int) == 0) (.call 93 [] [D.int ((c0.fld 3).toInt)] fun yy3 =>
 .ret [D.bool ((yy3.getD 0 D.nil).toBool)])
 (.ret [D.bool false]))
 (.ret [D.bool false]))
 (.br (((c0.fld 1).toInt) == 2) (.call 92 [] [c0.fld 2] fun yy4 =>
 .br ((yy4.getD 0 D.nil).toBool) (.br (((c0.fld 3).toInt) == 0) (.br ((((c0.fld 4).els).length : Int) == 1) (.br (decide (0 < deep1.toInt)) (.br (decide (0 ≤ 0)) (.br (decide (0 < (((c0.fld 4).els).length : Int))) (.call 94 [] [((c0.fld 4).els).getD (Int.toNat 0) D.nil] fun yy5 =>
 .br (!((yy5.getD 0 D.nil).toBool)) (.br (decide (0 ≤ 0)) (.br (decide (0 < (((c0.fld 4).els).length : Int))) (.call 15 [] [((c0.fld 4).els).getD (Int.toNat 0) D.nil, D.int (IntKind.wrap .i64 (deep1.toInt - 1))] fun yy6 =>
 .ret [D.bool ((yy6.getD 0 D.nil).toBool)]) .fail) .fail)
 (.ret [D.bool false])) .fail) .fail)
 (.ret [D.bool false]))
 (.ret [D.bool false]))
 (.ret [D.bool false]))
 (.ret [D.bool false]))
 (.ret [D.bool false]))) := by kernel_rfl

/-! scrim/scrimref08.Few -/
def ref08_Few_orc : List (Nat × Orc) := []
theorem ref08_Few_tree (n : Nat) (a0 : D) : evFun Tryz.prog md ref08_Few_orc n 76 [] [a0] =
 .call 121 [] [a0, D.int 12, D.int 4000] fun yy1 =>
 .ret [D.bool (decide (0 ≤ ((yy1.getD 0 D.nil).toInt)))] := by kernel_rfl

/-! scrim/scrimref08.thin -/
def ref08_thin_orc : List (Nat × Orc) := [(3, ⟨[(1, none), (3, none), (4, none)], [(1, true)], []⟩), (10, ⟨[(1, none), (5, none)], [(1, true)], []⟩), (13, ⟨[(1, none), (5, none), (6, none)], [(1, true)], []⟩)]
def ref08_thin_ps : List Nat := [26]
def ref08_thin_rs : List ResultVar := [.tmp 2]
def ref08_thin_ts : List Nat := [4]
noncomputable def ref08_thin_l13 (n m10 m13 : Nat) (i5 : Int) (k6 : Int) (a1 : D) : Tree :=
  evLoop Tryz.prog md (ev Tryz.prog md n ref08_thin_orc (cAt (bodyOf Tryz.prog 77) [1, 1, 1, 1, 0, 1, 0, 0, 1, 0, 0, 1, 0, 0])) (orcAt ref08_thin_orc 13) m13 ⟨[.undef, .ptr 1 [], .undef, .undef, .undef, .i .i64 i5, .i .i64 k6, .undef, .undef, .undef, .undef, .undef, .undef, .undef, .undef, .undef, .undef, .undef, .undef, .undef, .undef, .undef, .undef, .undef, .undef, .undef, .undef, .undef, .undef, .undef, .undef, .undef, .undef, .undef, .undef, .undef, .undef, .undef, .undef, .undef, .undef, .undef, .undef, .undef, .undef, .undef, .undef, .undef, .undef, .undef, .undef, .undef, .undef, .undef, .undef, .undef, .undef, .undef, .undef, .undef, .undef, .undef], [(1, .var 26 (.d 26 a1) true)], [1], [], []⟩
   (blockK 4 (blockK 3 (seqK (joinE Tryz.prog md (joinAt ref08_thin_orc (cAt (bodyOf Tryz.prog 77) [1, 1, 1, 1, 0, 1, 0, 0, 1, 1])) (ev Tryz.prog md n ref08_thin_orc (cAt (bodyOf Tryz.prog 77) [1, 1, 1, 1, 0, 1, 0, 0, 1, 1]))) (loopK Tryz.prog md (orcAt ref08_thin_orc 10) (fun s1 => evLoop Tryz.prog md (ev Tryz.prog md n ref08_thin_orc (cAt (bodyOf Tryz.prog 77) [1, 1, 1, 1, 0, 1, 0, 0])) (orcAt ref08_thin_orc 10) m10 s1 (blockK 2 (seqK (joinE Tryz.prog md (joinAt ref08_thin_orc (cAt (bodyOf Tryz.prog 77) [1, 1, 1, 1, 1])) (ev Tryz.prog md n ref08_thin_orc (cAt (bodyOf Tryz.prog 77) [1, 1, 1, 1, 1]))) (retK Tryz.prog md (md 77) ref08_thin_ps ref08_thin_rs ref08_thin_ts)))) (blockK 2 (seqK (joinE Tryz.prog md (joinAt ref08_thin_orc (cAt (bodyOf Tryz.prog 77) [1, 1, 1, 1, 1])) (ev Tryz.prog md n ref08_thin_orc (cAt (bodyOf Tryz.prog 77) [1, 1, 1, 1, 1]))) (retK Tryz.prog md (md 77) ref08_thin_ps ref08_thin_rs ref08_thin_ts)))))))
noncomputable def ref08_thin_l10 (n m10 : Nat) (i5 : Int) (a1 : D) : Tree :=
  evLoop Tryz.prog md (ev Tryz.prog md n ref08_thin_orc (cAt (bodyOf Tryz.prog 77) [1, 1, 1, 1, 0, 1, 0, 0])) (orcAt ref08_thin_orc 10) m10 ⟨[.undef, .ptr 1 [], .undef, .undef, .undef, .i .i64 i5, .undef, .undef, .undef, .undef, .undef, .undef, .undef, .undef, .undef, .undef, .undef, .undef, .undef, .undef, .undef, .undef, .undef, .undef, .undef, .undef, .undef, .undef, .undef, .undef, .undef, .undef, .undef, .undef, .undef, .undef, .undef, .undef, .undef, .undef, .undef, .undef, .undef, .undef, .undef, .undef, .undef, .undef, .undef, .undef, .undef, .undef, .undef, .undef, .undef, .undef, .undef, .undef, .undef, .undef, .undef, .undef], [(1, .var 26 (.d 26 a1) true)], [1], [], []⟩
   (blockK 2 (seqK (joinE Tryz.prog md (joinAt ref08_thin_orc (cAt (bodyOf Tryz.prog 77) [1, 1, 1, 1, 1])) (ev Tryz.prog md n ref08_thin_orc (cAt (bodyOf Tryz.prog 77) [1, 1, 1, 1, 1]))) (retK Tryz.prog md (md 77) ref08_thin_ps ref08_thin_rs ref08_thin_ts)))
noncomputable def ref08_thin_l3 (n m3 : Nat) (nn3 : Int) (i4 : Int) (a1 : D) : Tree :=
  evLoop Tryz.prog md (ev Tryz.prog md n ref08_thin_orc (cAt (bodyOf Tryz.prog 77) [1, 1, 0, 1, 0, 0])) (orcAt ref08_thin_orc 3) m3 ⟨[.undef, .ptr 1 [], .undef, .i .i64 nn3, .i .i64 i4, .undef, .undef, .undef, .undef, .undef, .undef, .undef, .undef, .undef, .undef, .undef, .undef, .undef, .undef, .undef, .undef, .undef, .undef, .undef, .undef, .undef, .undef, .undef, .undef, .undef, .undef, .undef, .undef, .undef, .undef, .undef, .undef, .undef, .undef, .undef, .undef, .undef, .undef, .undef, .undef, .undef, .undef, .undef, .undef, .undef, .undef, .undef, .undef, .undef, .undef, .undef, .undef, .undef, .undef, .undef, .undef, .undef], [(1, .var 26 (.d 26 a1) true)], [1], [], []⟩
   (blockK 0 (seqK (joinE Tryz.prog md (joinAt ref08_thin_orc (cAt (bodyOf Tryz.prog 77) [1, 1, 1])) (ev Tryz.prog md n ref08_thin_orc (cAt (bodyOf Tryz.prog 77) [1, 1, 1]))) (retK Tryz.prog md (md 77) ref08_thin_ps ref08_thin_rs ref08_thin_ts)))
theorem ref08_thin_l13_succ (n m10 m13 : Nat) (i5 : Int) (k6 : Int) (a1 : D) : ref08_thin_l13 n m10 (m13 + 1) i5 k6 a1 =
 .br (decide (0 ≤ i5)) (.br (decide (i5 < (((a1.fld 2).els).length : Int))) (.br (decide (k6 < ((((((a1.fld 2).els).getD (Int.toNat i5) D.nil).fld 4).els).length : Int))) (.br (decide (0 ≤ i5)) (.br (decide (i5 < (((a1.fld 2).els).length : Int))) (.br (decide (0 ≤ k6)) (.br (decide (k6 < ((((((a1.fld 2).els).getD (Int.toNat i5) D.nil).fld 4).els).length : Int))) (.call 77 [] [(((((a1.fld 2).els).getD (Int.toNat i5) D.nil).fld 4).els).getD (Int.toNat k6) D.nil] fun yy1 =>
 .br (!((yy1.getD 0 D.nil).toBool)) (.ret [D.bool false])
 (ref08_thin_l13 n m10 m13 i5 (IntKind.wrap .i64 (k6 + 1)) a1)) .fail) .fail) .fail) .fail)
 (ref08_thin_l10 n m10 (IntKind.wrap .i64 (i5 + 1)) a1)) .fail) .fail := by kernel_rfl
theorem ref08_thin_l10_succ (n m10 : Nat) (i5 : Int) (a1 : D) : ref08_thin_l10 n (m10 + 1) i5 a1 =
 .br (decide (i5 < (((a1.fld 2).els).length : Int))) (ref08_thin_l13 n m10 n i5 0 a1)
 (.ret [D.bool true]) := by kernel_rfl
theorem ref08_thin_l3_succ (n m3 : Nat) (nn3 : Int) (i4 : Int) (a1 : D) : ref08_thin_l3 n (m3 + 1) nn3 i4 a1 =
 .br (decide (i4 < (((a1.fld 1).els).length : Int))) (.br (decide (nn3 ≤ 100000)) (.br (decide (0 ≤ i4)) (.br (decide (i4 < (((a1.fld 1).els).length : Int))) (.br (decide (0 < ((((a1.fld 1).els).getD (Int.toNat i4) D.nil).toInt))) (.br (decide (0 ≤ i4)) (.br (decide (i4 < (((a1.fld 1).els).length : Int))) (ref08_thin_l3 n m3 (IntKind.wrap .i64 (nn3 * ((((a1.fld 1).els).getD (Int.toNat i4) D.nil).toInt))) (IntKind.wrap .i64 (i4 + 1)) a1) .fail) .fail)
 (ref08_thin_l3 n m3 nn3 (IntKind.wrap .i64 (i4 + 1)) a1)) .fail) .fail)
 (.br (decide (100000 < nn3)) (.ret [D.bool false])
 (ref08_thin_l10 n n 0 a1)))
 (.br (decide (100000 < nn3)) (.ret [D.bool false])
 (ref08_thin_l10 n n 0 a1)) := by kernel_rfl
theorem ref08_thin_tree (n : Nat) (a0 : D) : evFun Tryz.prog md ref08_thin_orc n 77 [] [a0] =
 ref08_thin_l3 n n 1 0 a0 := by kernel_rfl

/-! scrim/scrimref08.Int -/
def ref08_Int_orc : List (Nat × Orc) := []
theorem ref08_Int_tree (n : Nat) (nn0 : D) : evFun Tryz.prog md ref08_Int_orc n 78 [] [nn0] =
 .call 122 [] [D.int nn0.toInt] fun yy1 =>
 .ret [D.agg [D.int 0, D.int 0, yy1.getD 0 D.nil, D.int 0, D.sl []]] := by kernel_rfl

/-! scrim/scrimref08.SameCell -/
def ref08_SameCell_orc : List (Nat × Orc) := [(4, ⟨[(2, none), (3, none), (5, none)], [(2, true), (3, true)], []⟩)]
def ref08_SameCell_ps : List Nat := [68, 68]
def ref08_SameCell_rs : List ResultVar := [.tmp 4]
def ref08_SameCell_ts : List Nat := [4]
noncomputable def ref08_SameCell_l4 (n m4 : Nat) (i5 : Int) (a2 : D) (b3 : D) : Tree :=
  evLoop Tryz.prog md (ev Tryz.prog md n ref08_SameCell_orc (cAt (bodyOf Tryz.prog 79) [1, 1, 0, 1, 0, 0])) (orcAt ref08_SameCell_orc 4) m4 ⟨[.undef, .undef, .ptr 2 [], .ptr 3 [], .undef, .i .i64 i5, .undef, .undef, .undef, .undef, .undef, .undef, .undef, .undef, .undef, .undef, .undef, .undef, .undef, .undef, .undef, .undef, .undef, .undef, .undef, .undef, .undef, .undef, .undef, .undef, .undef, .undef, .undef, .undef, .undef, .undef, .undef, .undef, .undef, .undef, .undef, .undef, .undef, .undef, .undef, .undef, .undef, .undef, .undef, .undef, .undef, .undef, .undef, .undef, .undef, .undef, .undef, .undef, .undef, .undef, .undef], [(2, .var 68 (.d 68 a2) true), (3, .var 68 (.d 68 b3) true)], [2, 3], [], []⟩
   (blockK 0 (seqK (joinE Tryz.prog md (joinAt ref08_SameCell_orc (cAt (bodyOf Tryz.prog 79) [1, 1, 1])) (ev Tryz.prog md n ref08_SameCell_orc (cAt (bodyOf Tryz.prog 79) [1, 1, 1]))) (retK Tryz.prog md (md 79) ref08_SameCell_ps ref08_SameCell_rs ref08_SameCell_ts)))
theorem ref08_SameCell_l4_succ (n m4 : Nat) (i5 : Int) (a2 : D) (b3 : D) : ref08_SameCell_l4 n (m4 + 1) i5 a2 b3 =
 .br (decide (i5 < (((a2.fld 4).els).length : Int))) (.br (decide (0 ≤ i5)) (.br (decide (i5 < (((a2.fld 4).els).length : Int))) (.br (decide (0 ≤ i5)) (.br (decide (i5 < (((b3.fld 4).els).length : Int))) (.call 38 [] [((a2.fld 4).els).getD (Int.toNat i5) D.nil, ((b3.fld 4).els).getD (Int.toNat i5) D.nil] fun yy2 =>
 .br (!((yy2.getD 0 D.nil).toBool)) (.ret [D.bool false])
 (ref08_SameCell_l4 n m4 (IntKind.wrap .i64 (i5 + 1)) a2 b3)) .fail) .fail) .fail) .fail)
 (.ret [D.bool true]) := by kernel_rfl
theorem ref08_SameCell_tree (n : Nat) (a0 : D) (b1 : D) : evFun Tryz.prog md ref08_SameCell_orc n 79 [] [a0, b1] =
 .br (((a0.fld 0).toInt) != ((b1.fld 0).toInt)) (.ret [D.bool false])
 (.br (((a0.fld 1).toInt) != ((b1.fld 1).toInt)) (.ret [D.bool false])
 (.br (((a0.fld 3).toInt) != ((b1.fld 3).toInt)) (.ret [D.bool false])
 (.call 101 [] [a0.fld 2, b1.fld 2] fun yy1 =>
 .br (!((yy1.getD 0 D.nil).toBool)) (.ret [D.bool false])
 (.br ((((a0.fld 4).els).length : Int) != (((b1.fld 4).els).length : Int)) (.ret [D.bool false])
 (ref08_SameCell_l4 n n 0 a0 b1))))) := by kernel_rfl

/-! scrim/scrimref08.zero -/
def ref08_zero_orc : List (Nat × Orc) := []
theorem ref08_zero_tree (n : Nat) (nn0 : D) : evFun Tryz.prog md ref08_zero_orc n 92 [] [nn0] =
 .br (!((nn0.fld 0).toBool)) (.br ((((nn0.fld 1).els).length : Int) == 0) (.ret [D.bool ((((nn0.fld 2).els).length : Int) == 0)])
 (.ret [D.bool false]))
 (.ret [D.bool false]) := by kernel_rfl

/-! scrim/scrimref08.Simple -/
def ref08_Simple_orc : List (Nat × Orc) := []
theorem ref08_Simple_tree (n : Nat) (a0 : D) : evFun Tryz.prog md ref08_Simple_orc n 94 [] [a0] =
 .br ((((a0.fld 1).els).length : Int) == 0) (.br ((((a0.fld 2).els).length : Int) == 1) (.br (decide (0 ≤ 0)) (.br (decide (0 < (((a0.fld 2).els).length : Int))) (.ret [D.bool ((((((a0.fld 2).els).getD (Int.toNat 0) D.nil).fld 1).toInt) != 2)]) .fail) .fail)
 (.ret [D.bool false]))
 (.ret [D.bool false]) := by kernel_rfl

/-! scrim/scrimref08.left -/
def ref08_left_orc : List (Nat × Orc) := [(5, ⟨[(1, none), (2, none), (3, none), (7, none)], [(3, true)], []⟩), (9, ⟨[(1, none), (2, none), (3, none), (7, none), (8, none)], [(3, true)], []⟩)]
def ref08_left_ps : List Nat := [26, 3, 3]
def ref08_left_rs : List ResultVar := [.tmp 6]
def ref08_left_ts : List Nat := [3]
noncomputable def ref08_left_l9 (n m5 m9 : Nat) (deep1 : Int) (nn2 : Int) (i7 : Int) (k8 : Int) (a3 : D) : Tree :=
  evLoop Tryz.prog md (ev Tryz.prog md n ref08_left_orc (cAt (bodyOf Tryz.prog 121) [1, 1, 1, 0, 1, 0, 0, 1, 0, 0, 1, 1, 0, 0])) (orcAt ref08_left_orc 9) m9 ⟨[.undef, .i .i64 deep1, .i .i64 nn2, .ptr 3 [], .undef, .undef, .undef, .i .i64 i7, .i .i64 k8, .undef, .undef, .undef, .undef, .undef, .undef, .undef, .undef, .undef, .undef, .undef, .undef, .undef, .undef, .undef, .undef, .undef, .undef, .undef, .undef, .undef, .undef, .undef, .undef, .undef, .undef, .undef, .undef, .undef, .undef, .undef, .undef, .undef, .undef, .undef, .undef, .undef, .undef, .undef, .undef, .undef, .undef, .undef, .undef, .undef, .undef, .undef, .undef, .undef, .undef, .undef, .undef, .undef, .undef, .undef, .undef, .undef, .undef, .undef, .undef, .undef, .undef, .undef, .undef, .undef, .undef, .undef, .undef], [(3, .var 26 (.d 26 a3) true)], [3], [], []⟩
   (blockK 2 (blockK 1 (seqK (joinE Tryz.prog md (joinAt ref08_left_orc (cAt (bodyOf Tryz.prog 121) [1, 1, 1, 0, 1, 0, 0, 1, 1])) (ev Tryz.prog md n ref08_left_orc (cAt (bodyOf Tryz.prog 121) [1, 1, 1, 0, 1, 0, 0, 1, 1]))) (loopK Tryz.prog md (orcAt ref08_left_orc 5) (fun s1 => evLoop Tryz.prog md (ev Tryz.prog md n ref08_left_orc (cAt (bodyOf Tryz.prog 121) [1, 1, 1, 0, 1, 0, 0])) (orcAt ref08_left_orc 5) m5 s1 (blockK 0 (seqK (joinE Tryz.prog md (joinAt ref08_left_orc (cAt (bodyOf Tryz.prog 121) [1, 1, 1, 1])) (ev Tryz.prog md n ref08_left_orc (cAt (bodyOf Tryz.prog 121) [1, 1, 1, 1]))) (retK Tryz.prog md (md 121) ref08_left_ps ref08_left_rs ref08_left_ts)))) (blockK 0 (seqK (joinE Tryz.prog md (joinAt ref08_left_orc (cAt (bodyOf Tryz.prog 121) [1, 1, 1, 1])) (ev Tryz.prog md n ref08_left_orc (cAt (bodyOf Tryz.prog 121) [1, 1, 1, 1]))) (retK Tryz.prog md (md 121) ref08_left_ps ref08_left_rs ref08_left_ts)))))))
noncomputable def ref08_left_l5 (n m5 : Nat) (deep1 : Int) (nn2 : Int) (i7 : Int) (a3 : D) : Tree :=
  evLoop Tryz.prog md (ev Tryz.prog md n ref08_left_orc (cAt (bodyOf Tryz.prog 121) [1, 1, 1, 0, 1, 0, 0])) (orcAt ref08_left_orc 5) m5 ⟨[.undef, .i .i64 deep1, .i .i64 nn2, .ptr 3 [], .undef, .undef, .undef, .i .i64 i7, .undef, .undef, .undef, .undef, .undef, .undef, .undef, .undef, .undef, .undef, .undef, .undef, .undef, .undef, .undef, .undef, .undef, .undef, .undef, .undef, .undef, .undef, .undef, .undef, .undef, .undef, .undef, .undef, .undef, .undef, .undef, .undef, .undef, .undef, .undef, .undef, .undef, .undef, .undef, .undef, .undef, .undef, .undef, .undef, .undef, .undef, .undef, .undef, .undef, .undef, .undef, .undef, .undef, .undef, .undef, .undef, .undef, .undef, .undef, .undef, .undef, .undef, .undef, .undef, .undef, .undef, .undef, .undef, .undef], [(3, .var 26 (.d 26 a3) true)], [3], [], []⟩
   (blockK 0 (seqK (joinE Tryz.prog md (joinAt ref08_left_orc (cAt (bodyOf Tryz.prog 121) [1, 1, 1, 1])) (ev Tryz.prog md n ref08_left_orc (cAt (bodyOf Tryz.prog 121) [1, 1, 1, 1]))) (retK Tryz.prog md (md 121) ref08_left_ps ref08_left_rs ref08_left_ts)))
theorem ref08_left_l9_succ (n m5 m9 : Nat) (deep1 : Int) (nn2 : Int) (i7 : Int) (k8 : Int) (a3 : D) : ref08_left_l9 n m5 (m9 + 1) deep1 nn2 i7 k8 a3 =
 .br (decide (0 ≤ i7)) (.br (decide (i7 < (((a3.fld 2).els).length : Int))) (.br (decide (k8 < ((((((a3.fld 2).els).getD (Int.toNat i7) D.nil).fld 4).els).length : Int))) (.br (decide (0 ≤ nn2)) (.br (decide (0 ≤ i7)) (.br (decide (i7 < (((a3.fld 2).els).length : Int))) (.br (decide (0 ≤ k8)) (.br (decide (k8 < ((((((a3.fld 2).els).getD (Int.toNat i7) D.nil).fld 4).els).length : Int))) (.call 121 [] [(((((a3.fld 2).els).getD (Int.toNat i7) D.nil).fld 4).els).getD (Int.toNat k8) D.nil, D.int (IntKind.wrap .i64 (deep1 - 1)), D.int nn2] fun yy1 =>
 ref08_left_l9 n m5 m9 deep1 ((yy1.getD 0 D.nil).toInt) i7 (IntKind.wrap .i64 (k8 + 1)) a3) .fail) .fail) .fail) .fail)
 (ref08_left_l5 n m5 deep1 nn2 (IntKind.wrap .i64 (i7 + 1)) a3))
 (ref08_left_l5 n m5 deep1 nn2 (IntKind.wrap .i64 (i7 + 1)) a3)) .fail) .fail := by kernel_rfl
theorem ref08_left_l5_succ (n m5 : Nat) (deep1 : Int) (nn2 : Int) (i7 : Int) (a3 : D) : ref08_left_l5 n (m5 + 1) deep1 nn2 i7 a3 =
 .br (decide (i7 < (((a3.fld 2).els).length : Int))) (.br (decide (0 ≤ nn2)) (.br (decide (0 ≤ i7)) (.br (decide (i7 < (((a3.fld 2).els).length : Int))) (.br (decide (0 ≤ i7)) (.br (decide (i7 < (((a3.fld 2).els).length : Int))) (ref08_left_l9 n m5 n deep1 (IntKind.wrap .i64 ((IntKind.wrap .i64 ((IntKind.wrap .i64 (nn2 - 1)) - (((((((a3.fld 2).els).getD (Int.toNat i7) D.nil).fld 2).fld 1).els).length : Int))) - (((((((a3.fld 2).els).getD (Int.toNat i7) D.nil).fld 2).fld 2).els).length : Int))) i7 0 a3) .fail) .fail) .fail) .fail)
 (.ret [D.int nn2]))
 (.ret [D.int nn2]) := by kernel_rfl
theorem ref08_left_tree (n : Nat) (a0 : D) (deep1 : D) (nn2 : D) : evFun Tryz.prog md ref08_left_orc n 121 [] [a0, deep1, nn2] =
 .br (deep1.toInt == 0) (.ret [D.int (-1)])
 (ref08_left_l5 n n deep1.toInt (IntKind.wrap .i64 ((IntKind.wrap .i64 (nn2.toInt - 1)) - (((a0.fld 1).els).length : Int))) 0 a0) := by kernel_rfl

end Go.Proofs.YtbgcadcpeabpgaaGreat

set_option maxRecDepth 100000
namespace Go.Proofs.YtbgcadcpeabpgaaGreat
/-! scrim/label.Join -/
def label_Join_orc : List (Nat × Orc) := []
theorem label_Join_tree (n : Nat) (a0 : D) (b1 : D) : evFun Tryz.prog md label_Join_orc n 54 [] [a0, b1] =
 .ret [D.int (bits_ .or .u64 a0.toInt b1.toInt)] := by kernel_rfl

/-! scrim/scrimref01.Join -/
def ref01_Join_orc : List (Nat × Orc) := [(3, ⟨[(0, none), (1, none), (5, none), (6, none)], [], []⟩)]
def ref01_Join_ps : List Nat := [22, 22]
def ref01_Join_rs : List ResultVar := [.tmp 4]
def ref01_Join_ts : List Nat := [22]
noncomputable def ref01_Join_l3 (n m3 : Nat) (a0 : Int) (b1 : Int) (out5 : Int) (t6 : Int) : Tree :=
  evLoop Tryz.prog md (ev Tryz.prog md n ref01_Join_orc (cAt (bodyOf Tryz.prog 55) [1, 1, 0, 1, 0, 0])) (orcAt ref01_Join_orc 3) m3 ⟨[.i .u64 a0, .i .u64 b1, .undef, .undef, .undef, .i .u64 out5, .i .i64 t6, .undef, .undef, .undef, .undef, .undef, .undef, .undef, .undef, .undef, .undef, .undef, .undef, .undef, .undef, .undef, .undef, .undef], [], [], [], []⟩
   (blockK 0 (seqK (joinE Tryz.prog md (joinAt ref01_Join_orc (cAt (bodyOf Tryz.prog 55) [1, 1, 1])) (ev Tryz.prog md n ref01_Join_orc (cAt (bodyOf Tryz.prog 55) [1, 1, 1]))) (retK Tryz.prog md (md 55) ref01_Join_ps ref01_Join_rs ref01_Join_ts)))
theorem ref01_Join_l3_succ (n m3 : Nat) (a0 : Int) (b1 : Int) (out5 : Int) (t6 : Int) : ref01_Join_l3 n (m3 + 1) a0 b1 out5 t6 =
 .br (decide (t6 < 64)) (.call 95 [] [D.int a0, D.int t6] fun yy1 =>
 .br ((yy1.getD 0 D.nil).toBool) (.call 96 [] [D.int t6] fun yy2 =>
 ref01_Join_l3 n m3 a0 b1 (IntKind.wrap .u64 (out5 + ((yy2.getD 0 D.nil).toInt))) (IntKind.wrap .i64 (t6 + 1)))
 (.call 95 [] [D.int b1, D.int t6] fun yy3 =>
 .br ((yy3.getD 0 D.nil).toBool) (.call 96 [] [D.int t6] fun yy4 =>
 ref01_Join_l3 n m3 a0 b1 (IntKind.wrap .u64 (out5 + ((yy4.getD 0 D.nil).toInt))) (IntKind.wrap .i64 (t6 + 1)))
 (ref01_Join_l3 n m3 a0 b1 out5 (IntKind.wrap .i64 (t6 + 1)))))
 (.ret [D.int out5]) := by kernel_rfl
theorem ref01_Join_tree (n : Nat) (a0 : D) (b1 : D) : evFun Tryz.prog md ref01_Join_orc n 55 [] [a0, b1] =
 ref01_Join_l3 n n a0.toInt b1.toInt 0 0 := by kernel_rfl

/-! scrim/scrimref01.Has -/
def ref01_Has_orc : List (Nat × Orc) := [(2, ⟨[(0, none), (1, none), (5, none)], [], []⟩)]
def ref01_Has_ps : List Nat := [22, 3]
def ref01_Has_rs : List ResultVar := [.tmp 4]
def ref01_Has_ts : List Nat := [4]
noncomputable def ref01_Has_l2 (n m2 : Nat) (l0 : Int) (t1 : Int) (i5 : Int) : Tree :=
  evLoop Tryz.prog md (ev Tryz.prog md n ref01_Has_orc (cAt (bodyOf Tryz.prog 95) [1, 0, 1, 0, 0])) (orcAt ref01_Has_orc 2) m2 ⟨[.i .u64 l0, .i .i64 t1, .undef, .undef, .undef, .i .i64 i5, .undef, .undef, .undef, .undef, .undef, .undef, .undef, .undef, .undef, .undef], [], [], [], []⟩
   (blockK 0 (seqK (joinE Tryz.prog md (joinAt ref01_Has_orc (cAt (bodyOf Tryz.prog 95) [1, 1])) (ev Tryz.prog md n ref01_Has_orc (cAt (bodyOf Tryz.prog 95) [1, 1]))) (retK Tryz.prog md (md 95) ref01_Has_ps ref01_Has_rs ref01_Has_ts)))
theorem ref01_Has_l2_succ (n m2 : Nat) (l0 : Int) (t1 : Int) (i5 : Int) : ref01_Has_l2 n (m2 + 1) l0 t1 i5 =
 .br (decide (i5 < t1)) (.br (!(2 == (0 : Int))) (ref01_Has_l2 n m2 (IntKind.wrap .u64 (Int.tdiv l0 2)) t1 (IntKind.wrap .i64 (i5 + 1))) .fail)
 (.br (!(2 == (0 : Int))) (.ret [D.bool ((Int.tmod l0 2) == 1)]) .fail) := by kernel_rfl
theorem ref01_Has_tree (n : Nat) (l0 : D) (t1 : D) : evFun Tryz.prog md ref01_Has_orc n 95 [] [l0, t1] =
 ref01_Has_l2 n n l0.toInt t1.toInt 0 := by kernel_rfl

/-! scrim/scrimref01.Bit -/
def ref01_Bit_orc : List (Nat × Orc) := [(3, ⟨[(0, none), (3, none), (4, none)], [], []⟩)]
def ref01_Bit_ps : List Nat := [3]
def ref01_Bit_rs : List ResultVar := [.tmp 2]
def ref01_Bit_ts : List Nat := [22]
noncomputable def ref01_Bit_l3 (n m3 : Nat) (t0 : Int) (nn3 : Int) (i4 : Int) : Tree :=
  evLoop Tryz.prog md (ev Tryz.prog md n ref01_Bit_orc (cAt (bodyOf Tryz.prog 96) [1, 1, 0, 1, 0, 0])) (orcAt ref01_Bit_orc 3) m3 ⟨[.i .i64 t0, .undef, .undef, .i .u64 nn3, .i .i64 i4, .undef, .undef, .undef, .undef, .undef, .undef, .undef, .undef], [], [], [], []⟩
   (blockK 0 (seqK (joinE Tryz.prog md (joinAt ref01_Bit_orc (cAt (bodyOf Tryz.prog 96) [1, 1, 1])) (ev Tryz.prog md n ref01_Bit_orc (cAt (bodyOf Tryz.prog 96) [1, 1, 1]))) (retK Tryz.prog md (md 96) ref01_Bit_ps ref01_Bit_rs ref01_Bit_ts)))
theorem ref01_Bit_l3_succ (n m3 : Nat) (t0 : Int) (nn3 : Int) (i4 : Int) : ref01_Bit_l3 n (m3 + 1) t0 nn3 i4 =
 .br (decide (i4 < t0)) (ref01_Bit_l3 n m3 t0 (IntKind.wrap .u64 (nn3 * 2)) (IntKind.wrap .i64 (i4 + 1)))
 (.ret [D.int nn3]) := by kernel_rfl
theorem ref01_Bit_tree (n : Nat) (t0 : D) : evFun Tryz.prog md ref01_Bit_orc n 96 [] [t0] =
 ref01_Bit_l3 n n t0.toInt 1 0 := by kernel_rfl

end Go.Proofs.YtbgcadcpeabpgaaGreat

namespace Go.Proofs.YtbgcadcpeabpgaaGreat

abbrev Lab := BitVec 64
abbrev Limb := BitVec 32
structure Num where
  neg : Bool
  top : List Limb
  bot : List Limb
  deriving DecidableEq
structure CellF (α : Type) where
  l : Lab
  kind : Int
  n : Num
  c : Int
  inn : List α
inductive Arr where
  | mk (s : Lab) (shape : List Int) (cells : List (CellF Arr))
abbrev Cell := CellF Arr
def Arr.s : Arr → Lab | .mk s _ _ => s
def Arr.shape : Arr → List Int | .mk _ s _ => s
def Arr.cells : Arr → List Cell | .mk _ _ c => c
@[simp] theorem Arr.s_mk (s sh cs) : (Arr.mk s sh cs).s = s := rfl
@[simp] theorem Arr.shape_mk (s sh cs) : (Arr.mk s sh cs).shape = sh := rfl
@[simp] theorem Arr.cells_mk (s sh cs) : (Arr.mk s sh cs).cells = cs := rfl
def Num.zero : Num := ⟨false, [], []⟩
def Cell.none : Cell := ⟨0, 0, .zero, 0, []⟩
def Arr.none : Arr := .mk 0 [] []

theorem Arr.ind {p : Arr → Prop} (h : ∀ s sh cs, (∀ c ∈ cs, ∀ x ∈ c.inn, p x) → p (.mk s sh cs)) (a : Arr) : p a :=
  Arr.rec (motive_1 := p) (motive_2 := fun cs => ∀ c ∈ cs, ∀ x ∈ c.inn, p x) (motive_3 := fun c => ∀ x ∈ c.inn, p x) (motive_4 := fun as_ => ∀ x ∈ as_, p x)
    (fun s sh cs ih => h s sh cs ih) (fun c hc => by cases hc)
    (fun c cs h1 h2 d hd => by rcases List.mem_cons.1 hd with rfl | hd; exact h1; exact h2 d hd)
    (fun _ _ _ _ _ ih => ih) (fun x hx => by cases hx)
    (fun a as_ h1 h2 x hx => by rcases List.mem_cons.1 hx with rfl | hx; exact h1; exact h2 x hx) a

def dB {k : Nat} (x : BitVec k) : D := .int (x.toNat : Int)
def dI (l : List Int) : D := .sl (l.map .int)
def dL (l : List Limb) : D := .sl (l.map dB)
def dN (n : Num) : D := .agg [.bool n.neg, dL n.top, dL n.bot]
mutual
def dA : Arr → D
  | .mk s sh cs => .agg [dB s, dI sh, .sl (dCs cs)]
def dCs : List (CellF Arr) → List D
  | [] => []
  | c :: cs => dC c :: dCs cs
def dC : CellF Arr → D
  | ⟨l, k, n, c, inn⟩ => .agg [dB l, .int k, dN n, .int c, .sl (dAs inn)]
def dAs : List Arr → List D
  | [] => []
  | a :: as_ => dA a :: dAs as_
end
theorem dCs_map : ∀ cs, dCs cs = cs.map dC
  | [] => by simp [dCs]
  | c :: cs => by simp [dCs, dCs_map cs]
theorem dAs_map : ∀ as_, dAs as_ = as_.map dA
  | [] => by simp [dAs]
  | a :: as_ => by simp [dAs, dAs_map as_]
theorem dA_eq (a : Arr) : dA a = .agg [dB a.s, dI a.shape, .sl (a.cells.map dC)] := by cases a; simp [dA, dCs_map]
theorem dC_eq (c : Cell) : dC c = .agg [dB c.l, .int c.kind, dN c.n, .int c.c, .sl (c.inn.map dA)] := by cases c; simp [dC, dAs_map]
theorem dA_mk (s : Lab) (sh : List Int) (cs : List Cell) : D.agg [dB s, dI sh, .sl (cs.map dC)] = dA (.mk s sh cs) := by rw [dA_eq]; rfl
section simps
@[simp] theorem fld_agg0 (x : D) (l : List D) : (D.agg (x :: l)).fld 0 = x := rfl
@[simp] theorem fld_agg1 (x y : D) (l : List D) : (D.agg (x :: y :: l)).fld 1 = y := rfl
@[simp] theorem fld_agg2 (x y z : D) (l : List D) : (D.agg (x :: y :: z :: l)).fld 2 = z := rfl
@[simp] theorem fld_agg3 (x y z u : D) (l : List D) : (D.agg (x :: y :: z :: u :: l)).fld 3 = u := rfl
@[simp] theorem fld_agg4 (x y z u v : D) (l : List D) : (D.agg (x :: y :: z :: u :: v :: l)).fld 4 = v := rfl
@[simp] theorem dA_0 (a : Arr) : (dA a).fld 0 = dB a.s := by rw [dA_eq]; rfl
@[simp] theorem dA_1 (a : Arr) : (dA a).fld 1 = dI a.shape := by rw [dA_eq]; rfl
@[simp] theorem dA_2 (a : Arr) : (dA a).fld 2 = .sl (a.cells.map dC) := by rw [dA_eq]; rfl
@[simp] theorem dC_0 (c : Cell) : (dC c).fld 0 = dB c.l := by rw [dC_eq]; rfl
@[simp] theorem dC_1 (c : Cell) : (dC c).fld 1 = .int c.kind := by rw [dC_eq]; rfl
@[simp] theorem dC_2 (c : Cell) : (dC c).fld 2 = dN c.n := by rw [dC_eq]; rfl
@[simp] theorem dC_3 (c : Cell) : (dC c).fld 3 = .int c.c := by rw [dC_eq]; rfl
@[simp] theorem dC_4 (c : Cell) : (dC c).fld 4 = .sl (c.inn.map dA) := by rw [dC_eq]; rfl
@[simp] theorem dN_0 (n : Num) : (dN n).fld 0 = .bool n.neg := rfl
@[simp] theorem dN_1 (n : Num) : (dN n).fld 1 = dL n.top := rfl
@[simp] theorem dN_2 (n : Num) : (dN n).fld 2 = dL n.bot := rfl
@[simp] theorem els_sl (l : List D) : (D.sl l).els = l := rfl
@[simp] theorem els_dI (l : List Int) : (dI l).els = l.map .int := rfl
@[simp] theorem els_dL (l : List Limb) : (dL l).els = l.map dB := rfl
@[simp] theorem toInt_int (n : Int) : (D.int n).toInt = n := rfl
@[simp] theorem toInt_dB {k : Nat} (x : BitVec k) : (dB x).toInt = (x.toNat : Int) := rfl
@[simp] theorem toBool_bool (b : Bool) : (D.bool b).toBool = b := rfl
@[simp] theorem unref_ref (x : D) : (D.ref x).unref = x := rfl
@[simp] theorem fnId_fn (f c d) : (D.fn f c d).fnId = f := rfl
@[simp] theorem fnCts_fn (f c d) : (D.fn f c d).fnCts = c := rfl
@[simp] theorem fnDs_fn (f c d) : (D.fn f c d).fnDs = d := rfl
@[simp] theorem getD_c0 (x : D) (l : List D) : (x :: l).getD 0 D.nil = x := rfl
@[simp] theorem getD_c1 (x y : D) (l : List D) : (x :: y :: l).getD 1 D.nil = y := rfl
@[simp] theorem getD_c2 (x y z : D) (l : List D) : (x :: y :: z :: l).getD 2 D.nil = z := rfl
@[simp] theorem getD_c3 (x y z u : D) (l : List D) : (x :: y :: z :: u :: l).getD 3 D.nil = u := rfl
theorem dInt_dB {k : Nat} (x : BitVec k) : D.int (x.toNat : Int) = dB x := rfl
theorem dsl_dI (l : List Int) : D.sl (l.map .int) = dI l := rfl
theorem dsl_dL (l : List Limb) : D.sl (l.map dB) = dL l := rfl
end simps

/-- A row, from a place on. -/
theorem drop_cons {α : Type} {l : List α} {i : Nat} {x : α} {xs : List α} (h : l.drop i = x :: xs) : i < l.length ∧ l[i]? = some x ∧ l.drop (i + 1) = xs := by
  have hi : i < l.length := by
    rcases Nat.lt_or_ge i l.length with h1 | h1
    · exact h1
    · rw [List.drop_eq_nil_of_le h1] at h; cases h
  rw [List.drop_eq_getElem_cons hi] at h
  injection h with h1 h2
  exact ⟨hi, by rw [List.getElem?_eq_getElem hi, h1], h2⟩
theorem drop_nil {α : Type} {l : List α} {i : Nat} (h : l.drop i = []) : l.length ≤ i := List.drop_eq_nil_iff.1 h
theorem getD_map {α : Type} {l : List α} {i : Nat} {x : α} {f : α → D} (h : l[i]? = some x) : (l.map f).getD i D.nil = f x := by
  rw [List.getD_eq_getElem?_getD, List.getElem?_map, h]; rfl
theorem wrap64 {x : Int} (h1 : -9223372036854775808 ≤ x) (h2 : x ≤ 9223372036854775807) : IntKind.wrap .i64 x = x := by rw [IntKind.wrap_i64]; omega
theorem wrapU64 {x : Int} (h1 : 0 ≤ x) (h2 : x < 18446744073709551616) : IntKind.wrap .u64 x = x := by rw [IntKind.wrap_u64]; omega
theorem wrapU32 {x : Int} (h1 : 0 ≤ x) (h2 : x < 4294967296) : IntKind.wrap .u32 x = x := by rw [IntKind.wrap_u32]; omega

end Go.Proofs.YtbgcadcpeabpgaaGreat

namespace Go.Proofs.YtbgcadcpeabpgaaGreat

/-- What is told of a function without captures. -/
abbrev Sp (f : Nat) (xs ys : List D) : Prop := Spec Tryz.prog md f [] xs ys
/-- What a tree comes to. -/
abbrev Tw (t : Tree) (ys : List D) : Prop := t.wp Tryz.prog md (fun zs => zs = ys)

theorem int_beq (x y : Int) : (x == y) = decide (x = y) := by by_cases h : x = y <;> simp [h]
theorem int_bne (x y : Int) : (x != y) = decide (¬ x = y) := by by_cases h : x = y <;> simp [h]
theorem not_dec (p : Prop) [Decidable p] : (!decide p) = decide (¬ p) := by by_cases h : p <;> simp [h]
theorem wrap_succ {k : Nat} (h : k < 9223372036854775807) : IntKind.wrap .i64 ((k : Int) + 1) = ((k + 1 : Nat) : Int) := by rw [wrap64 (by omega) (by omega)]; rfl
/-- A loop along a list. -/
theorem loop_list {α σ : Type} {P : Program} {md : Nat → FMode} (xs : List α) (L : Nat → Nat → σ → Tree) (f : List α → σ → List D) (I : List α → σ → Prop)
    (hnil : ∀ m k s, k = xs.length → I [] s → (L (m + 1) k s).wp P md (fun zs => zs = f [] s))
    (hcons : ∀ m k s x rest, xs.drop k = x :: rest → I (x :: rest) s → (∀ s', I rest s' → (L m (k + 1) s').wp P md (fun zs => zs = f rest s')) → (L (m + 1) k s).wp P md (fun zs => zs = f (x :: rest) s)) :
    ∀ m k s, xs.length - k < m → k ≤ xs.length → I (xs.drop k) s → (L m k s).wp P md (fun zs => zs = f (xs.drop k) s) := by
  intro m
  induction m with
  | zero => intro k s h; omega
  | succ m ih =>
    intro k s h1 h2 hI
    cases hd : xs.drop k with
    | nil => rw [hd] at hI; exact hnil m k s (by have := drop_nil hd; omega) hI
    | cons x rest =>
      rw [hd] at hI
      obtain ⟨a1, a2, a3⟩ := drop_cons hd
      refine hcons m k s x rest hd hI (fun s' hI' => ?_)
      have := ih (k + 1) s' (by omega) (by omega) (by rw [a3]; exact hI')
      rwa [a3] at this
/-- A loop that counts up. -/
theorem loop_up {σ : Type} {P : Program} {md : Nat → FMode} (N : Nat) (L : Nat → Nat → σ → Tree) (f : Nat → σ → List D) (I : Nat → σ → Prop)
    (hend : ∀ m s, I N s → (L (m + 1) N s).wp P md (fun zs => zs = f N s))
    (hstep : ∀ m k s, k < N → I k s → (∀ s', I (k + 1) s' → (L m (k + 1) s').wp P md (fun zs => zs = f (k + 1) s')) → (L (m + 1) k s).wp P md (fun zs => zs = f k s)) :
    ∀ m k s, N - k < m → k ≤ N → I k s → (L m k s).wp P md (fun zs => zs = f k s) := by
  intro m
  induction m with
  | zero => intro k s h; omega
  | succ m ih =>
    intro k s h1 h2 hI
    by_cases hk : k = N
    · subst hk; exact hend m s hI
    · exact hstep m k s (by omega) hI (fun s' hI' => ih (k + 1) s' (by omega) (by omega) hI')
/-- A loop that counts down to 0, from k-1 on. -/
theorem loop_down {σ : Type} {P : Program} {md : Nat → FMode} (L : Nat → Nat → σ → Tree) (f : Nat → σ → List D) (I : Nat → σ → Prop)
    (hend : ∀ m s, I 0 s → (L (m + 1) 0 s).wp P md (fun zs => zs = f 0 s))
    (hstep : ∀ m k s, I (k + 1) s → (∀ s', I k s' → (L m k s').wp P md (fun zs => zs = f k s')) → (L (m + 1) (k + 1) s).wp P md (fun zs => zs = f (k + 1) s)) :
    ∀ m k s, k < m → I k s → (L m k s).wp P md (fun zs => zs = f k s) := by
  intro m
  induction m with
  | zero => intro k s h; omega
  | succ m ih =>
    intro k s h1 hI
    cases k with
    | zero => exact hend m s hI
    | succ k => exact hstep m k s hI (fun s' hI' => ih k s' (by omega) hI')
end Go.Proofs.YtbgcadcpeabpgaaGreat

set_option maxRecDepth 100000
namespace Go.Proofs.YtbgcadcpeabpgaaGreat

theorem or_bits (a b : Lab) : bits_ .or .u64 (a.toNat : Int) (b.toNat : Int) = ((a ||| b).toNat : Int) := by
  show IntKind.wrap .u64 ((BitVec.ofInt 64 (a.toNat : Int) ||| BitVec.ofInt 64 (b.toNat : Int)).toNat : Int) = _
  have h := (a ||| b).isLt
  rw [show BitVec.ofInt 64 (a.toNat : Int) = a by simp, show BitVec.ofInt 64 (b.toNat : Int) = b by simp]
  exact wrapU64 (Int.natCast_nonneg _) (Int.ofNat_lt.2 h)
theorem label_Join_sp (a b : Lab) : Sp 54 [dB a, dB b] [dB (a ||| b)] := by
  refine sound_ 0 (label_Join_tree 0 _ _) (wp_ret ?_)
  simp only [toInt_dB, or_bits]; rfl
theorem ref01_Has_sp (l : Lab) (t : Nat) (ht : t < 1000) : Sp 95 [dB l, .int t] [.bool (l.getLsbD t)] := by
  refine sound_ (t + 1) (ref01_Has_tree _ _ _) ?_
  have := loop_up (P := Tryz.prog) (md := md) t (fun m k (v : Nat) => ref01_Has_l2 (t + 1) m (v : Int) (t : Int) (k : Int)) (fun k v => [.bool (decide (v / 2 ^ (t - k) % 2 = 1))]) (fun _ v => v < 18446744073709551616)
    (fun m v hv => by
      simp only [ref01_Has_l2_succ]
      refine wp_ndec (by omega) (wp_tt (by decide) (wp_ret ?_))
      rw [int_beq, Int.tmod_eq_emod_of_nonneg (by omega)]
      simp; omega)
    (fun m k v hk hv ih => by
      simp only [ref01_Has_l2_succ]
      refine wp_dec (by omega) (wp_tt (by decide) ?_)
      rw [wrap_succ (by omega), Int.tdiv_eq_ediv_of_nonneg (by omega), wrapU64 (by omega) (by omega)]
      have := ih (v / 2) (by omega)
      rw [show t - k = (t - (k + 1)) + 1 by omega, Nat.pow_succ, Nat.mul_comm, ← Nat.div_div_eq_div_mul]
      exact this)
    (t + 1) 0 l.toNat (by omega) (by omega) (by have := l.isLt; omega)
  rw [BitVec.getLsbD, Nat.testBit_eq_decide_div_mod_eq]
  exact this
theorem ref01_Bit_sp (t : Nat) (ht : t < 64) : Sp 96 [.int t] [.int ((2 ^ t : Nat) : Int)] := by
  refine sound_ (t + 1) (ref01_Bit_tree _ _) ?_
  have := loop_up (P := Tryz.prog) (md := md) t (fun m k (v : Nat) => ref01_Bit_l3 (t + 1) m (t : Int) (v : Int) (k : Int)) (fun k v => [.int ((2 ^ t : Nat) : Int)]) (fun k v => v = 2 ^ k)
    (fun m v hv => by
      subst hv
      simp only [ref01_Bit_l3_succ]
      exact wp_ndec (by omega) (wp_ret rfl))
    (fun m k v hk hv ih => by
      subst hv
      simp only [ref01_Bit_l3_succ]
      refine wp_dec (by omega) ?_
      have h2 : 2 ^ (k + 1) < 18446744073709551616 := Nat.lt_of_le_of_lt (Nat.pow_le_pow_right (by decide) (show k + 1 ≤ 63 by omega)) (by decide)
      rw [wrap_succ (by omega), show ((2 ^ k : Nat) : Int) * 2 = ((2 ^ (k + 1) : Nat) : Int) by rw [Nat.pow_succ]; rfl]
      generalize hx : (2 : Nat) ^ (k + 1) = x at *
      rw [wrapU64 (x := (x : Int)) (by omega) (by omega)]
      exact ih _ rfl)
    (t + 1) 0 1 (by omega) (by omega) rfl
  exact this
theorem ref01_Join_sp (a b : Lab) : Sp 55 [dB a, dB b] [dB (a ||| b)] := by
  refine sound_ 65 (ref01_Join_tree _ _ _) ?_
  have := loop_up (P := Tryz.prog) (md := md) 64 (fun m k (v : Nat) => ref01_Join_l3 65 m (a.toNat : Int) (b.toNat : Int) (v : Int) (k : Int)) (fun k v => [dB (a ||| b)]) (fun k v => v = (a ||| b).toNat % 2 ^ k)
    (fun m v hv => by
      subst hv
      simp only [ref01_Join_l3_succ]
      refine wp_ndec (by omega) (wp_ret ?_)
      rw [Nat.mod_eq_of_lt (a ||| b).isLt]; rfl)
    (fun m k v hk hv ih => by
      simp only [ref01_Join_l3_succ]
      refine wp_dec (by omega) (wp_call (ref01_Has_sp a k (by omega)) ?_)
      have hb : (a ||| b).toNat.testBit k = (a.getLsbD k || b.getLsbD k) := by rw [← BitVec.getLsbD_or]; rfl
      have hs : (a ||| b).toNat % 2 ^ (k + 1) = (a ||| b).toNat % 2 ^ k + 2 ^ k * ((a ||| b).toNat.testBit k).toNat := by rw [Nat.mod_pow_succ, Nat.toNat_testBit]
      have hlt : (a ||| b).toNat % 2 ^ (k + 1) < 18446744073709551616 := Nat.lt_of_le_of_lt (Nat.mod_le _ _) (a ||| b).isLt
      rw [hb] at hs
      simp only [getD_c0, toBool_bool]
      have hst : (a.getLsbD k || b.getLsbD k) = true → IntKind.wrap .u64 ((v : Int) + ((2 ^ k : Nat) : Int)) = (((a ||| b).toNat % 2 ^ (k + 1) : Nat) : Int) := by
        intro h
        rw [h] at hs
        simp only [Bool.toNat_true, Nat.mul_one] at hs
        rw [← hv] at hs
        rw [show (v : Int) + ((2 ^ k : Nat) : Int) = ((v + 2 ^ k : Nat) : Int) from rfl, ← hs]
        generalize (a ||| b).toNat % 2 ^ (k + 1) = x at *
        rw [wrapU64 (x := (x : Int)) (by omega) (by omega)]
      refine wp_br (fun h => ?_) (fun h => ?_)
      · refine wp_call (ref01_Bit_sp k hk) ?_
        simp only [getD_c0, toInt_int]
        rw [hst (by simp [h]), wrap_succ (by omega)]
        exact ih _ rfl
      · refine wp_call (ref01_Has_sp b k (by omega)) ?_
        simp only [getD_c0, toBool_bool]
        refine wp_br (fun h' => ?_) (fun h' => ?_)
        · refine wp_call (ref01_Bit_sp k hk) ?_
          simp only [getD_c0, toInt_int]
          rw [hst (by simp [h']), wrap_succ (by omega)]
          exact ih _ rfl
        · rw [wrap_succ (by omega)]
          refine ih _ ?_
          rw [hs, h, h', hv]; simp)
    65 0 0 (by omega) (by omega) (by simp [Nat.mod_one])
  exact this
end Go.Proofs.YtbgcadcpeabpgaaGreat

set_option maxRecDepth 100000
namespace Go.Proofs.YtbgcadcpeabpgaaGreat
/-! scrim/scrimref04.Small -/
def ref04_Small_orc : List (Nat × Orc) := []
theorem ref04_Small_tree (n : Nat) (a0 : D) : evFun Tryz.prog md ref04_Small_orc n 72 [] [a0] =
 .call 114 [] [a0] fun yy1 =>
 .br (!((yy1.getD 0 D.nil).toBool)) (.ret [D.int 0, D.bool false])
 (.call 116 [] [a0] fun yy2 =>
 .call 115 [] [yy2.getD 0 D.nil] fun yy3 =>
 .ret [D.int ((yy3.getD 0 D.nil).toInt), D.bool ((yy3.getD 1 D.nil).toBool)]) := by kernel_rfl

/-! scrim/ratio.Small -/
def ratio_Small_orc : List (Nat × Orc) := []
theorem ratio_Small_tree (n : Nat) (a0 : D) : evFun Tryz.prog md ratio_Small_orc n 80 [] [a0] =
 .call 123 [] [a0.fld 2] fun yy1 =>
 .br (!((yy1.getD 0 D.nil).toBool)) (.ret [D.int 0, D.bool false])
 (.call 125 [] [a0] fun yy2 =>
 .call 124 [] [yy2.getD 0 D.nil] fun yy3 =>
 .ret [D.int ((yy3.getD 0 D.nil).toInt), D.bool ((yy3.getD 1 D.nil).toBool)]) := by kernel_rfl

/-! scrim/scrimref04.Right -/
def ref04_Right_orc : List (Nat × Orc) := []
theorem ref04_Right_tree (n : Nat) (a0 : D) : evFun Tryz.prog md ref04_Right_orc n 91 [] [a0] =
 .br (decide (32 < (((a0.fld 1).els).length : Int))) (.ret [D.bool false])
 (.br (decide (32 < (((a0.fld 2).els).length : Int))) (.ret [D.bool false])
 (.call 116 [] [a0] fun yy1 =>
 .call 120 [] [a0] fun yy2 =>
 .call 130 [] [yy1.getD 0 D.nil, yy2.getD 0 D.nil] fun yy3 =>
 .br (((yy3.getD 1 D.nil).toInt) == 0) (.call 101 [] [a0, yy3.getD 0 D.nil] fun yy4 =>
 .ret [D.bool ((yy4.getD 0 D.nil).toBool)])
 (.ret [D.bool false]))) := by kernel_rfl

/-! scrim/scrimref04.Same -/
def ref04_Same_orc : List (Nat × Orc) := []
theorem ref04_Same_tree (n : Nat) (a0 : D) (b1 : D) : evFun Tryz.prog md ref04_Same_orc n 101 [] [a0, b1] =
 .br (((a0.fld 0).toBool) == ((b1.fld 0).toBool)) (.call 132 [] [a0.fld 1, b1.fld 1] fun yy1 =>
 .br ((yy1.getD 0 D.nil).toBool) (.call 132 [] [a0.fld 2, b1.fld 2] fun yy2 =>
 .ret [D.bool ((yy2.getD 0 D.nil).toBool)])
 (.ret [D.bool false]))
 (.ret [D.bool false]) := by kernel_rfl

/-! scrim/ratio.Of -/
def ratio_Of_orc : List (Nat × Orc) := []
theorem ratio_Of_tree (n : Nat) (nn0 : D) : evFun Tryz.prog md ratio_Of_orc n 102 [] [nn0] =
 .call 134 [] [D.int nn0.toInt] fun yy1 =>
 .call 133 [] [yy1.getD 0 D.nil] fun yy2 =>
 .ret [yy2.getD 0 D.nil] := by kernel_rfl

/-! scrim/scrimref04.IsWhole -/
def ref04_IsWhole_orc : List (Nat × Orc) := []
theorem ref04_IsWhole_tree (n : Nat) (a0 : D) : evFun Tryz.prog md ref04_IsWhole_orc n 114 [] [a0] =
 .br ((((a0.fld 2).els).length : Int) == 1) (.br (decide (0 ≤ 0)) (.br (decide (0 < (((a0.fld 2).els).length : Int))) (.ret [D.bool (((((a0.fld 2).els).getD (Int.toNat 0) D.nil).toInt) == 1)]) .fail) .fail)
 (.ret [D.bool false]) := by kernel_rfl

/-! scrim/scrimref04.Top -/
def ref04_Top_orc : List (Nat × Orc) := []
theorem ref04_Top_tree (n : Nat) (a0 : D) : evFun Tryz.prog md ref04_Top_orc n 116 [] [a0] =
 .call 145 [] [D.agg [D.bool ((a0.fld 0).toBool), a0.fld 1]] fun yy1 =>
 .ret [yy1.getD 0 D.nil] := by kernel_rfl

/-! scrim/scrimref04.Bot -/
def ref04_Bot_orc : List (Nat × Orc) := []
theorem ref04_Bot_tree (n : Nat) (a0 : D) : evFun Tryz.prog md ref04_Bot_orc n 120 [] [a0] =
 .call 145 [] [D.agg [D.bool false, a0.fld 2]] fun yy1 =>
 .ret [yy1.getD 0 D.nil] := by kernel_rfl

/-! scrim/scrimref04.Of -/
def ref04_Of_orc : List (Nat × Orc) := []
theorem ref04_Of_tree (n : Nat) (nn0 : D) : evFun Tryz.prog md ref04_Of_orc n 122 [] [nn0] =
 .call 147 [] [D.int nn0.toInt] fun yy1 =>
 .call 152 [] [yy1.getD 0 D.nil] fun yy2 =>
 .ret [yy2.getD 0 D.nil] := by kernel_rfl

/-! scrim/ratio.isOne -/
def ratio_isOne_orc : List (Nat × Orc) := []
theorem ratio_isOne_tree (n : Nat) (a0 : D) : evFun Tryz.prog md ratio_isOne_orc n 123 [] [a0] =
 .br ((a0.els.length : Int) == 1) (.br (decide (0 ≤ 0)) (.br (decide (0 < (a0.els.length : Int))) (.ret [D.bool (((a0.els.getD (Int.toNat 0) D.nil).toInt) == 1)]) .fail) .fail)
 (.ret [D.bool false]) := by kernel_rfl

/-! scrim/ratio.top -/
def ratio_top_orc : List (Nat × Orc) := []
theorem ratio_top_tree (n : Nat) (a0 : D) : evFun Tryz.prog md ratio_top_orc n 125 [] [a0] =
 .ret [D.agg [D.bool ((a0.fld 0).toBool), a0.fld 1]] := by kernel_rfl

/-! scrim/scrimref04.Make -/
def ref04_Make_orc : List (Nat × Orc) := []
theorem ref04_Make_tree (n : Nat) (p0 : D) (q1 : D) : evFun Tryz.prog md ref04_Make_orc n 130 [] [p0, q1] =
 .call 145 [] [p0] fun yy1 =>
 .call 145 [] [q1] fun yy2 =>
 .br (((((yy2.getD 0 D.nil).fld 1).els).length : Int) == 0) (.ret [D.agg [D.bool false, D.sl [], D.sl []], D.int 3])
 (.call 154 [] [(yy1.getD 0 D.nil).fld 1, (yy2.getD 0 D.nil).fld 1] fun yy3 =>
 .call 155 [] [(yy1.getD 0 D.nil).fld 1, yy3.getD 0 D.nil] fun yy4 =>
 .call 155 [] [(yy2.getD 0 D.nil).fld 1, yy3.getD 0 D.nil] fun yy5 =>
 .br (decide (32 < (((yy4.getD 0 D.nil).els).length : Int))) (.ret [D.agg [D.bool false, D.sl [], D.sl []], D.int 7])
 (.br (decide (32 < (((yy5.getD 0 D.nil).els).length : Int))) (.ret [D.agg [D.bool false, D.sl [], D.sl []], D.int 7])
 (.br (decide (0 < (((yy4.getD 0 D.nil).els).length : Int))) (.ret [D.agg [D.bool (!((((yy1.getD 0 D.nil).fld 0).toBool) == (((yy2.getD 0 D.nil).fld 0).toBool))), yy4.getD 0 D.nil, yy5.getD 0 D.nil], D.int 0])
 (.ret [D.agg [D.bool false, yy4.getD 0 D.nil, yy5.getD 0 D.nil], D.int 0])))) := by kernel_rfl

/-! scrim/ratio.Whole -/
def ratio_Whole_orc : List (Nat × Orc) := []
theorem ratio_Whole_tree (n : Nat) (nn0 : D) : evFun Tryz.prog md ratio_Whole_orc n 133 [] [nn0] =
 .call 153 [] [nn0] fun yy1 =>
 .br (decide (32 < ((((yy1.getD 0 D.nil).fld 1).els).length : Int))) (.ret [D.agg [D.bool false, D.sl [], D.sl []]])
 (.ret [D.agg [D.bool (((yy1.getD 0 D.nil).fld 0).toBool), (yy1.getD 0 D.nil).fld 1, D.sl [D.int 1]]]) := by kernel_rfl

/-! scrim/scrimref04.Whole -/
def ref04_Whole_orc : List (Nat × Orc) := []
theorem ref04_Whole_tree (n : Nat) (nn0 : D) : evFun Tryz.prog md ref04_Whole_orc n 152 [] [nn0] =
 .call 145 [] [nn0] fun yy1 =>
 .ret [D.agg [D.bool (((yy1.getD 0 D.nil).fld 0).toBool), (yy1.getD 0 D.nil).fld 1, D.sl [D.int 1]]] := by kernel_rfl

end Go.Proofs.YtbgcadcpeabpgaaGreat

set_option maxRecDepth 100000
namespace Go.Proofs.YtbgcadcpeabpgaaGreat
/-! scrim/scrimref07.Ints -/
def ref07_Ints_orc : List (Nat × Orc) := [(4, ⟨[(0, some 23), (1, some 23), (5, none)], [], []⟩)]
def ref07_Ints_ps : List Nat := [23, 23]
def ref07_Ints_rs : List ResultVar := [.tmp 4]
def ref07_Ints_ts : List Nat := [4]
noncomputable def ref07_Ints_l4 (n m4 : Nat) (a0 : D) (b1 : D) (i5 : Int) : Tree :=
  evLoop Tryz.prog md (ev Tryz.prog md n ref07_Ints_orc (cAt (bodyOf Tryz.prog 24) [1, 1, 0, 1, 0, 0])) (orcAt ref07_Ints_orc 4) m4 ⟨[.d 23 a0, .d 23 b1, .undef, .undef, .undef, .i .i64 i5, .undef, .undef, .undef, .undef, .undef, .undef, .undef, .undef, .undef, .undef, .undef, .undef, .undef, .undef, .undef, .undef, .undef, .undef, .undef, .undef], [], [], [], []⟩
   (blockK 0 (seqK (joinE Tryz.prog md (joinAt ref07_Ints_orc (cAt (bodyOf Tryz.prog 24) [1, 1, 1])) (ev Tryz.prog md n ref07_Ints_orc (cAt (bodyOf Tryz.prog 24) [1, 1, 1]))) (retK Tryz.prog md (md 24) ref07_Ints_ps ref07_Ints_rs ref07_Ints_ts)))
theorem ref07_Ints_l4_succ (n m4 : Nat) (a0 : D) (b1 : D) (i5 : Int) : ref07_Ints_l4 n (m4 + 1) a0 b1 i5 =
 .br (decide (i5 < (a0.els.length : Int))) (.br (decide (0 ≤ i5)) (.br (decide (i5 < (a0.els.length : Int))) (.br (decide (0 ≤ i5)) (.br (decide (i5 < (b1.els.length : Int))) (.br (((a0.els.getD (Int.toNat i5) D.nil).toInt) != ((b1.els.getD (Int.toNat i5) D.nil).toInt)) (.ret [D.bool false])
 (ref07_Ints_l4 n m4 a0 b1 (IntKind.wrap .i64 (i5 + 1)))) .fail) .fail) .fail) .fail)
 (.ret [D.bool true]) := by kernel_rfl
theorem ref07_Ints_tree (n : Nat) (a0 : D) (b1 : D) : evFun Tryz.prog md ref07_Ints_orc n 24 [] [a0, b1] =
 .br ((a0.els.length : Int) != (b1.els.length : Int)) (.ret [D.bool false])
 (ref07_Ints_l4 n n a0 b1 0) := by kernel_rfl

/-! slices.ContainsFunc[[]int,int] -/
def slices_ContainsFunc_int_int_orc : List (Nat × Orc) := []
theorem slices_ContainsFunc_int_int_tree_pick_Replicate_2 (n : Nat) (s0 : D)  : evFun Tryz.prog md slices_ContainsFunc_int_int_orc n 41 [] [s0, (D.fn 42 [] [])] =
 .call 81 [] [s0, (D.fn 42 [] [])] fun yy1 =>
 .ret [D.bool (decide (0 ≤ ((yy1.getD 0 D.nil).toInt)))] := by kernel_rfl
theorem slices_ContainsFunc_int_int_tree_shape_Count_1 (n : Nat) (s0 : D)  : evFun Tryz.prog md slices_ContainsFunc_int_int_orc n 41 [] [s0, (D.fn 97 [] [])] =
 .call 81 [] [s0, (D.fn 97 [] [])] fun yy1 =>
 .ret [D.bool (decide (0 ≤ ((yy1.getD 0 D.nil).toInt)))] := by kernel_rfl
theorem slices_ContainsFunc_int_int_tree_shape_Count_2 (n : Nat) (s0 : D)  : evFun Tryz.prog md slices_ContainsFunc_int_int_orc n 41 [] [s0, (D.fn 98 [] [])] =
 .call 81 [] [s0, (D.fn 98 [] [])] fun yy1 =>
 .ret [D.bool (decide (0 ≤ ((yy1.getD 0 D.nil).toInt)))] := by kernel_rfl

/-! scrim/scrimref07.Count -/
def ref07_Count_orc : List (Nat × Orc) := [(5, ⟨[(0, some 23), (4, none), (5, none), (6, none)], [], []⟩), (17, ⟨[(0, some 23), (7, none), (8, none)], [], []⟩)]
def ref07_Count_ps : List Nat := [23]
def ref07_Count_rs : List ResultVar := [.tmp 2, .tmp 3]
def ref07_Count_ts : List Nat := [3, 3]
noncomputable def ref07_Count_l17 (n m17 : Nat) (s0 : D) (nn7 : Int) (i8 : Int) : Tree :=
  evLoop Tryz.prog md (ev Tryz.prog md n ref07_Count_orc (cAt (bodyOf Tryz.prog 49) [1, 1, 1, 1, 1, 1, 1, 0, 1, 0, 0])) (orcAt ref07_Count_orc 17) m17 ⟨[.d 23 s0, .undef, .undef, .undef, .undef, .undef, .undef, .i .i64 nn7, .i .i64 i8, .undef, .undef, .undef, .undef, .undef, .undef, .undef, .undef, .undef, .undef, .undef, .undef, .undef, .undef, .undef, .undef, .undef, .undef, .undef, .undef, .undef, .undef, .undef, .undef, .undef, .undef, .undef, .undef, .undef, .undef, .undef, .undef, .undef, .undef, .undef, .undef, .undef, .undef, .undef, .undef, .undef, .undef, .undef, .undef, .undef, .undef, .undef], [], [], [], []⟩
   (blockK 2 (seqK (joinE Tryz.prog md (joinAt ref07_Count_orc (cAt (bodyOf Tryz.prog 49) [1, 1, 1, 1, 1, 1, 1, 1])) (ev Tryz.prog md n ref07_Count_orc (cAt (bodyOf Tryz.prog 49) [1, 1, 1, 1, 1, 1, 1, 1]))) (retK Tryz.prog md (md 49) ref07_Count_ps ref07_Count_rs ref07_Count_ts)))
noncomputable def ref07_Count_l5 (n m5 : Nat) (s0 : D) (big4 : Bool) (none5 : Bool) (i6 : Int) : Tree :=
  evLoop Tryz.prog md (ev Tryz.prog md n ref07_Count_orc (cAt (bodyOf Tryz.prog 49) [1, 1, 1, 0, 1, 0, 0])) (orcAt ref07_Count_orc 5) m5 ⟨[.d 23 s0, .undef, .undef, .undef, .b big4, .b none5, .i .i64 i6, .undef, .undef, .undef, .undef, .undef, .undef, .undef, .undef, .undef, .undef, .undef, .undef, .undef, .undef, .undef, .undef, .undef, .undef, .undef, .undef, .undef, .undef, .undef, .undef, .undef, .undef, .undef, .undef, .undef, .undef, .undef, .undef, .undef, .undef, .undef, .undef, .undef, .undef, .undef, .undef, .undef, .undef, .undef, .undef, .undef, .undef, .undef, .undef, .undef], [], [], [], []⟩
   (blockK 0 (seqK (joinE Tryz.prog md (joinAt ref07_Count_orc (cAt (bodyOf Tryz.prog 49) [1, 1, 1, 1])) (ev Tryz.prog md n ref07_Count_orc (cAt (bodyOf Tryz.prog 49) [1, 1, 1, 1]))) (retK Tryz.prog md (md 49) ref07_Count_ps ref07_Count_rs ref07_Count_ts)))
theorem ref07_Count_l17_succ (n m17 : Nat) (s0 : D) (nn7 : Int) (i8 : Int) : ref07_Count_l17 n (m17 + 1) s0 nn7 i8 =
 .br (decide (i8 < (s0.els.length : Int))) (.br (decide (0 ≤ i8)) (.br (decide (i8 < (s0.els.length : Int))) (.br (decide (2048 < (IntKind.wrap .i64 (nn7 * ((s0.els.getD (Int.toNat i8) D.nil).toInt))))) (.ret [D.int 0, D.int 7])
 (ref07_Count_l17 n m17 s0 (IntKind.wrap .i64 (nn7 * ((s0.els.getD (Int.toNat i8) D.nil).toInt))) (IntKind.wrap .i64 (i8 + 1)))) .fail) .fail)
 (.ret [D.int nn7, D.int 0]) := by kernel_rfl
theorem ref07_Count_l5_succ (n m5 : Nat) (s0 : D) (big4 : Bool) (none5 : Bool) (i6 : Int) : ref07_Count_l5 n (m5 + 1) s0 big4 none5 i6 =
 .br (decide (i6 < (s0.els.length : Int))) (.br (decide (0 ≤ i6)) (.br (decide (i6 < (s0.els.length : Int))) (.br (decide (((s0.els.getD (Int.toNat i6) D.nil).toInt) < 0)) (.ret [D.int 0, D.int 3])
 (.br big4 (.br none5 (ref07_Count_l5 n m5 s0 true true (IntKind.wrap .i64 (i6 + 1)))
 (.br (decide (0 ≤ i6)) (.br (decide (i6 < (s0.els.length : Int))) (ref07_Count_l5 n m5 s0 true (((s0.els.getD (Int.toNat i6) D.nil).toInt) == 0) (IntKind.wrap .i64 (i6 + 1))) .fail) .fail))
 (.br (decide (0 ≤ i6)) (.br (decide (i6 < (s0.els.length : Int))) (.br none5 (ref07_Count_l5 n m5 s0 (decide (2048 < ((s0.els.getD (Int.toNat i6) D.nil).toInt))) true (IntKind.wrap .i64 (i6 + 1)))
 (.br (decide (0 ≤ i6)) (.br (decide (i6 < (s0.els.length : Int))) (ref07_Count_l5 n m5 s0 (decide (2048 < ((s0.els.getD (Int.toNat i6) D.nil).toInt))) (((s0.els.getD (Int.toNat i6) D.nil).toInt) == 0) (IntKind.wrap .i64 (i6 + 1))) .fail) .fail)) .fail) .fail))) .fail) .fail)
 (.br big4 (.ret [D.int 0, D.int 7])
 (.br none5 (.ret [D.int 0, D.int 0])
 (ref07_Count_l17 n n s0 1 0))) := by kernel_rfl
theorem ref07_Count_tree (n : Nat) (s0 : D) : evFun Tryz.prog md ref07_Count_orc n 49 [] [s0] =
 .br (decide (6 < (s0.els.length : Int))) (.ret [D.int 0, D.int 7])
 (ref07_Count_l5 n n s0 false false 0) := by kernel_rfl

/-! scrim/shape.Count -/
def shape_Count_orc : List (Nat × Orc) := []
theorem shape_Count_tree (n : Nat) (s0 : D) : evFun Tryz.prog md shape_Count_orc n 58 [] [s0] =
 .br (decide (6 < (s0.els.length : Int))) (.ret [D.int 0, D.int 7])
 (.call 41 [] [s0, D.fn 97 [] []] fun yy1 =>
 .br ((yy1.getD 0 D.nil).toBool) (.ret [D.int 0, D.int 3])
 (.call 41 [] [s0, D.fn 98 [] []] fun yy2 =>
 .br ((yy2.getD 0 D.nil).toBool) (.ret [D.int 0, D.int 7])
 (.call 99 [] [s0, D.int 0] fun yy3 =>
 .br ((yy3.getD 0 D.nil).toBool) (.ret [D.int 0, D.int 0])
 (.call 100 [] [s0] fun yy4 =>
 .br (((yy4.getD 0 D.nil).toInt) == 0) (.ret [D.int 0, D.int 7])
 (.ret [D.int ((yy4.getD 0 D.nil).toInt), D.int 0]))))) := by kernel_rfl

/-! scrim/scrimref07.Index -/
def ref07_Index_orc : List (Nat × Orc) := [(3, ⟨[(1, some 23), (5, some 90), (6, none)], [], []⟩)]
def ref07_Index_ps : List Nat := [23, 23]
def ref07_Index_rs : List ResultVar := [.tmp 4]
def ref07_Index_ts : List Nat := [3]
noncomputable def ref07_Index_l3 (n m3 : Nat) (at1 : D) (l5 : D) (i6 : Int) : Tree :=
  evLoop Tryz.prog md (ev Tryz.prog md n ref07_Index_orc (cAt (bodyOf Tryz.prog 60) [1, 1, 0, 1, 0, 0])) (orcAt ref07_Index_orc 3) m3 ⟨[.undef, .d 23 at1, .undef, .undef, .undef, .d 90 l5, .i .i64 i6, .undef, .undef, .undef, .undef, .undef, .undef, .undef, .undef, .undef, .undef, .undef, .undef, .undef, .undef, .undef], [], [], [], []⟩
   (blockK 0 (seqK (joinE Tryz.prog md (joinAt ref07_Index_orc (cAt (bodyOf Tryz.prog 60) [1, 1, 1])) (ev Tryz.prog md n ref07_Index_orc (cAt (bodyOf Tryz.prog 60) [1, 1, 1]))) (retK Tryz.prog md (md 60) ref07_Index_ps ref07_Index_rs ref07_Index_ts)))
theorem ref07_Index_l3_succ (n m3 : Nat) (at1 : D) (l5 : D) (i6 : Int) : ref07_Index_l3 n (m3 + 1) at1 l5 i6 =
 .br (decide (i6 < (l5.els.length : Int))) (.br (decide (0 ≤ i6)) (.br (decide (i6 < (l5.els.length : Int))) (.call 24 [] [l5.els.getD (Int.toNat i6) D.nil, at1] fun yy2 =>
 .br ((yy2.getD 0 D.nil).toBool) (.ret [D.int i6])
 (ref07_Index_l3 n m3 at1 l5 (IntKind.wrap .i64 (i6 + 1)))) .fail) .fail)
 (.ret [D.int (-1)]) := by kernel_rfl
theorem ref07_Index_tree (n : Nat) (s0 : D) (at1 : D) : evFun Tryz.prog md ref07_Index_orc n 60 [] [s0, at1] =
 .call 89 [] [s0] fun yy1 =>
 ref07_Index_l3 n n at1 (yy1.getD 0 D.nil) 0 := by kernel_rfl

/-! slices.IndexFunc[[]int,int] -/
def slices_IndexFunc_int_int_orc : List (Nat × Orc) := [(2, ⟨[(0, some 23), (1, some 74), (7, none), (8, none)], [], []⟩)]
def slices_IndexFunc_int_int_ps : List Nat := [23, 74]
def slices_IndexFunc_int_int_rs : List ResultVar := [.tmp 4]
def slices_IndexFunc_int_int_ts : List Nat := [3]
noncomputable def slices_IndexFunc_int_int_l2 (n m2 : Nat) (s0 : D) (f1 : D) (t7 : Int) (t8 : Int) : Tree :=
  evLoop Tryz.prog md (ev Tryz.prog md n slices_IndexFunc_int_int_orc (cAt (bodyOf Tryz.prog 81) [1, 0, 1, 0, 0])) (orcAt slices_IndexFunc_int_int_orc 2) m2 ⟨[.d 23 s0, .d 74 f1, .undef, .undef, .undef, .undef, .undef, .i .i64 t7, .i .i64 t8, .undef, .undef, .undef, .undef, .undef, .undef, .undef, .undef, .undef, .undef], [], [], [], []⟩
   (blockK 0 (seqK (joinE Tryz.prog md (joinAt slices_IndexFunc_int_int_orc (cAt (bodyOf Tryz.prog 81) [1, 1])) (ev Tryz.prog md n slices_IndexFunc_int_int_orc (cAt (bodyOf Tryz.prog 81) [1, 1]))) (retK Tryz.prog md (md 81) slices_IndexFunc_int_int_ps slices_IndexFunc_int_int_rs slices_IndexFunc_int_int_ts)))
theorem slices_IndexFunc_int_int_l2_succ_pick_Replicate_2 (n m2 : Nat) (s0 : D)  (t7 : Int) (t8 : Int) : slices_IndexFunc_int_int_l2 n (m2 + 1) s0 (D.fn 42 [] []) t7 t8 =
 .br (decide (t8 < t7)) (.br (decide (0 ≤ t8)) (.br (decide (t8 < (s0.els.length : Int))) (.call (D.fn 42 [] []).fnId (D.fn 42 [] []).fnCts ([D.int ((s0.els.getD (Int.toNat t8) D.nil).toInt)] ++ (D.fn 42 [] []).fnDs) fun yy1 =>
 .br ((yy1.getD 0 D.nil).toBool) (.ret [D.int t8])
 (slices_IndexFunc_int_int_l2 n m2 s0 (D.fn 42 [] []) t7 (IntKind.wrap .i64 (t8 + 1)))) .fail) .fail)
 (.ret [D.int (-1)]) := by kernel_rfl
theorem slices_IndexFunc_int_int_l2_succ_shape_Count_1 (n m2 : Nat) (s0 : D)  (t7 : Int) (t8 : Int) : slices_IndexFunc_int_int_l2 n (m2 + 1) s0 (D.fn 97 [] []) t7 t8 =
 .br (decide (t8 < t7)) (.br (decide (0 ≤ t8)) (.br (decide (t8 < (s0.els.length : Int))) (.call (D.fn 97 [] []).fnId (D.fn 97 [] []).fnCts ([D.int ((s0.els.getD (Int.toNat t8) D.nil).toInt)] ++ (D.fn 97 [] []).fnDs) fun yy1 =>
 .br ((yy1.getD 0 D.nil).toBool) (.ret [D.int t8])
 (slices_IndexFunc_int_int_l2 n m2 s0 (D.fn 97 [] []) t7 (IntKind.wrap .i64 (t8 + 1)))) .fail) .fail)
 (.ret [D.int (-1)]) := by kernel_rfl
theorem slices_IndexFunc_int_int_l2_succ_shape_Count_2 (n m2 : Nat) (s0 : D)  (t7 : Int) (t8 : Int) : slices_IndexFunc_int_int_l2 n (m2 + 1) s0 (D.fn 98 [] []) t7 t8 =
 .br (decide (t8 < t7)) (.br (decide (0 ≤ t8)) (.br (decide (t8 < (s0.els.length : Int))) (.call (D.fn 98 [] []).fnId (D.fn 98 [] []).fnCts ([D.int ((s0.els.getD (Int.toNat t8) D.nil).toInt)] ++ (D.fn 98 [] []).fnDs) fun yy1 =>
 .br ((yy1.getD 0 D.nil).toBool) (.ret [D.int t8])
 (slices_IndexFunc_int_int_l2 n m2 s0 (D.fn 98 [] []) t7 (IntKind.wrap .i64 (t8 + 1)))) .fail) .fail)
 (.ret [D.int (-1)]) := by kernel_rfl
theorem slices_IndexFunc_int_int_tree_pick_Replicate_2 (n : Nat) (s0 : D)  : evFun Tryz.prog md slices_IndexFunc_int_int_orc n 81 [] [s0, (D.fn 42 [] [])] =
 slices_IndexFunc_int_int_l2 n n s0 (D.fn 42 [] []) (s0.els.length : Int) 0 := by kernel_rfl
theorem slices_IndexFunc_int_int_tree_shape_Count_1 (n : Nat) (s0 : D)  : evFun Tryz.prog md slices_IndexFunc_int_int_orc n 81 [] [s0, (D.fn 97 [] [])] =
 slices_IndexFunc_int_int_l2 n n s0 (D.fn 97 [] []) (s0.els.length : Int) 0 := by kernel_rfl
theorem slices_IndexFunc_int_int_tree_shape_Count_2 (n : Nat) (s0 : D)  : evFun Tryz.prog md slices_IndexFunc_int_int_orc n 81 [] [s0, (D.fn 98 [] [])] =
 slices_IndexFunc_int_int_l2 n n s0 (D.fn 98 [] []) (s0.els.length : Int) 0 := by kernel_rfl

/-! slices.Clone[[]int,int] -/
def slices_Clone_int_int_orc : List (Nat × Orc) := []
theorem slices_Clone_int_int_tree (n : Nat) (s0 : D) : evFun Tryz.prog md slices_Clone_int_int_orc n 82 [] [s0] =
 .amb s0.els.isEmpty (.ret [D.sl []])
 (.br (decide (([] : List D).length + s0.els.length ≤ bigN)) (.ret [D.sl ([] ++ s0.els)]) .fail) := by kernel_rfl

/-! scrim/shape.With -/
def shape_With_orc : List (Nat × Orc) := []
theorem shape_With_tree (n : Nat) (s0 : D) (axis1 : D) (nn2 : D) : evFun Tryz.prog md shape_With_orc n 84 [] [s0, axis1, nn2] =
 .br (decide (axis1.toInt < 0)) (.ret [D.sl [], D.bool false])
 (.br (decide ((s0.els.length : Int) ≤ axis1.toInt)) (.ret [D.sl [], D.bool false])
 (.call 82 [] [s0] fun yy1 =>
 .br (decide (0 ≤ axis1.toInt)) (.br (decide (axis1.toInt < (((yy1.getD 0 D.nil).els).length : Int))) (.ret [D.sl (((yy1.getD 0 D.nil).els).set (Int.toNat axis1.toInt) (D.int nn2.toInt)), D.bool true]) .fail) .fail)) := by kernel_rfl

/-! scrim/shape.Around -/
def shape_Around_orc : List (Nat × Orc) := []
theorem shape_Around_tree (n : Nat) (s0 : D) (axis1 : D) : evFun Tryz.prog md shape_Around_orc n 85 [] [s0, axis1] =
 .call 58 [] [s0] fun yy1 =>
 .br (((yy1.getD 1 D.nil).toInt) != 0) (.ret [D.int 0, D.int 0, D.int 0, D.bool false])
 (.br (decide (axis1.toInt < 0)) (.ret [D.int 0, D.int 0, D.int 0, D.bool false])
 (.br (decide ((s0.els.length : Int) ≤ axis1.toInt)) (.ret [D.int 0, D.int 0, D.int 0, D.bool false])
 (.br (decide (0 ≤ axis1.toInt)) (.br (decide (axis1.toInt ≤ (s0.els.length : Int))) (.call 100 [] [D.sl (s0.els.take (Int.toNat axis1.toInt))] fun yy2 =>
 .br (decide (0 ≤ axis1.toInt)) (.br (decide (axis1.toInt < (s0.els.length : Int))) (.br (decide (0 ≤ IntKind.wrap .i64 (axis1.toInt + 1))) (.br (decide (IntKind.wrap .i64 (axis1.toInt + 1) ≤ (s0.els.length : Int))) (.call 100 [] [D.sl (s0.els.drop (Int.toNat (IntKind.wrap .i64 (axis1.toInt + 1))))] fun yy3 =>
 .ret [D.int ((yy2.getD 0 D.nil).toInt), D.int ((s0.els.getD (Int.toNat axis1.toInt) D.nil).toInt), D.int ((yy3.getD 0 D.nil).toInt), D.bool true]) .fail) .fail) .fail) .fail) .fail) .fail))) := by kernel_rfl

/-! scrim/scrimref07.Places -/
def ref07_Places_orc : List (Nat × Orc) := [(7, ⟨[(0, some 23), (3, none), (5, none), (6, some 23), (7, none)], [], [(.slot 5, 1070, 23)]⟩)]
def ref07_Places_ps : List Nat := [23]
def ref07_Places_rs : List ResultVar := [.tmp 2]
def ref07_Places_ts : List Nat := [90]
noncomputable def ref07_Places_l7 (n m7 : Nat) (s0 : D) (nn3 : Int) (out5 : List D) (at6 : D) (i7 : Int) : Tree :=
  evLoop Tryz.prog md (ev Tryz.prog md n ref07_Places_orc (cAt (bodyOf Tryz.prog 89) [1, 1, 1, 1, 1, 0, 1, 0, 0])) (orcAt ref07_Places_orc 7) m7 ⟨[.d 23 s0, .undef, .undef, .i .i64 nn3, .undef, .row 1070, .d 23 at6, .i .i64 i7, .undef, .undef, .undef, .undef, .undef, .undef, .undef, .undef, .undef, .undef, .undef, .undef, .undef, .undef, .undef, .undef, .undef, .undef, .undef, .undef, .undef, .undef, .undef], [(1070, .row 23 out5 true)], [1070], [], []⟩
   (blockK 0 (seqK (joinE Tryz.prog md (joinAt ref07_Places_orc (cAt (bodyOf Tryz.prog 89) [1, 1, 1, 1, 1, 1])) (ev Tryz.prog md n ref07_Places_orc (cAt (bodyOf Tryz.prog 89) [1, 1, 1, 1, 1, 1]))) (retK Tryz.prog md (md 89) ref07_Places_ps ref07_Places_rs ref07_Places_ts)))
theorem ref07_Places_l7_succ (n m7 : Nat) (s0 : D) (nn3 : Int) (out5 : List D) (at6 : D) (i7 : Int) : ref07_Places_l7 n (m7 + 1) s0 nn3 out5 at6 i7 =
 .br (decide (i7 < nn3)) (.br (decide (out5.length + [at6].length ≤ bigN)) (.call 129 [] [s0, at6] fun yy2 =>
 ref07_Places_l7 n m7 s0 nn3 (out5 ++ [at6]) (yy2.getD 0 D.nil) (IntKind.wrap .i64 (i7 + 1))) .fail)
 (.ret [D.sl out5]) := by kernel_rfl
theorem ref07_Places_tree (n : Nat) (s0 : D) : evFun Tryz.prog md ref07_Places_orc n 89 [] [s0] =
 .call 49 [] [s0] fun yy1 =>
 .br (((yy1.getD 1 D.nil).toInt) != 0) (.ret [D.sl []])
 (.br (decide (0 ≤ (s0.els.length : Int))) (.br (decide ((s0.els.length : Int) ≤ (s0.els.length : Int))) (.br (decide ((s0.els.length : Int) ≤ bigN)) (ref07_Places_l7 n n s0 ((yy1.getD 0 D.nil).toInt) [] (D.sl (List.replicate (Int.toNat (s0.els.length : Int)) (D.int 0))) 0) .fail) .fail) .fail) := by kernel_rfl

/-! scrim/shape.Count$1 -/
def shape_Count_1_orc : List (Nat × Orc) := []
theorem shape_Count_1_tree (n : Nat) (nn0 : D) : evFun Tryz.prog md shape_Count_1_orc n 97 [] [nn0] =
 .ret [D.bool (decide (nn0.toInt < 0))] := by kernel_rfl

/-! scrim/shape.Count$2 -/
def shape_Count_2_orc : List (Nat × Orc) := []
theorem shape_Count_2_tree (n : Nat) (nn0 : D) : evFun Tryz.prog md shape_Count_2_orc n 98 [] [nn0] =
 .ret [D.bool (decide (2048 < nn0.toInt))] := by kernel_rfl

/-! slices.Contains[[]int,int] -/
def slices_Contains_int_int_orc : List (Nat × Orc) := []
theorem slices_Contains_int_int_tree (n : Nat) (s0 : D) (v1 : D) : evFun Tryz.prog md slices_Contains_int_int_orc n 99 [] [s0, v1] =
 .call 131 [] [s0, D.int v1.toInt] fun yy1 =>
 .ret [D.bool (decide (0 ≤ ((yy1.getD 0 D.nil).toInt)))] := by kernel_rfl

/-! scrim/shape.product -/
def shape_product_orc : List (Nat × Orc) := [(3, ⟨[(3, none), (6, some 23), (7, none), (8, none)], [], []⟩)]
def shape_product_ps : List Nat := [23]
def shape_product_rs : List ResultVar := [.tmp 2]
def shape_product_ts : List Nat := [3]
noncomputable def shape_product_l3 (n m3 : Nat) (out3 : Int) (t6 : D) (t7 : Int) (t8 : Int) : Tree :=
  evLoop Tryz.prog md (ev Tryz.prog md n shape_product_orc (cAt (bodyOf Tryz.prog 100) [1, 1, 0, 1, 0, 0])) (orcAt shape_product_orc 3) m3 ⟨[.undef, .undef, .undef, .i .i64 out3, .undef, .undef, .d 23 t6, .i .i64 t7, .i .i64 t8, .undef, .undef, .undef, .undef, .undef, .undef, .undef, .undef, .undef, .undef], [], [], [], []⟩
   (blockK 0 (seqK (joinE Tryz.prog md (joinAt shape_product_orc (cAt (bodyOf Tryz.prog 100) [1, 1, 1])) (ev Tryz.prog md n shape_product_orc (cAt (bodyOf Tryz.prog 100) [1, 1, 1]))) (retK Tryz.prog md (md 100) shape_product_ps shape_product_rs shape_product_ts)))
theorem shape_product_l3_succ (n m3 : Nat) (out3 : Int) (t6 : D) (t7 : Int) (t8 : Int) : shape_product_l3 n (m3 + 1) out3 t6 t7 t8 =
 .br (decide (t8 < t7)) (.br (decide (0 ≤ t8)) (.br (decide (t8 < (t6.els.length : Int))) (.br (decide (2048 < (IntKind.wrap .i64 (out3 * ((t6.els.getD (Int.toNat t8) D.nil).toInt))))) (.ret [D.int 0])
 (shape_product_l3 n m3 (IntKind.wrap .i64 (out3 * ((t6.els.getD (Int.toNat t8) D.nil).toInt))) t6 t7 (IntKind.wrap .i64 (t8 + 1)))) .fail) .fail)
 (.ret [D.int out3]) := by kernel_rfl
theorem shape_product_tree (n : Nat) (s0 : D) : evFun Tryz.prog md shape_product_orc n 100 [] [s0] =
 shape_product_l3 n n 1 s0 (s0.els.length : Int) 0 := by kernel_rfl

/-! scrim/scrimref07.next -/
def ref07_next_orc : List (Nat × Orc) := [(4, ⟨[(0, some 23), (5, none), (6, none)], [], [(.slot 5, 1040, 3)]⟩)]
def ref07_next_ps : List Nat := [23, 23]
def ref07_next_rs : List ResultVar := [.tmp 4]
def ref07_next_ts : List Nat := [23]
noncomputable def ref07_next_l4 (n m4 : Nat) (s0 : D) (out5 : List D) (i6 : Int) : Tree :=
  evLoop Tryz.prog md (ev Tryz.prog md n ref07_next_orc (cAt (bodyOf Tryz.prog 129) [1, 1, 1, 0, 1, 0, 0])) (orcAt ref07_next_orc 4) m4 ⟨[.d 23 s0, .undef, .undef, .undef, .undef, .row 1040, .i .i64 i6, .undef, .undef, .undef, .undef, .undef, .undef, .undef, .undef, .undef, .undef, .undef, .undef, .undef, .undef, .undef, .undef, .undef, .undef, .undef, .undef, .undef, .undef, .undef, .undef, .undef, .undef, .undef, .undef, .undef, .undef], [(1040, .row 3 out5 true)], [1040], [], []⟩
   (blockK 0 (seqK (joinE Tryz.prog md (joinAt ref07_next_orc (cAt (bodyOf Tryz.prog 129) [1, 1, 1, 1])) (ev Tryz.prog md n ref07_next_orc (cAt (bodyOf Tryz.prog 129) [1, 1, 1, 1]))) (retK Tryz.prog md (md 129) ref07_next_ps ref07_next_rs ref07_next_ts)))
theorem ref07_next_l4_succ (n m4 : Nat) (s0 : D) (out5 : List D) (i6 : Int) : ref07_next_l4 n (m4 + 1) s0 out5 i6 =
 .br (decide (0 ≤ i6)) (.br (decide (0 ≤ i6)) (.br (decide (i6 < (out5.length : Int))) (.br (decide (0 ≤ i6)) (.br (decide (i6 < (out5.length : Int))) (.br (decide (0 ≤ i6)) (.br (decide (i6 < ((out5.set (Int.toNat i6) (D.int (IntKind.wrap .i64 (((out5.getD (Int.toNat i6) D.nil).toInt) + 1)))).length : Int))) (.br (decide (0 ≤ i6)) (.br (decide (i6 < (s0.els.length : Int))) (.br (decide ((((out5.set (Int.toNat i6) (D.int (IntKind.wrap .i64 (((out5.getD (Int.toNat i6) D.nil).toInt) + 1)))).getD (Int.toNat i6) D.nil).toInt) < ((s0.els.getD (Int.toNat i6) D.nil).toInt))) (.ret [D.sl (out5.set (Int.toNat i6) (D.int (IntKind.wrap .i64 (((out5.getD (Int.toNat i6) D.nil).toInt) + 1))))])
 (.br (decide (0 ≤ i6)) (.br (decide (i6 < ((out5.set (Int.toNat i6) (D.int (IntKind.wrap .i64 (((out5.getD (Int.toNat i6) D.nil).toInt) + 1)))).length : Int))) (ref07_next_l4 n m4 s0 ((out5.set (Int.toNat i6) (D.int (IntKind.wrap .i64 (((out5.getD (Int.toNat i6) D.nil).toInt) + 1)))).set (Int.toNat i6) (D.int 0)) (IntKind.wrap .i64 (i6 - 1))) .fail) .fail)) .fail) .fail) .fail) .fail) .fail) .fail) .fail) .fail)
 (.ret [D.sl out5]) := by kernel_rfl
theorem ref07_next_tree (n : Nat) (s0 : D) (at1 : D) : evFun Tryz.prog md ref07_next_orc n 129 [] [s0, at1] =
 .br (decide (at1.els.length ≤ bigN)) (ref07_next_l4 n n s0 at1.els (IntKind.wrap .i64 ((s0.els.length : Int) - 1))) .fail := by kernel_rfl

/-! slices.Index[[]int,int] -/
def slices_Index_int_int_orc : List (Nat × Orc) := [(2, ⟨[(0, some 23), (1, none), (7, none), (8, none)], [], []⟩)]
def slices_Index_int_int_ps : List Nat := [23, 3]
def slices_Index_int_int_rs : List ResultVar := [.tmp 4]
def slices_Index_int_int_ts : List Nat := [3]
noncomputable def slices_Index_int_int_l2 (n m2 : Nat) (s0 : D) (v1 : Int) (t7 : Int) (t8 : Int) : Tree :=
  evLoop Tryz.prog md (ev Tryz.prog md n slices_Index_int_int_orc (cAt (bodyOf Tryz.prog 131) [1, 0, 1, 0, 0])) (orcAt slices_Index_int_int_orc 2) m2 ⟨[.d 23 s0, .i .i64 v1, .undef, .undef, .undef, .undef, .undef, .i .i64 t7, .i .i64 t8, .undef, .undef, .undef, .undef, .undef, .undef, .undef, .undef, .undef, .undef], [], [], [], []⟩
   (blockK 0 (seqK (joinE Tryz.prog md (joinAt slices_Index_int_int_orc (cAt (bodyOf Tryz.prog 131) [1, 1])) (ev Tryz.prog md n slices_Index_int_int_orc (cAt (bodyOf Tryz.prog 131) [1, 1]))) (retK Tryz.prog md (md 131) slices_Index_int_int_ps slices_Index_int_int_rs slices_Index_int_int_ts)))
theorem slices_Index_int_int_l2_succ (n m2 : Nat) (s0 : D) (v1 : Int) (t7 : Int) (t8 : Int) : slices_Index_int_int_l2 n (m2 + 1) s0 v1 t7 t8 =
 .br (decide (t8 < t7)) (.br (decide (0 ≤ t8)) (.br (decide (t8 < (s0.els.length : Int))) (.br (v1 == ((s0.els.getD (Int.toNat t8) D.nil).toInt)) (.ret [D.int t8])
 (slices_Index_int_int_l2 n m2 s0 v1 t7 (IntKind.wrap .i64 (t8 + 1)))) .fail) .fail)
 (.ret [D.int (-1)]) := by kernel_rfl
theorem slices_Index_int_int_tree (n : Nat) (s0 : D) (v1 : D) : evFun Tryz.prog md slices_Index_int_int_orc n 131 [] [s0, v1] =
 slices_Index_int_int_l2 n n s0 v1.toInt (s0.els.length : Int) 0 := by kernel_rfl

/-! slices.Clone[[]uint32,uint32] -/
def slices_Clone_uint32_uint32_orc : List (Nat × Orc) := []
theorem slices_Clone_uint32_uint32_tree (n : Nat) (s0 : D) : evFun Tryz.prog md slices_Clone_uint32_uint32_orc n 135 [] [s0] =
 .amb s0.els.isEmpty (.ret [D.sl []])
 (.br (decide (([] : List D).length + s0.els.length ≤ bigN)) (.ret [D.sl ([] ++ s0.els)]) .fail) := by kernel_rfl

/-! slices.Clone[[]scrim/api.Array,scrim/api.Array] -/
def slices_Clone_api_Array_api_Array_orc : List (Nat × Orc) := []
theorem slices_Clone_api_Array_api_Array_tree (n : Nat) (s0 : D) : evFun Tryz.prog md slices_Clone_api_Array_api_Array_orc n 136 [] [s0] =
 .amb s0.els.isEmpty (.ret [D.sl []])
 (.br (decide (([] : List D).length + s0.els.length ≤ bigN)) (.ret [D.sl ([] ++ s0.els)]) .fail) := by kernel_rfl

end Go.Proofs.YtbgcadcpeabpgaaGreat

set_option maxRecDepth 100000
namespace Go.Proofs.YtbgcadcpeabpgaaGreat
end Go.Proofs.YtbgcadcpeabpgaaGreat

set_option maxRecDepth 100000
namespace Go.Proofs.YtbgcadcpeabpgaaGreat
/-! scrim/scrimref03.Small -/
def ref03_Small_orc : List (Nat × Orc) := [(6, ⟨[(4, none), (5, none), (6, none)], [(4, true)], []⟩)]
def ref03_Small_ps : List Nat := [130]
def ref03_Small_rs : List ResultVar := [.tmp 2, .tmp 3]
def ref03_Small_ts : List Nat := [3, 4]
noncomputable def ref03_Small_l6 (n m6 : Nat) (nn5 : Int) (i6 : Int) (x4 : D) : Tree :=
  evLoop Tryz.prog md (ev Tryz.prog md n ref03_Small_orc (cAt (bodyOf Tryz.prog 115) [1, 1, 1, 1, 0, 1, 0, 0])) (orcAt ref03_Small_orc 6) m6 ⟨[.undef, .undef, .undef, .undef, .ptr 4 [], .i .i64 nn5, .i .i64 i6, .undef, .undef, .undef, .undef, .undef, .undef, .undef, .undef, .undef, .undef, .undef, .undef, .undef, .undef, .undef, .undef, .undef, .undef, .undef, .undef, .undef, .undef, .undef, .undef, .undef, .undef, .undef, .undef, .undef, .undef, .undef, .undef, .undef, .undef, .undef, .undef, .undef, .undef, .undef, .undef, .undef, .undef, .undef, .undef, .undef, .undef, .undef], [(4, .var 130 (.d 130 x4) true)], [4], [], []⟩
   (blockK 0 (seqK (joinE Tryz.prog md (joinAt ref03_Small_orc (cAt (bodyOf Tryz.prog 115) [1, 1, 1, 1, 1])) (ev Tryz.prog md n ref03_Small_orc (cAt (bodyOf Tryz.prog 115) [1, 1, 1, 1, 1]))) (retK Tryz.prog md (md 115) ref03_Small_ps ref03_Small_rs ref03_Small_ts)))
theorem ref03_Small_l6_succ (n m6 : Nat) (nn5 : Int) (i6 : Int) (x4 : D) : ref03_Small_l6 n (m6 + 1) nn5 i6 x4 =
 .br (decide (0 ≤ i6)) (.br ((x4.fld 0).toBool) (.br (decide (0 ≤ i6)) (.br (decide (i6 < (((x4.fld 1).els).length : Int))) (ref03_Small_l6 n m6 (IntKind.wrap .i64 ((IntKind.wrap .i64 (nn5 * 4294967296)) - (IntKind.wrap .i64 ((((x4.fld 1).els).getD (Int.toNat i6) D.nil).toInt)))) (IntKind.wrap .i64 (i6 - 1)) x4) .fail) .fail)
 (.br (decide (0 ≤ i6)) (.br (decide (i6 < (((x4.fld 1).els).length : Int))) (ref03_Small_l6 n m6 (IntKind.wrap .i64 ((IntKind.wrap .i64 (nn5 * 4294967296)) + (IntKind.wrap .i64 ((((x4.fld 1).els).getD (Int.toNat i6) D.nil).toInt)))) (IntKind.wrap .i64 (i6 - 1)) x4) .fail) .fail))
 (.ret [D.int nn5, D.bool true]) := by kernel_rfl
theorem ref03_Small_tree (n : Nat) (a0 : D) : evFun Tryz.prog md ref03_Small_orc n 115 [] [a0] =
 .call 145 [] [a0] fun yy1 =>
 .br (decide (2 < ((((yy1.getD 0 D.nil).fld 1).els).length : Int))) (.ret [D.int 0, D.bool false])
 (.call 147 [] [D.int 9223372036854775807] fun yy2 =>
 .call 146 [] [yy1.getD 0 D.nil, yy2.getD 0 D.nil] fun yy3 =>
 .br (decide (0 < ((yy3.getD 0 D.nil).toInt))) (.ret [D.int 0, D.bool false])
 (.call 147 [] [D.int (-9223372036854775808)] fun yy4 =>
 .call 146 [] [yy1.getD 0 D.nil, yy4.getD 0 D.nil] fun yy5 =>
 .br (decide (((yy5.getD 0 D.nil).toInt) < 0)) (.ret [D.int 0, D.bool false])
 (ref03_Small_l6 n n 0 (IntKind.wrap .i64 (((((yy1.getD 0 D.nil).fld 1).els).length : Int) - 1)) (yy1.getD 0 D.nil)))) := by kernel_rfl

/-! scrim/scrimref03.Sign -/
def ref03_Sign_orc : List (Nat × Orc) := []
theorem ref03_Sign_tree (n : Nat) (a0 : D) : evFun Tryz.prog md ref03_Sign_orc n 117 [] [a0] =
 .call 145 [] [a0] fun yy1 =>
 .br (((((yy1.getD 0 D.nil).fld 1).els).length : Int) == 0) (.ret [D.int 0])
 (.br (((yy1.getD 0 D.nil).fld 0).toBool) (.ret [D.int (-1)])
 (.ret [D.int 1])) := by kernel_rfl

/-! scrim/scrimref03.Sub -/
def ref03_Sub_orc : List (Nat × Orc) := []
theorem ref03_Sub_tree (n : Nat) (a0 : D) (b1 : D) : evFun Tryz.prog md ref03_Sub_orc n 118 [] [a0, b1] =
 .call 149 [] [b1] fun yy1 =>
 .call 148 [] [a0, yy1.getD 0 D.nil] fun yy2 =>
 .ret [yy2.getD 0 D.nil] := by kernel_rfl

/-! scrim/whole.Small -/
def whole_Small_orc : List (Nat × Orc) := [(6, ⟨[(1, none), (4, none), (14, some 63), (15, none), (16, none)], [(1, true)], []⟩)]
def whole_Small_ps : List Nat := [137]
def whole_Small_rs : List ResultVar := [.tmp 2, .tmp 3]
def whole_Small_ts : List Nat := [3, 4]
noncomputable def whole_Small_l6 (n m6 : Nat) (size4 : Int) (t14 : D) (t15 : Int) (t16 : Int) (a1 : D) : Tree :=
  evLoop Tryz.prog md (ev Tryz.prog md n whole_Small_orc (cAt (bodyOf Tryz.prog 124) [1, 1, 1, 1, 0, 1, 0, 0])) (orcAt whole_Small_orc 6) m6 ⟨[.undef, .ptr 1 [], .undef, .undef, .i .u64 size4, .undef, .undef, .undef, .undef, .undef, .undef, .undef, .undef, .undef, .d 63 t14, .i .i64 t15, .i .i64 t16, .undef, .undef, .undef, .undef, .undef, .undef, .undef, .undef, .undef, .undef, .undef, .undef, .undef, .undef, .undef, .undef, .undef, .undef, .undef, .undef, .undef, .undef, .undef, .undef], [(1, .var 137 (.d 137 a1) true)], [1], [], []⟩
   (blockK 0 (seqK (joinE Tryz.prog md (joinAt whole_Small_orc (cAt (bodyOf Tryz.prog 124) [1, 1, 1, 1, 1])) (ev Tryz.prog md n whole_Small_orc (cAt (bodyOf Tryz.prog 124) [1, 1, 1, 1, 1]))) (retK Tryz.prog md (md 124) whole_Small_ps whole_Small_rs whole_Small_ts)))
theorem whole_Small_l6_succ (n m6 : Nat) (size4 : Int) (t14 : D) (t15 : Int) (t16 : Int) (a1 : D) : whole_Small_l6 n (m6 + 1) size4 t14 t15 t16 a1 =
 .br (decide (t16 < t15)) (.br (decide (0 ≤ t16)) (.br (decide (t16 < (t14.els.length : Int))) (.br (decide (0 ≤ IntKind.wrap .u64 (IntKind.wrap .i64 (32 * t16)))) (whole_Small_l6 n m6 (bits_ .or .u64 size4 (IntKind.wrap .u64 ((IntKind.wrap .u64 ((t14.els.getD (Int.toNat t16) D.nil).toInt)) * 2 ^ (min (Int.toNat (IntKind.wrap .u64 (IntKind.wrap .i64 (32 * t16)))) (IntKind.bits .u64))))) t14 t15 (IntKind.wrap .i64 (t16 + 1)) a1) .fail) .fail) .fail)
 (.br ((a1.fld 0).toBool) (.br (decide (9223372036854775808 < size4)) (.ret [D.int 0, D.bool false])
 (.ret [D.int (IntKind.wrap .i64 (IntKind.wrap .u64 (0 - size4))), D.bool true]))
 (.br (decide (9223372036854775807 < size4)) (.ret [D.int 0, D.bool false])
 (.ret [D.int (IntKind.wrap .i64 size4), D.bool true]))) := by kernel_rfl
theorem whole_Small_tree (n : Nat) (a0 : D) : evFun Tryz.prog md whole_Small_orc n 124 [] [a0] =
 .call 153 [] [a0] fun yy1 =>
 .br (decide (2 < ((((yy1.getD 0 D.nil).fld 1).els).length : Int))) (.ret [D.int 0, D.bool false])
 (whole_Small_l6 n n 0 ((yy1.getD 0 D.nil).fld 1) ((((yy1.getD 0 D.nil).fld 1).els).length : Int) 0 (yy1.getD 0 D.nil)) := by kernel_rfl

/-! scrim/whole.Of -/
def whole_Of_orc : List (Nat × Orc) := []
theorem whole_Of_tree (n : Nat) (nn0 : D) : evFun Tryz.prog md whole_Of_orc n 134 [] [nn0] =
 .br (decide (nn0.toInt < 0)) (.br (decide (0 ≤ 32)) (.call 157 [] [D.sl [D.int (IntKind.wrap .u32 (IntKind.wrap .u64 (0 - (IntKind.wrap .u64 nn0.toInt)))), D.int (IntKind.wrap .u32 (Int.fdiv (IntKind.wrap .u64 (0 - (IntKind.wrap .u64 nn0.toInt))) (2 ^ (min (Int.toNat 32) (IntKind.bits .u64)))))]] fun yy1 =>
 .call 156 [] [D.bool (decide (nn0.toInt < 0)), D.sl ((yy1.getD 0 D.nil).els)] fun yy2 =>
 .ret [yy2.getD 0 D.nil]) .fail)
 (.br (decide (0 ≤ 32)) (.call 157 [] [D.sl [D.int (IntKind.wrap .u32 (IntKind.wrap .u64 nn0.toInt)), D.int (IntKind.wrap .u32 (Int.fdiv (IntKind.wrap .u64 nn0.toInt) (2 ^ (min (Int.toNat 32) (IntKind.bits .u64)))))]] fun yy3 =>
 .call 156 [] [D.bool (decide (nn0.toInt < 0)), D.sl ((yy3.getD 0 D.nil).els)] fun yy4 =>
 .ret [yy4.getD 0 D.nil]) .fail) := by kernel_rfl

/-! scrim/scrimref03.Norm -/
def ref03_Norm_orc : List (Nat × Orc) := []
theorem ref03_Norm_tree (n : Nat) (a0 : D) : evFun Tryz.prog md ref03_Norm_orc n 145 [] [a0] =
 .call 151 [] [a0.fld 1] fun yy1 =>
 .br ((((yy1.getD 0 D.nil).els).length : Int) == 0) (.ret [D.agg [D.bool false, D.sl []]])
 (.ret [D.agg [D.bool ((a0.fld 0).toBool), yy1.getD 0 D.nil]]) := by kernel_rfl

/-! scrim/scrimref03.Cmp -/
def ref03_Cmp_orc : List (Nat × Orc) := []
theorem ref03_Cmp_tree (n : Nat) (a0 : D) (b1 : D) : evFun Tryz.prog md ref03_Cmp_orc n 146 [] [a0, b1] =
 .call 118 [] [a0, b1] fun yy1 =>
 .call 117 [] [yy1.getD 0 D.nil] fun yy2 =>
 .ret [D.int ((yy2.getD 0 D.nil).toInt)] := by kernel_rfl

/-! scrim/scrimref03.Of -/
def ref03_Of_orc : List (Nat × Orc) := []
theorem ref03_Of_tree (n : Nat) (nn0 : D) : evFun Tryz.prog md ref03_Of_orc n 147 [] [nn0] =
 .br (decide (0 ≤ nn0.toInt)) (.br (!(4294967296 == (0 : Int))) (.br (!(4294967296 == (0 : Int))) (.call 145 [] [D.agg [D.bool false, D.sl [D.int (IntKind.wrap .u32 (Int.tmod nn0.toInt 4294967296)), D.int (IntKind.wrap .u32 (IntKind.wrap .i64 (Int.tdiv nn0.toInt 4294967296)))]]] fun yy1 =>
 .ret [yy1.getD 0 D.nil]) .fail) .fail)
 (.br (!(4294967296 == (0 : Int))) (.br (!(4294967296 == (0 : Int))) (.call 162 [] [D.sl [D.int (IntKind.wrap .u32 (Int.tmod (IntKind.wrap .i64 ((-1) - nn0.toInt)) 4294967296)), D.int (IntKind.wrap .u32 (IntKind.wrap .i64 (Int.tdiv (IntKind.wrap .i64 ((-1) - nn0.toInt)) 4294967296)))], D.sl [D.int 1]] fun yy2 =>
 .call 145 [] [D.agg [D.bool true, yy2.getD 0 D.nil]] fun yy3 =>
 .ret [yy3.getD 0 D.nil]) .fail) .fail) := by kernel_rfl

/-! scrim/scrimref03.Add -/
def ref03_Add_orc : List (Nat × Orc) := []
theorem ref03_Add_tree (n : Nat) (a0 : D) (b1 : D) : evFun Tryz.prog md ref03_Add_orc n 148 [] [a0, b1] =
 .call 145 [] [a0] fun yy1 =>
 .call 145 [] [b1] fun yy2 =>
 .br ((((yy1.getD 0 D.nil).fld 0).toBool) == (((yy2.getD 0 D.nil).fld 0).toBool)) (.call 162 [] [(yy1.getD 0 D.nil).fld 1, (yy2.getD 0 D.nil).fld 1] fun yy3 =>
 .call 145 [] [D.agg [D.bool (((yy1.getD 0 D.nil).fld 0).toBool), yy3.getD 0 D.nil]] fun yy4 =>
 .ret [yy4.getD 0 D.nil])
 (.call 163 [] [(yy1.getD 0 D.nil).fld 1, (yy2.getD 0 D.nil).fld 1] fun yy5 =>
 .br (decide (0 ≤ ((yy5.getD 0 D.nil).toInt))) (.call 164 [] [(yy1.getD 0 D.nil).fld 1, (yy2.getD 0 D.nil).fld 1] fun yy6 =>
 .call 145 [] [D.agg [D.bool (((yy1.getD 0 D.nil).fld 0).toBool), yy6.getD 0 D.nil]] fun yy7 =>
 .ret [yy7.getD 0 D.nil])
 (.call 164 [] [(yy2.getD 0 D.nil).fld 1, (yy1.getD 0 D.nil).fld 1] fun yy8 =>
 .call 145 [] [D.agg [D.bool (((yy2.getD 0 D.nil).fld 0).toBool), yy8.getD 0 D.nil]] fun yy9 =>
 .ret [yy9.getD 0 D.nil])) := by kernel_rfl

/-! scrim/scrimref03.Neg -/
def ref03_Neg_orc : List (Nat × Orc) := []
theorem ref03_Neg_tree (n : Nat) (a0 : D) : evFun Tryz.prog md ref03_Neg_orc n 149 [] [a0] =
 .call 145 [] [D.agg [D.bool (!((a0.fld 0).toBool)), a0.fld 1]] fun yy1 =>
 .ret [yy1.getD 0 D.nil] := by kernel_rfl

/-! scrim/whole.Norm -/
def whole_Norm_orc : List (Nat × Orc) := []
theorem whole_Norm_tree (n : Nat) (a0 : D) : evFun Tryz.prog md whole_Norm_orc n 153 [] [a0] =
 .call 157 [] [a0.fld 1] fun yy1 =>
 .call 156 [] [D.bool ((a0.fld 0).toBool), D.sl ((yy1.getD 0 D.nil).els)] fun yy2 =>
 .ret [yy2.getD 0 D.nil] := by kernel_rfl

/-! scrim/whole.signed -/
def whole_signed_orc : List (Nat × Orc) := []
theorem whole_signed_tree (n : Nat) (neg0 : D) (mag1 : D) : evFun Tryz.prog md whole_signed_orc n 156 [] [neg0, mag1] =
 .br ((mag1.els.length : Int) == 0) (.ret [D.agg [D.bool false, D.sl []]])
 (.ret [D.agg [D.bool neg0.toBool, mag1]]) := by kernel_rfl

end Go.Proofs.YtbgcadcpeabpgaaGreat

set_option maxRecDepth 100000
namespace Go.Proofs.YtbgcadcpeabpgaaGreat
/-! math/bits.Mul -/
def bits_Mul_orc : List (Nat × Orc) := []
theorem bits_Mul_tree (n : Nat) (x0 : D) (y1 : D) : evFun Tryz.prog md bits_Mul_orc n 83 [] [x0, y1] =
 .call 127 [] [D.int x0.toInt, D.int y1.toInt] fun yy1 =>
 .ret [D.int ((yy1.getD 0 D.nil).toInt), D.int ((yy1.getD 1 D.nil).toInt)] := by kernel_rfl

/-! math/bits.Mul64 -/
def bits_Mul64_orc : List (Nat × Orc) := []
theorem bits_Mul64_tree (n : Nat) (x0 : D) (y1 : D) : evFun Tryz.prog md bits_Mul64_orc n 127 [] [x0, y1] =
 .br (decide (0 ≤ 32)) (.br (decide (0 ≤ 32)) (.br (decide (0 ≤ 32)) (.br (decide (0 ≤ 32)) (.br (decide (0 ≤ 32)) (.ret [D.int (IntKind.wrap .u64 ((IntKind.wrap .u64 ((IntKind.wrap .u64 ((Int.fdiv x0.toInt (2 ^ (min (Int.toNat 32) (IntKind.bits .u64)))) * (Int.fdiv y1.toInt (2 ^ (min (Int.toNat 32) (IntKind.bits .u64)))))) + (Int.fdiv (IntKind.wrap .u64 ((IntKind.wrap .u64 ((Int.fdiv x0.toInt (2 ^ (min (Int.toNat 32) (IntKind.bits .u64)))) * (bits_ .and .u64 y1.toInt 4294967295))) + (Int.fdiv (IntKind.wrap .u64 ((bits_ .and .u64 x0.toInt 4294967295) * (bits_ .and .u64 y1.toInt 4294967295))) (2 ^ (min (Int.toNat 32) (IntKind.bits .u64)))))) (2 ^ (min (Int.toNat 32) (IntKind.bits .u64)))))) + (Int.fdiv (IntKind.wrap .u64 ((bits_ .and .u64 (IntKind.wrap .u64 ((IntKind.wrap .u64 ((Int.fdiv x0.toInt (2 ^ (min (Int.toNat 32) (IntKind.bits .u64)))) * (bits_ .and .u64 y1.toInt 4294967295))) + (Int.fdiv (IntKind.wrap .u64 ((bits_ .and .u64 x0.toInt 4294967295) * (bits_ .and .u64 y1.toInt 4294967295))) (2 ^ (min (Int.toNat 32) (IntKind.bits .u64)))))) 4294967295) + (IntKind.wrap .u64 ((bits_ .and .u64 x0.toInt 4294967295) * (Int.fdiv y1.toInt (2 ^ (min (Int.toNat 32) (IntKind.bits .u64)))))))) (2 ^ (min (Int.toNat 32) (IntKind.bits .u64)))))), D.int (IntKind.wrap .u64 (x0.toInt * y1.toInt))]) .fail) .fail) .fail) .fail) .fail := by kernel_rfl

/-! scrim/scrimref02.Same -/
def ref02_Same_orc : List (Nat × Orc) := [(4, ⟨[(0, some 63), (1, some 63), (5, none)], [], []⟩)]
def ref02_Same_ps : List Nat := [63, 63]
def ref02_Same_rs : List ResultVar := [.tmp 4]
def ref02_Same_ts : List Nat := [4]
noncomputable def ref02_Same_l4 (n m4 : Nat) (a0 : D) (b1 : D) (i5 : Int) : Tree :=
  evLoop Tryz.prog md (ev Tryz.prog md n ref02_Same_orc (cAt (bodyOf Tryz.prog 132) [1, 1, 0, 1, 0, 0])) (orcAt ref02_Same_orc 4) m4 ⟨[.d 63 a0, .d 63 b1, .undef, .undef, .undef, .i .i64 i5, .undef, .undef, .undef, .undef, .undef, .undef, .undef, .undef, .undef, .undef, .undef, .undef, .undef, .undef, .undef, .undef, .undef, .undef, .undef, .undef], [], [], [], []⟩
   (blockK 0 (seqK (joinE Tryz.prog md (joinAt ref02_Same_orc (cAt (bodyOf Tryz.prog 132) [1, 1, 1])) (ev Tryz.prog md n ref02_Same_orc (cAt (bodyOf Tryz.prog 132) [1, 1, 1]))) (retK Tryz.prog md (md 132) ref02_Same_ps ref02_Same_rs ref02_Same_ts)))
theorem ref02_Same_l4_succ (n m4 : Nat) (a0 : D) (b1 : D) (i5 : Int) : ref02_Same_l4 n (m4 + 1) a0 b1 i5 =
 .br (decide (i5 < (a0.els.length : Int))) (.br (decide (0 ≤ i5)) (.br (decide (i5 < (a0.els.length : Int))) (.br (decide (0 ≤ i5)) (.br (decide (i5 < (b1.els.length : Int))) (.br (((a0.els.getD (Int.toNat i5) D.nil).toInt) != ((b1.els.getD (Int.toNat i5) D.nil).toInt)) (.ret [D.bool false])
 (ref02_Same_l4 n m4 a0 b1 (IntKind.wrap .i64 (i5 + 1)))) .fail) .fail) .fail) .fail)
 (.ret [D.bool true]) := by kernel_rfl
theorem ref02_Same_tree (n : Nat) (a0 : D) (b1 : D) : evFun Tryz.prog md ref02_Same_orc n 132 [] [a0, b1] =
 .br ((a0.els.length : Int) != (b1.els.length : Int)) (.ret [D.bool false])
 (ref02_Same_l4 n n a0 b1 0) := by kernel_rfl

/-! scrim/scrimref02.Norm -/
def ref02_Norm_orc : List (Nat × Orc) := [(2, ⟨[(0, some 63), (3, none)], [], []⟩)]
def ref02_Norm_ps : List Nat := [63]
def ref02_Norm_rs : List ResultVar := [.tmp 2]
def ref02_Norm_ts : List Nat := [63]
noncomputable def ref02_Norm_l2 (n m2 : Nat) (a0 : D) (nn3 : Int) : Tree :=
  evLoop Tryz.prog md (ev Tryz.prog md n ref02_Norm_orc (cAt (bodyOf Tryz.prog 151) [1, 1, 0, 0, 0])) (orcAt ref02_Norm_orc 2) m2 ⟨[.d 63 a0, .undef, .undef, .i .i64 nn3, .undef, .undef, .undef, .undef, .undef, .undef, .undef, .undef, .undef, .undef, .undef, .undef, .undef, .undef, .undef, .undef, .undef, .undef, .undef, .undef], [], [], [], []⟩
   (blockK 0 (seqK (joinE Tryz.prog md (joinAt ref02_Norm_orc (cAt (bodyOf Tryz.prog 151) [1, 1, 1])) (ev Tryz.prog md n ref02_Norm_orc (cAt (bodyOf Tryz.prog 151) [1, 1, 1]))) (retK Tryz.prog md (md 151) ref02_Norm_ps ref02_Norm_rs ref02_Norm_ts)))
theorem ref02_Norm_l2_succ (n m2 : Nat) (a0 : D) (nn3 : Int) : ref02_Norm_l2 n (m2 + 1) a0 nn3 =
 .br (decide (0 < nn3)) (.br (decide (0 ≤ IntKind.wrap .i64 (nn3 - 1))) (.br (decide (IntKind.wrap .i64 (nn3 - 1) < (a0.els.length : Int))) (.br (((a0.els.getD (Int.toNat (IntKind.wrap .i64 (nn3 - 1))) D.nil).toInt) == 0) (ref02_Norm_l2 n m2 a0 (IntKind.wrap .i64 (nn3 - 1)))
 (.br (decide (0 ≤ nn3)) (.br (decide (nn3 ≤ (a0.els.length : Int))) (.br (decide ((a0.els.take (Int.toNat nn3)).length ≤ bigN)) (.ret [D.sl (a0.els.take (Int.toNat nn3))]) .fail) .fail) .fail)) .fail) .fail)
 (.br (decide (0 ≤ nn3)) (.br (decide (nn3 ≤ (a0.els.length : Int))) (.br (decide ((a0.els.take (Int.toNat nn3)).length ≤ bigN)) (.ret [D.sl (a0.els.take (Int.toNat nn3))]) .fail) .fail) .fail) := by kernel_rfl
theorem ref02_Norm_tree (n : Nat) (a0 : D) : evFun Tryz.prog md ref02_Norm_orc n 151 [] [a0] =
 ref02_Norm_l2 n n a0 (a0.els.length : Int) := by kernel_rfl

/-! scrim/scrimref02.Gcd -/
def ref02_Gcd_orc : List (Nat × Orc) := [(3, ⟨[(5, some 63), (6, some 63), (7, none)], [], []⟩)]
def ref02_Gcd_ps : List Nat := [63, 63]
def ref02_Gcd_rs : List ResultVar := [.tmp 4]
def ref02_Gcd_ts : List Nat := [63]
noncomputable def ref02_Gcd_l3 (n m3 : Nat) (x5 : D) (y6 : D) (k7 : Int) : Tree :=
  evLoop Tryz.prog md (ev Tryz.prog md n ref02_Gcd_orc (cAt (bodyOf Tryz.prog 154) [1, 1, 0, 1, 0, 0])) (orcAt ref02_Gcd_orc 3) m3 ⟨[.undef, .undef, .undef, .undef, .undef, .d 63 x5, .d 63 y6, .i .i64 k7, .undef, .undef, .undef, .undef, .undef, .undef, .undef, .undef, .undef, .undef, .undef, .undef, .undef, .undef, .undef, .undef, .undef, .undef, .undef, .undef, .undef, .undef, .undef, .undef, .undef, .undef], [], [], [], []⟩
   (blockK 0 (seqK (joinE Tryz.prog md (joinAt ref02_Gcd_orc (cAt (bodyOf Tryz.prog 154) [1, 1, 1])) (ev Tryz.prog md n ref02_Gcd_orc (cAt (bodyOf Tryz.prog 154) [1, 1, 1]))) (retK Tryz.prog md (md 154) ref02_Gcd_ps ref02_Gcd_rs ref02_Gcd_ts)))
theorem ref02_Gcd_l3_succ (n m3 : Nat) (x5 : D) (y6 : D) (k7 : Int) : ref02_Gcd_l3 n (m3 + 1) x5 y6 k7 =
 .br (decide (k7 < 100000)) (.br (decide (0 < (y6.els.length : Int))) (.call 155 [] [x5, y6] fun yy3 =>
 ref02_Gcd_l3 n m3 y6 (yy3.getD 1 D.nil) (IntKind.wrap .i64 (k7 + 1)))
 (.ret [x5]))
 (.ret [x5]) := by kernel_rfl
theorem ref02_Gcd_tree (n : Nat) (a0 : D) (b1 : D) : evFun Tryz.prog md ref02_Gcd_orc n 154 [] [a0, b1] =
 .call 151 [] [a0] fun yy1 =>
 .call 151 [] [b1] fun yy2 =>
 ref02_Gcd_l3 n n (yy1.getD 0 D.nil) (yy2.getD 0 D.nil) 0 := by kernel_rfl

/-! scrim/scrimref02.DivMod -/
def ref02_DivMod_orc : List (Nat × Orc) := [(5, ⟨[(0, some 63), (1, some 63), (7, some 63), (8, some 63), (9, none)], [], []⟩)]
def ref02_DivMod_ps : List Nat := [63, 63]
def ref02_DivMod_rs : List ResultVar := [.tmp 4, .tmp 5, .tmp 6]
def ref02_DivMod_ts : List Nat := [63, 63, 4]
noncomputable def ref02_DivMod_l5 (n m5 : Nat) (a0 : D) (b1 : D) (q7 : D) (r8 : D) (i9 : Int) : Tree :=
  evLoop Tryz.prog md (ev Tryz.prog md n ref02_DivMod_orc (cAt (bodyOf Tryz.prog 155) [1, 1, 1, 0, 1, 0, 0])) (orcAt ref02_DivMod_orc 5) m5 ⟨[.d 63 a0, .d 63 b1, .undef, .undef, .undef, .undef, .undef, .d 63 q7, .d 63 r8, .i .i64 i9, .undef, .undef, .undef, .undef, .undef, .undef, .undef, .undef, .undef, .undef, .undef, .undef, .undef, .undef, .undef, .undef, .undef, .undef, .undef, .undef, .undef, .undef, .undef, .undef, .undef, .undef, .undef, .undef, .undef, .undef, .undef, .undef, .undef], [], [], [], []⟩
   (blockK 0 (seqK (joinE Tryz.prog md (joinAt ref02_DivMod_orc (cAt (bodyOf Tryz.prog 155) [1, 1, 1, 1])) (ev Tryz.prog md n ref02_DivMod_orc (cAt (bodyOf Tryz.prog 155) [1, 1, 1, 1]))) (retK Tryz.prog md (md 155) ref02_DivMod_ps ref02_DivMod_rs ref02_DivMod_ts)))
theorem ref02_DivMod_l5_succ (n m5 : Nat) (a0 : D) (b1 : D) (q7 : D) (r8 : D) (i9 : Int) : ref02_DivMod_l5 n (m5 + 1) a0 b1 q7 r8 i9 =
 .br (decide (0 ≤ i9)) (.call 166 [] [a0, D.int i9] fun yy2 =>
 .call 165 [] [r8, D.int ((yy2.getD 0 D.nil).toInt)] fun yy3 =>
 .call 164 [] [yy3.getD 0 D.nil, b1] fun yy4 =>
 .br ((yy4.getD 1 D.nil).toBool) (.call 165 [] [q7, D.int 1] fun yy5 =>
 ref02_DivMod_l5 n m5 a0 b1 (yy5.getD 0 D.nil) (yy4.getD 0 D.nil) (IntKind.wrap .i64 (i9 - 1)))
 (.call 165 [] [q7, D.int 0] fun yy6 =>
 ref02_DivMod_l5 n m5 a0 b1 (yy6.getD 0 D.nil) (yy3.getD 0 D.nil) (IntKind.wrap .i64 (i9 - 1))))
 (.ret [q7, r8, D.bool true]) := by kernel_rfl
theorem ref02_DivMod_tree (n : Nat) (a0 : D) (b1 : D) : evFun Tryz.prog md ref02_DivMod_orc n 155 [] [a0, b1] =
 .call 151 [] [b1] fun yy1 =>
 .br ((((yy1.getD 0 D.nil).els).length : Int) == 0) (.ret [D.sl [], D.sl [], D.bool false])
 (ref02_DivMod_l5 n n a0 b1 (D.sl []) (D.sl []) (IntKind.wrap .i64 ((IntKind.wrap .i64 (32 * (a0.els.length : Int))) - 1))) := by kernel_rfl

/-! scrim/nat.Norm -/
def nat_Norm_orc : List (Nat × Orc) := []
theorem nat_Norm_tree (n : Nat) (a0 : D) : evFun Tryz.prog md nat_Norm_orc n 157 [] [a0] =
 .call 167 [] [a0] fun yy1 =>
 .br (decide (0 ≤ (((yy1.getD 0 D.nil).els).length : Int))) (.br (decide ((((yy1.getD 0 D.nil).els).length : Int) ≤ (((yy1.getD 0 D.nil).els).length : Int))) (.br (decide ((((yy1.getD 0 D.nil).els).length : Int) ≤ bigN)) (.ret [D.sl (((yy1.getD 0 D.nil).els).take (List.replicate (Int.toNat (((yy1.getD 0 D.nil).els).length : Int)) (D.int 0)).length ++ (List.replicate (Int.toNat (((yy1.getD 0 D.nil).els).length : Int)) (D.int 0)).drop ((yy1.getD 0 D.nil).els).length)]) .fail) .fail) .fail := by kernel_rfl

/-! scrim/scrimref02.Add -/
def ref02_Add_orc : List (Nat × Orc) := [(4, ⟨[(0, some 63), (1, some 63), (5, none), (6, none), (7, none)], [], [(.slot 5, 1040, 139)]⟩)]
def ref02_Add_ps : List Nat := [63, 63]
def ref02_Add_rs : List ResultVar := [.tmp 4]
def ref02_Add_ts : List Nat := [63]
noncomputable def ref02_Add_l4 (n m4 : Nat) (a0 : D) (b1 : D) (out5 : List D) (carry6 : Int) (i7 : Int) : Tree :=
  evLoop Tryz.prog md (ev Tryz.prog md n ref02_Add_orc (cAt (bodyOf Tryz.prog 162) [1, 1, 1, 0, 1, 0, 0])) (orcAt ref02_Add_orc 4) m4 ⟨[.d 63 a0, .d 63 b1, .undef, .undef, .undef, .row 1040, .i .u64 carry6, .i .i64 i7, .undef, .undef, .undef, .undef, .undef, .undef, .undef, .undef, .undef, .undef, .undef, .undef, .undef, .undef, .undef, .undef, .undef, .undef, .undef, .undef, .undef, .undef, .undef, .undef, .undef, .undef, .undef], [(1040, .row 139 out5 true)], [1040], [], []⟩
   (blockK 0 (seqK (joinE Tryz.prog md (joinAt ref02_Add_orc (cAt (bodyOf Tryz.prog 162) [1, 1, 1, 1])) (ev Tryz.prog md n ref02_Add_orc (cAt (bodyOf Tryz.prog 162) [1, 1, 1, 1]))) (retK Tryz.prog md (md 162) ref02_Add_ps ref02_Add_rs ref02_Add_ts)))
theorem ref02_Add_l4_succ (n m4 : Nat) (a0 : D) (b1 : D) (out5 : List D) (carry6 : Int) (i7 : Int) : ref02_Add_l4 n (m4 + 1) a0 b1 out5 carry6 i7 =
 .call 169 [] [a0, b1] fun yy1 =>
 .br (decide (i7 ≤ ((yy1.getD 0 D.nil).toInt))) (.call 170 [] [a0, D.int i7] fun yy2 =>
 .call 170 [] [b1, D.int i7] fun yy3 =>
 .br (!(4294967296 == (0 : Int))) (.br (decide (out5.length + [D.int (IntKind.wrap .u32 (Int.tmod (IntKind.wrap .u64 ((IntKind.wrap .u64 (((yy2.getD 0 D.nil).toInt) + ((yy3.getD 0 D.nil).toInt))) + carry6)) 4294967296))].length ≤ bigN)) (.br (!(4294967296 == (0 : Int))) (ref02_Add_l4 n m4 a0 b1 (out5 ++ [D.int (IntKind.wrap .u32 (Int.tmod (IntKind.wrap .u64 ((IntKind.wrap .u64 (((yy2.getD 0 D.nil).toInt) + ((yy3.getD 0 D.nil).toInt))) + carry6)) 4294967296))]) (IntKind.wrap .u64 (Int.tdiv (IntKind.wrap .u64 ((IntKind.wrap .u64 (((yy2.getD 0 D.nil).toInt) + ((yy3.getD 0 D.nil).toInt))) + carry6)) 4294967296)) (IntKind.wrap .i64 (i7 + 1))) .fail) .fail) .fail)
 (.call 151 [] [D.sl out5] fun yy4 =>
 .ret [yy4.getD 0 D.nil]) := by kernel_rfl
theorem ref02_Add_tree (n : Nat) (a0 : D) (b1 : D) : evFun Tryz.prog md ref02_Add_orc n 162 [] [a0, b1] =
 ref02_Add_l4 n n a0 b1 [] 0 0 := by kernel_rfl

/-! scrim/scrimref02.Cmp -/
def ref02_Cmp_orc : List (Nat × Orc) := [(2, ⟨[(0, some 63), (1, some 63), (5, none)], [], []⟩)]
def ref02_Cmp_ps : List Nat := [63, 63]
def ref02_Cmp_rs : List ResultVar := [.tmp 4]
def ref02_Cmp_ts : List Nat := [3]
noncomputable def ref02_Cmp_l2 (n m2 : Nat) (a0 : D) (b1 : D) (i5 : Int) : Tree :=
  evLoop Tryz.prog md (ev Tryz.prog md n ref02_Cmp_orc (cAt (bodyOf Tryz.prog 163) [1, 0, 1, 0, 0])) (orcAt ref02_Cmp_orc 2) m2 ⟨[.d 63 a0, .d 63 b1, .undef, .undef, .undef, .i .i64 i5, .undef, .undef, .undef, .undef, .undef, .undef, .undef, .undef, .undef, .undef, .undef, .undef, .undef, .undef, .undef, .undef, .undef, .undef, .undef, .undef, .undef, .undef], [], [], [], []⟩
   (blockK 0 (seqK (joinE Tryz.prog md (joinAt ref02_Cmp_orc (cAt (bodyOf Tryz.prog 163) [1, 1])) (ev Tryz.prog md n ref02_Cmp_orc (cAt (bodyOf Tryz.prog 163) [1, 1]))) (retK Tryz.prog md (md 163) ref02_Cmp_ps ref02_Cmp_rs ref02_Cmp_ts)))
theorem ref02_Cmp_l2_succ (n m2 : Nat) (a0 : D) (b1 : D) (i5 : Int) : ref02_Cmp_l2 n (m2 + 1) a0 b1 i5 =
 .br (decide (0 ≤ i5)) (.call 170 [] [a0, D.int i5] fun yy2 =>
 .call 170 [] [b1, D.int i5] fun yy3 =>
 .br (decide (((yy2.getD 0 D.nil).toInt) < ((yy3.getD 0 D.nil).toInt))) (.ret [D.int (-1)])
 (.call 170 [] [a0, D.int i5] fun yy4 =>
 .call 170 [] [b1, D.int i5] fun yy5 =>
 .br (decide (((yy5.getD 0 D.nil).toInt) < ((yy4.getD 0 D.nil).toInt))) (.ret [D.int 1])
 (ref02_Cmp_l2 n m2 a0 b1 (IntKind.wrap .i64 (i5 - 1)))))
 (.ret [D.int 0]) := by kernel_rfl
theorem ref02_Cmp_tree (n : Nat) (a0 : D) (b1 : D) : evFun Tryz.prog md ref02_Cmp_orc n 163 [] [a0, b1] =
 .call 169 [] [a0, b1] fun yy1 =>
 ref02_Cmp_l2 n n a0 b1 (IntKind.wrap .i64 (((yy1.getD 0 D.nil).toInt) - 1)) := by kernel_rfl

/-! scrim/scrimref02.Sub -/
def ref02_Sub_orc : List (Nat × Orc) := [(6, ⟨[(0, some 63), (1, some 63), (6, none), (7, none), (8, none)], [], [(.slot 6, 1060, 139)]⟩)]
def ref02_Sub_ps : List Nat := [63, 63]
def ref02_Sub_rs : List ResultVar := [.tmp 4, .tmp 5]
def ref02_Sub_ts : List Nat := [63, 4]
noncomputable def ref02_Sub_l6 (n m6 : Nat) (a0 : D) (b1 : D) (out6 : List D) (borrow7 : Int) (i8 : Int) : Tree :=
  evLoop Tryz.prog md (ev Tryz.prog md n ref02_Sub_orc (cAt (bodyOf Tryz.prog 164) [1, 1, 1, 1, 0, 1, 0, 0])) (orcAt ref02_Sub_orc 6) m6 ⟨[.d 63 a0, .d 63 b1, .undef, .undef, .undef, .undef, .row 1060, .i .u64 borrow7, .i .i64 i8, .undef, .undef, .undef, .undef, .undef, .undef, .undef, .undef, .undef, .undef, .undef, .undef, .undef, .undef, .undef, .undef, .undef, .undef, .undef, .undef, .undef, .undef, .undef, .undef, .undef, .undef, .undef, .undef, .undef, .undef, .undef, .undef, .undef], [(1060, .row 139 out6 true)], [1060], [], []⟩
   (blockK 0 (seqK (joinE Tryz.prog md (joinAt ref02_Sub_orc (cAt (bodyOf Tryz.prog 164) [1, 1, 1, 1, 1])) (ev Tryz.prog md n ref02_Sub_orc (cAt (bodyOf Tryz.prog 164) [1, 1, 1, 1, 1]))) (retK Tryz.prog md (md 164) ref02_Sub_ps ref02_Sub_rs ref02_Sub_ts)))
theorem ref02_Sub_l6_succ (n m6 : Nat) (a0 : D) (b1 : D) (out6 : List D) (borrow7 : Int) (i8 : Int) : ref02_Sub_l6 n (m6 + 1) a0 b1 out6 borrow7 i8 =
 .call 169 [] [a0, b1] fun yy2 =>
 .br (decide (i8 < ((yy2.getD 0 D.nil).toInt))) (.call 170 [] [a0, D.int i8] fun yy3 =>
 .call 170 [] [b1, D.int i8] fun yy4 =>
 .br (!(4294967296 == (0 : Int))) (.br (decide (out6.length + [D.int (IntKind.wrap .u32 (Int.tmod (IntKind.wrap .u64 ((IntKind.wrap .u64 ((IntKind.wrap .u64 (4294967296 + ((yy3.getD 0 D.nil).toInt))) - ((yy4.getD 0 D.nil).toInt))) - borrow7)) 4294967296))].length ≤ bigN)) (.br (!(4294967296 == (0 : Int))) (ref02_Sub_l6 n m6 a0 b1 (out6 ++ [D.int (IntKind.wrap .u32 (Int.tmod (IntKind.wrap .u64 ((IntKind.wrap .u64 ((IntKind.wrap .u64 (4294967296 + ((yy3.getD 0 D.nil).toInt))) - ((yy4.getD 0 D.nil).toInt))) - borrow7)) 4294967296))]) (IntKind.wrap .u64 (1 - (IntKind.wrap .u64 (Int.tdiv (IntKind.wrap .u64 ((IntKind.wrap .u64 ((IntKind.wrap .u64 (4294967296 + ((yy3.getD 0 D.nil).toInt))) - ((yy4.getD 0 D.nil).toInt))) - borrow7)) 4294967296)))) (IntKind.wrap .i64 (i8 + 1))) .fail) .fail) .fail)
 (.call 151 [] [D.sl out6] fun yy5 =>
 .ret [yy5.getD 0 D.nil, D.bool true]) := by kernel_rfl
theorem ref02_Sub_tree (n : Nat) (a0 : D) (b1 : D) : evFun Tryz.prog md ref02_Sub_orc n 164 [] [a0, b1] =
 .call 163 [] [a0, b1] fun yy1 =>
 .br (decide (((yy1.getD 0 D.nil).toInt) < 0)) (.ret [D.sl [], D.bool false])
 (ref02_Sub_l6 n n a0 b1 [] 0 0) := by kernel_rfl

/-! scrim/scrimref02.twice -/
def ref02_twice_orc : List (Nat × Orc) := [(4, ⟨[(0, some 63), (5, none), (6, none), (7, none)], [], [(.slot 5, 1040, 139)]⟩)]
def ref02_twice_ps : List Nat := [63, 139]
def ref02_twice_rs : List ResultVar := [.tmp 4]
def ref02_twice_ts : List Nat := [63]
noncomputable def ref02_twice_l4 (n m4 : Nat) (a0 : D) (out5 : List D) (carry6 : Int) (i7 : Int) : Tree :=
  evLoop Tryz.prog md (ev Tryz.prog md n ref02_twice_orc (cAt (bodyOf Tryz.prog 165) [1, 1, 1, 0, 1, 0, 0])) (orcAt ref02_twice_orc 4) m4 ⟨[.d 63 a0, .undef, .undef, .undef, .undef, .row 1040, .i .u64 carry6, .i .i64 i7, .undef, .undef, .undef, .undef, .undef, .undef, .undef, .undef, .undef, .undef, .undef, .undef, .undef, .undef, .undef, .undef, .undef, .undef, .undef, .undef, .undef, .undef, .undef, .undef, .undef], [(1040, .row 139 out5 true)], [1040], [], []⟩
   (blockK 0 (seqK (joinE Tryz.prog md (joinAt ref02_twice_orc (cAt (bodyOf Tryz.prog 165) [1, 1, 1, 1])) (ev Tryz.prog md n ref02_twice_orc (cAt (bodyOf Tryz.prog 165) [1, 1, 1, 1]))) (retK Tryz.prog md (md 165) ref02_twice_ps ref02_twice_rs ref02_twice_ts)))
theorem ref02_twice_l4_succ (n m4 : Nat) (a0 : D) (out5 : List D) (carry6 : Int) (i7 : Int) : ref02_twice_l4 n (m4 + 1) a0 out5 carry6 i7 =
 .br (decide (i7 ≤ (a0.els.length : Int))) (.call 170 [] [a0, D.int i7] fun yy1 =>
 .br (!(4294967296 == (0 : Int))) (.br (decide (out5.length + [D.int (IntKind.wrap .u32 (Int.tmod (IntKind.wrap .u64 ((IntKind.wrap .u64 (2 * ((yy1.getD 0 D.nil).toInt))) + carry6)) 4294967296))].length ≤ bigN)) (.br (!(4294967296 == (0 : Int))) (ref02_twice_l4 n m4 a0 (out5 ++ [D.int (IntKind.wrap .u32 (Int.tmod (IntKind.wrap .u64 ((IntKind.wrap .u64 (2 * ((yy1.getD 0 D.nil).toInt))) + carry6)) 4294967296))]) (IntKind.wrap .u64 (Int.tdiv (IntKind.wrap .u64 ((IntKind.wrap .u64 (2 * ((yy1.getD 0 D.nil).toInt))) + carry6)) 4294967296)) (IntKind.wrap .i64 (i7 + 1))) .fail) .fail) .fail)
 (.call 151 [] [D.sl out5] fun yy2 =>
 .ret [yy2.getD 0 D.nil]) := by kernel_rfl
theorem ref02_twice_tree (n : Nat) (a0 : D) (bit1 : D) : evFun Tryz.prog md ref02_twice_orc n 165 [] [a0, bit1] =
 ref02_twice_l4 n n a0 [] (IntKind.wrap .u64 bit1.toInt) 0 := by kernel_rfl

/-! scrim/scrimref02.Bit -/
def ref02_Bit_orc : List (Nat × Orc) := [(3, ⟨[(1, none), (5, none), (6, none)], [], []⟩)]
def ref02_Bit_ps : List Nat := [63, 3]
def ref02_Bit_rs : List ResultVar := [.tmp 4]
def ref02_Bit_ts : List Nat := [139]
noncomputable def ref02_Bit_l3 (n m3 : Nat) (i1 : Int) (w5 : Int) (k6 : Int) : Tree :=
  evLoop Tryz.prog md (ev Tryz.prog md n ref02_Bit_orc (cAt (bodyOf Tryz.prog 166) [1, 1, 0, 1, 0, 0])) (orcAt ref02_Bit_orc 3) m3 ⟨[.undef, .i .i64 i1, .undef, .undef, .undef, .i .u64 w5, .i .i64 k6, .undef, .undef, .undef, .undef, .undef, .undef, .undef, .undef, .undef, .undef, .undef, .undef, .undef, .undef, .undef], [], [], [], []⟩
   (blockK 0 (seqK (joinE Tryz.prog md (joinAt ref02_Bit_orc (cAt (bodyOf Tryz.prog 166) [1, 1, 1])) (ev Tryz.prog md n ref02_Bit_orc (cAt (bodyOf Tryz.prog 166) [1, 1, 1]))) (retK Tryz.prog md (md 166) ref02_Bit_ps ref02_Bit_rs ref02_Bit_ts)))
theorem ref02_Bit_l3_succ (n m3 : Nat) (i1 : Int) (w5 : Int) (k6 : Int) : ref02_Bit_l3 n (m3 + 1) i1 w5 k6 =
 .br (!(32 == (0 : Int))) (.br (decide (k6 < (Int.tmod i1 32))) (.br (!(2 == (0 : Int))) (ref02_Bit_l3 n m3 i1 (IntKind.wrap .u64 (Int.tdiv w5 2)) (IntKind.wrap .i64 (k6 + 1))) .fail)
 (.br (!(2 == (0 : Int))) (.ret [D.int (IntKind.wrap .u32 (Int.tmod w5 2))]) .fail)) .fail := by kernel_rfl
theorem ref02_Bit_tree (n : Nat) (a0 : D) (i1 : D) : evFun Tryz.prog md ref02_Bit_orc n 166 [] [a0, i1] =
 .br (!(32 == (0 : Int))) (.call 170 [] [a0, D.int (IntKind.wrap .i64 (Int.tdiv i1.toInt 32))] fun yy1 =>
 ref02_Bit_l3 n n i1.toInt ((yy1.getD 0 D.nil).toInt) 0) .fail := by kernel_rfl

/-! scrim/nat.trim -/
def nat_trim_orc : List (Nat × Orc) := [(2, ⟨[(0, some 63), (3, none)], [], []⟩)]
def nat_trim_ps : List Nat := [63]
def nat_trim_rs : List ResultVar := [.tmp 2]
def nat_trim_ts : List Nat := [63]
noncomputable def nat_trim_l2 (n m2 : Nat) (a0 : D) (nn3 : Int) : Tree :=
  evLoop Tryz.prog md (ev Tryz.prog md n nat_trim_orc (cAt (bodyOf Tryz.prog 167) [1, 1, 0, 0, 0])) (orcAt nat_trim_orc 2) m2 ⟨[.d 63 a0, .undef, .undef, .i .i64 nn3, .undef, .undef, .undef, .undef, .undef, .undef, .undef, .undef, .undef, .undef, .undef, .undef, .undef, .undef, .undef, .undef, .undef, .undef], [], [], [], []⟩
   (blockK 0 (seqK (joinE Tryz.prog md (joinAt nat_trim_orc (cAt (bodyOf Tryz.prog 167) [1, 1, 1])) (ev Tryz.prog md n nat_trim_orc (cAt (bodyOf Tryz.prog 167) [1, 1, 1]))) (retK Tryz.prog md (md 167) nat_trim_ps nat_trim_rs nat_trim_ts)))
theorem nat_trim_l2_succ (n m2 : Nat) (a0 : D) (nn3 : Int) : nat_trim_l2 n (m2 + 1) a0 nn3 =
 .br (decide (0 < nn3)) (.br (decide (0 ≤ IntKind.wrap .i64 (nn3 - 1))) (.br (decide (IntKind.wrap .i64 (nn3 - 1) < (a0.els.length : Int))) (.br (((a0.els.getD (Int.toNat (IntKind.wrap .i64 (nn3 - 1))) D.nil).toInt) == 0) (nat_trim_l2 n m2 a0 (IntKind.wrap .i64 (nn3 - 1)))
 (.br (decide (0 ≤ nn3)) (.br (decide (nn3 ≤ nn3)) (.br (decide (nn3 ≤ (a0.els.length : Int))) (.ret [D.sl (a0.els.take (Int.toNat nn3))]) .fail) .fail) .fail)) .fail) .fail)
 (.br (decide (0 ≤ nn3)) (.br (decide (nn3 ≤ nn3)) (.br (decide (nn3 ≤ (a0.els.length : Int))) (.ret [D.sl (a0.els.take (Int.toNat nn3))]) .fail) .fail) .fail) := by kernel_rfl
theorem nat_trim_tree (n : Nat) (a0 : D) : evFun Tryz.prog md nat_trim_orc n 167 [] [a0] =
 nat_trim_l2 n n a0 (a0.els.length : Int) := by kernel_rfl

/-! scrim/scrimref02.longer -/
def ref02_longer_orc : List (Nat × Orc) := []
theorem ref02_longer_tree (n : Nat) (a0 : D) (b1 : D) : evFun Tryz.prog md ref02_longer_orc n 169 [] [a0, b1] =
 .br (decide ((b1.els.length : Int) < (a0.els.length : Int))) (.ret [D.int (a0.els.length : Int)])
 (.ret [D.int (b1.els.length : Int)]) := by kernel_rfl

/-! scrim/scrimref02.limb -/
def ref02_limb_orc : List (Nat × Orc) := []
theorem ref02_limb_tree (n : Nat) (a0 : D) (i1 : D) : evFun Tryz.prog md ref02_limb_orc n 170 [] [a0, i1] =
 .br (decide (i1.toInt < (a0.els.length : Int))) (.br (decide (0 ≤ i1.toInt)) (.br (decide (i1.toInt < (a0.els.length : Int))) (.ret [D.int (IntKind.wrap .u64 ((a0.els.getD (Int.toNat i1.toInt) D.nil).toInt))]) .fail) .fail)
 (.ret [D.int 0]) := by kernel_rfl

end Go.Proofs.YtbgcadcpeabpgaaGreat

namespace Go.Proofs.YtbgcadcpeabpgaaGreat

def B : Nat := 4294967296
theorem B_eq : B = 4294967296 := rfl
theorem B_pos : 0 < B := by decide
theorem Bp (i : Nat) : 0 < B ^ i := Nat.pow_pos B_pos
theorem limb_lt (x : Limb) : x.toNat < B := x.isLt
def nv : List Limb → Nat
  | [] => 0
  | x :: l => x.toNat + B * nv l
@[simp] theorem nv_nil : nv [] = 0 := rfl
theorem nv_append (l m : List Limb) : nv (l ++ m) = nv l + B ^ l.length * nv m := by
  induction l with
  | nil => simp
  | cons x l ih =>
    simp only [List.cons_append, nv, ih, List.length_cons, Nat.pow_succ, Nat.mul_add]
    rw [Nat.mul_comm (B ^ l.length) B, Nat.mul_assoc]; omega
theorem nv_snoc (l : List Limb) (x : Limb) : nv (l ++ [x]) = nv l + B ^ l.length * x.toNat := by rw [nv_append]; simp [nv]
theorem nv_lt (l : List Limb) : nv l < B ^ l.length := by
  induction l with
  | nil => simp
  | cons x l ih =>
    simp only [nv, List.length_cons, Nat.pow_succ]
    have hx := limb_lt x
    have : B * (nv l + 1) ≤ B * B ^ l.length := Nat.mul_le_mul_left _ ih
    rw [Nat.mul_comm (B ^ l.length) B]
    rw [Nat.mul_add] at this
    omega
theorem nv_drop (l : List Limb) (i : Nat) : nv (l.drop i) = nv l / B ^ i := by
  induction i generalizing l with
  | zero => simp
  | succ i ih =>
    cases l with
    | nil => simp
    | cons x l =>
      rw [List.drop_succ_cons, ih, Nat.pow_succ, Nat.mul_comm, ← Nat.div_div_eq_div_mul]
      simp only [nv]
      rw [Nat.add_mul_div_left _ _ B_pos, Nat.div_eq_of_lt (limb_lt x), Nat.zero_add]
/-- A limb. -/
theorem nv_limb (l : List Limb) (i : Nat) (hi : i < l.length) : (l[i]).toNat = nv l / B ^ i % B := by
  rw [← nv_drop, List.drop_eq_getElem_cons hi, nv, Nat.add_mul_mod_self_left, Nat.mod_eq_of_lt (limb_lt _)]
theorem nv_limb' (l : List Limb) (i : Nat) (hi : l.length ≤ i) : nv l / B ^ i % B = 0 := by
  rw [← nv_drop, List.drop_eq_nil_of_le hi]; rfl
theorem nv_zeros (k : Nat) : nv (List.replicate k 0) = 0 := by
  induction k with
  | zero => rfl
  | succ k ih => rw [List.replicate_succ, nv, ih]; rfl
/-- A digit more. -/
theorem nv_step {out : List Limb} {z i : Nat} {d : Limb} (hl : out.length = i) (h : nv out = z % B ^ i) (hd : d.toNat = z / B ^ i % B) : nv (out ++ [d]) = z % B ^ (i + 1) := by
  rw [nv_snoc, hl, h, hd, Nat.mod_pow_succ]

/-- The limbs of a number. -/
def lb (n : Nat) : List Limb := if h : n = 0 then [] else BitVec.ofNat 32 n :: lb (n / B)
termination_by n
decreasing_by exact Nat.div_lt_self (Nat.pos_of_ne_zero h) (by decide)
theorem lb_zero : lb 0 = [] := by rw [lb]; simp
theorem lb_pos {n : Nat} (h : n ≠ 0) : lb n = BitVec.ofNat 32 n :: lb (n / B) := by rw [lb, dif_neg h]
theorem nv_lb (n : Nat) : nv (lb n) = n := by
  induction n using Nat.strongRecOn with
  | _ n ih =>
    by_cases h : n = 0
    · subst h; rw [lb_zero]; rfl
    · rw [lb_pos h, nv, ih _ (Nat.div_lt_self (Nat.pos_of_ne_zero h) (by decide)), BitVec.toNat_ofNat]
      exact Nat.mod_add_div n B
theorem lb_len {n k : Nat} : (lb n).length ≤ k ↔ n < B ^ k := by
  induction k generalizing n with
  | zero =>
    by_cases h : n = 0
    · subst h; simp [lb_zero]
    · rw [lb_pos h]; simp; omega
  | succ k ih =>
    by_cases h : n = 0
    · subst h; simp [lb_zero, Bp]
    · rw [lb_pos h, List.length_cons, Nat.succ_le_succ_iff, ih, Nat.div_lt_iff_lt_mul B_pos, Nat.pow_succ]
theorem lb_eq_nil {n : Nat} : lb n = [] ↔ n = 0 := by
  constructor
  · intro h; have := nv_lb n; rw [h] at this; simpa using this.symm
  · rintro rfl; exact lb_zero
theorem lb_len0 {n : Nat} : (lb n).length = 0 ↔ n = 0 := by rw [List.length_eq_zero_iff, lb_eq_nil]
/-- No 0 on top. -/
theorem lb_can {l : List Limb} (h : ∀ hne : l ≠ [], l.getLast hne ≠ 0) : lb (nv l) = l := by
  induction l with
  | nil => simp [lb_zero]
  | cons x l ih =>
    have ihl := ih (fun hne => by have := h (by simp); rwa [List.getLast_cons hne] at this)
    have hpos : nv (x :: l) ≠ 0 := by
      intro h0
      simp only [nv] at h0
      cases l with
      | nil =>
        have := h (by simp)
        simp only [List.getLast_singleton] at this
        exact this (BitVec.eq_of_toNat_eq (by simp; omega))
      | cons y m =>
        have hv : nv (y :: m) = 0 := by
          rcases Nat.eq_zero_or_pos (nv (y :: m)) with h | h
          · exact h
          · have := Nat.mul_le_mul_left B h; rw [B_eq] at this h0; omega
        rw [hv, lb_zero] at ihl
        cases ihl
    rw [lb_pos hpos]
    have e2 : nv (x :: l) / B = nv l := by simp only [nv]; rw [Nat.add_mul_div_left _ _ B_pos, Nat.div_eq_of_lt (limb_lt x), Nat.zero_add]
    rw [e2, ihl]
    congr 1
    apply BitVec.eq_of_toNat_eq
    simp only [nv, BitVec.toNat_ofNat]
    show (x.toNat + B * nv l) % B = x.toNat
    rw [Nat.add_mul_mod_self_left, Nat.mod_eq_of_lt (limb_lt x)]
/-- Noughts on top taken off. -/
theorem lb_take {l : List Limb} {k : Nat} (hk : k ≤ l.length) (hz : ∀ i, k ≤ i → (hi : i < l.length) → l[i] = 0) (ht : ∀ (hi : k - 1 < l.length), 0 < k → l[k - 1] ≠ 0) : lb (nv l) = l.take k := by
  have e : nv l = nv (l.take k) := by
    have := nv_append (l.take k) (l.drop k)
    rw [List.take_append_drop] at this
    have hd : l.drop k = List.replicate (l.length - k) 0 := by
      apply List.ext_getElem
      · simp
      · intro i h1 h2
        simp only [List.getElem_drop, List.getElem_replicate]
        exact hz _ (by omega) _
    rw [this, hd, nv_zeros]; simp
  rw [e]
  apply lb_can
  intro hne
  have hk0 : 0 < k := by
    rcases Nat.eq_zero_or_pos k with h | h
    · subst h; simp at hne
    · exact h
  rw [List.getLast_eq_getElem]
  simp only [List.getElem_take, List.length_take]
  have := ht (by omega) hk0
  have he : min k l.length - 1 = k - 1 := by omega
  simp only [he]
  exact this
theorem add_digit (x y i : Nat) : (x + y) / B ^ i % B = (x / B ^ i % B + y / B ^ i % B + (x % B ^ i + y % B ^ i) / B ^ i) % B := by
  have h1 : (x + y) / B ^ i = x / B ^ i + y / B ^ i + (x % B ^ i + y % B ^ i) / B ^ i := by
    have hx := Nat.div_add_mod x (B ^ i)
    have hy := Nat.div_add_mod y (B ^ i)
    conv => lhs; rw [← hx, ← hy]
    rw [show B ^ i * (x / B ^ i) + x % B ^ i + (B ^ i * (y / B ^ i) + y % B ^ i) = (x % B ^ i + y % B ^ i) + B ^ i * (x / B ^ i + y / B ^ i) by rw [Nat.mul_add]; omega, Nat.add_mul_div_left _ _ (Bp i)]
    omega
  rw [h1]
  simp [Nat.add_mod]
theorem add_carry (x y i : Nat) : (x % B ^ (i + 1) + y % B ^ (i + 1)) / B ^ (i + 1) = (x / B ^ i % B + y / B ^ i % B + (x % B ^ i + y % B ^ i) / B ^ i) / B := by
  rw [Nat.mod_pow_succ, Nat.mod_pow_succ, Nat.pow_succ, ← Nat.div_div_eq_div_mul]
  congr 1
  rw [show x % B ^ i + B ^ i * (x / B ^ i % B) + (y % B ^ i + B ^ i * (y / B ^ i % B)) = (x % B ^ i + y % B ^ i) + B ^ i * (x / B ^ i % B + y / B ^ i % B) by rw [Nat.mul_add]; omega, Nat.add_mul_div_left _ _ (Bp i)]
  omega
theorem lt_of_div {x y b : Nat} (h : x / b < y / b) : x < y := by
  rcases Nat.lt_or_ge x y with h1 | h1
  · exact h1
  · have := Nat.div_le_div_right (c := b) h1; omega
/-- A difference is a sum, from the other end. -/
theorem sub_digit {x y : Nat} (h : y ≤ x) (i : Nat) : ∃ zi c c', zi = (x - y) / B ^ i % B ∧ c = ((x - y) % B ^ i + y % B ^ i) / B ^ i ∧ c' = ((x - y) % B ^ (i + 1) + y % B ^ (i + 1)) / B ^ (i + 1) ∧ c' ≤ 1 ∧ x / B ^ i % B + B * c' = zi + y / B ^ i % B + c := by
  refine ⟨_, _, _, rfl, rfl, rfl, ?_, ?_⟩
  · have h1 := Nat.mod_lt (x - y) (Bp (i + 1))
    have h2 := Nat.mod_lt y (Bp (i + 1))
    have : ((x - y) % B ^ (i + 1) + y % B ^ (i + 1)) / B ^ (i + 1) < 2 := by rw [Nat.div_lt_iff_lt_mul (Bp _)]; omega
    omega
  · have h1 := add_digit (x - y) y i
    rw [Nat.sub_add_cancel h] at h1
    rw [add_carry, h1]
    exact Nat.mod_add_div _ _
theorem two_digit (x b i : Nat) : (2 * x + b) / B ^ i % B = (2 * (x / B ^ i % B) + (2 * (x % B ^ i) + b) / B ^ i) % B := by
  have h1 : (2 * x + b) / B ^ i = 2 * (x / B ^ i) + (2 * (x % B ^ i) + b) / B ^ i := by
    have hx := Nat.div_add_mod x (B ^ i)
    conv => lhs; rw [← hx]
    rw [show 2 * (B ^ i * (x / B ^ i) + x % B ^ i) + b = (2 * (x % B ^ i) + b) + B ^ i * (2 * (x / B ^ i)) by rw [Nat.mul_add, Nat.mul_left_comm]; omega, Nat.add_mul_div_left _ _ (Bp i)]
    omega
  rw [h1]
  simp [Nat.add_mod, Nat.mul_mod]
theorem two_carry (x b i : Nat) : (2 * (x % B ^ (i + 1)) + b) / B ^ (i + 1) = (2 * (x / B ^ i % B) + (2 * (x % B ^ i) + b) / B ^ i) / B := by
  rw [Nat.mod_pow_succ, Nat.pow_succ, ← Nat.div_div_eq_div_mul]
  congr 1
  rw [show 2 * (x % B ^ i + B ^ i * (x / B ^ i % B)) + b = (2 * (x % B ^ i) + b) + B ^ i * (2 * (x / B ^ i % B)) by rw [Nat.mul_add, Nat.mul_left_comm]; omega, Nat.add_mul_div_left _ _ (Bp i)]
  omega
theorem B_two (i : Nat) : B ^ i = 2 ^ (32 * i) := by rw [Nat.pow_mul]; rfl
theorem bit_limb (x i : Nat) : x / B ^ (i / 32) % B / 2 ^ (i % 32) % 2 = x / 2 ^ i % 2 := by
  have h1 := Nat.toNat_testBit (x / B ^ (i / 32) % B) (i % 32)
  have h2 := Nat.toNat_testBit x i
  rw [← h1, ← h2]
  congr 1
  rw [show B = 2 ^ 32 from rfl, Nat.testBit_mod_two_pow, ← Nat.pow_mul, Nat.testBit_div_two_pow]
  have : i % 32 < 32 := Nat.mod_lt _ (by decide)
  simp only [this, decide_true, Bool.true_and]
  congr 1
  omega
theorem mod_half {x y : Nat} (h : y ≠ 0) (h2 : x % y ≠ 0) : 2 * (y % (x % y)) < y := by
  have h1 := Nat.mod_lt x (Nat.pos_of_ne_zero h)
  rcases Nat.lt_or_ge y (2 * (x % y)) with h3 | h3
  · have : y % (x % y) = y - x % y := by
      rw [Nat.mod_eq_sub_mod (by omega), Nat.mod_eq_of_lt (by omega)]
    omega
  · have := Nat.mod_lt y (Nat.pos_of_ne_zero h2)
    omega
end Go.Proofs.YtbgcadcpeabpgaaGreat

set_option maxRecDepth 100000
namespace Go.Proofs.YtbgcadcpeabpgaaGreat

theorem dB_ofNat {t : Nat} (h : t < B) : D.int (t : Int) = dB (BitVec.ofNat 32 t) := by
  show _ = D.int ((BitVec.ofNat 32 t).toNat : Int)
  rw [show (BitVec.ofNat 32 t).toNat = t by rw [BitVec.toNat_ofNat]; exact Nat.mod_eq_of_lt h]
theorem ofNat_lt {t : Nat} (h : t < B) : (BitVec.ofNat 32 t).toNat = t := by rw [BitVec.toNat_ofNat]; exact Nat.mod_eq_of_lt h
theorem wrap_pred (k : Nat) (h : k < 9223372036854775807) : IntKind.wrap .i64 (((k + 1 : Nat) : Int) - 1) = (k : Int) := by rw [wrap64 (by omega) (by omega)]; omega
theorem dL_take (l : List Limb) (k : Nat) : D.sl ((l.map dB).take k) = dL (l.take k) := by rw [dL, List.map_take]
theorem ref02_Norm_sp (l : List Limb) (hl : l.length ≤ 1000000) : Sp 151 [dL l] [dL (lb (nv l))] := by
  refine sound_ (l.length + 1) (ref02_Norm_tree _ _) ?_
  have := loop_down (P := Tryz.prog) (md := md) (fun m k (_ : Unit) => ref02_Norm_l2 (l.length + 1) m (dL l) (k : Int)) (fun _ _ => [dL (lb (nv l))]) (fun k _ => k ≤ l.length ∧ ∀ i, k ≤ i → (hi : i < l.length) → l[i] = 0)
    (fun m s ⟨h1, h2⟩ => by
      simp only [ref02_Norm_l2_succ, els_dL, List.length_map, List.length_take]
      refine wp_ndec (by omega) (wp_dec (by omega) (wp_dec (by omega) (wp_dec (by simp [bigN]) (wp_ret ?_))))
      rw [lb_take (k := 0) (by omega) h2 (fun _ h => by omega), dL_take]; rfl)
    (fun m k s ⟨h1, h2⟩ ih => by
      have hk : l[k]? = some l[k] := List.getElem?_eq_getElem _
      simp only [ref02_Norm_l2_succ, els_dL, List.length_map, List.length_take, wrap_pred k (by omega), Int.toNat_natCast, getD_map hk, toInt_dB, int_beq]
      refine wp_dec (by omega) (wp_dec (by omega) (wp_dec (by omega) (wp_decs (fun h => ?_) (fun h => ?_))))
      · refine ih () ⟨by omega, fun i hi hlt => ?_⟩
        by_cases he : i = k
        · subst he; exact BitVec.eq_of_toNat_eq (by simp; omega)
        · exact h2 i (by omega) hlt
      · refine wp_dec (by omega) (wp_dec (by omega) (wp_dec (by unfold bigN; omega) (wp_ret ?_)))
        rw [lb_take (k := k + 1) (by omega) h2 (fun _ _ hc => h (by have hc' : l[k] = 0 := hc; rw [hc']; rfl)), dL_take])
    (l.length + 1) l.length () (by omega) ⟨Nat.le_refl _, fun i h1 h2 => by omega⟩
  simpa using this
theorem ref02_limb_sp (l : List Limb) (i : Nat) (hi : i < 9223372036854775807) : Sp 170 [dL l, .int i] [.int ((nv l / B ^ i % B : Nat) : Int)] := by
  refine sound_ 0 (ref02_limb_tree _ _ _) ?_
  simp only [els_dL, List.length_map, toInt_int, Int.toNat_natCast]
  refine wp_decs (fun h => ?_) (fun h => ?_)
  · have hk : l[i]? = some (l[i]'(by omega)) := List.getElem?_eq_getElem _
    refine wp_dec (by omega) (wp_dec (by omega) (wp_ret ?_))
    have := limb_lt l[i]
    rw [getD_map hk, toInt_dB, wrapU64 (by omega) (by rw [B_eq] at this; omega), nv_limb]
  · refine wp_ret ?_
    rw [nv_limb' _ _ (by omega)]; rfl
theorem ref02_longer_sp (a b : List Limb) : Sp 169 [dL a, dL b] [.int ((max a.length b.length : Nat) : Int)] := by
  refine sound_ 0 (ref02_longer_tree _ _ _) ?_
  simp only [els_dL, List.length_map]
  refine wp_decs (fun h => wp_ret ?_) (fun h => wp_ret ?_)
  · rw [Nat.max_eq_left (by omega)]
  · rw [Nat.max_eq_right (by omega)]
/-- Which one is greater? -/
def cmpN (a b : Nat) : Int := if a < b then -1 else if a = b then 0 else 1
theorem ref02_Cmp_sp (a b : List Limb) (ha : a.length ≤ 1000000) (hb : b.length ≤ 1000000) : Sp 163 [dL a, dL b] [.int (cmpN (nv a) (nv b))] := by
  refine sound_ (max a.length b.length + 1) (ref02_Cmp_tree _ _ _) (wp_call (ref02_longer_sp a b) ?_)
  simp only [getD_c0, toInt_int]
  have key := loop_down (P := Tryz.prog) (md := md) (fun m k (_ : Unit) => ref02_Cmp_l2 (max a.length b.length + 1) m (dL a) (dL b) ((k : Int) - 1)) (fun _ _ => [.int (cmpN (nv a) (nv b))]) (fun k _ => k ≤ 1000000 ∧ nv a / B ^ k = nv b / B ^ k)
    (fun m s ⟨_, h⟩ => by
      simp only [ref02_Cmp_l2_succ]
      refine wp_ndec (by omega) (wp_ret ?_)
      simp at h
      simp [cmpN, h])
    (fun m k s ⟨h0, h⟩ ih => by
      simp only [ref02_Cmp_l2_succ, show ((k + 1 : Nat) : Int) - 1 = (k : Int) by omega]
      have ea := Nat.div_add_mod (nv a / B ^ k) B
      have eb := Nat.div_add_mod (nv b / B ^ k) B
      rw [Nat.div_div_eq_div_mul, ← Nat.pow_succ] at ea eb
      rw [h] at ea
      generalize B * (nv b / B ^ (k + 1)) = q at ea eb
      refine wp_dec (by omega) (wp_call (ref02_limb_sp a k (by omega)) (wp_call (ref02_limb_sp b k (by omega)) ?_))
      simp only [getD_c0, toInt_int]
      refine wp_decs (fun h' => wp_ret ?_) (fun h' => wp_call (ref02_limb_sp a k (by omega)) (wp_call (ref02_limb_sp b k (by omega)) ?_))
      · have hlt := lt_of_div (show nv a / B ^ k < nv b / B ^ k by omega)
        simp only [cmpN]; rw [if_pos hlt]
      · simp only [getD_c0, toInt_int]
        refine wp_decs (fun h2 => wp_ret ?_) (fun h2 => ?_)
        · have hlt := lt_of_div (show nv b / B ^ k < nv a / B ^ k by omega)
          simp only [cmpN]; rw [if_neg (by omega), if_neg (by omega)]
        · rw [wrap64 (by omega) (by omega)]
          exact ih () ⟨by omega, by omega⟩)
    (max a.length b.length + 1) (max a.length b.length) () (by omega) ⟨by omega, by
      rw [Nat.div_eq_of_lt, Nat.div_eq_of_lt]
      · exact Nat.lt_of_lt_of_le (nv_lt b) (Nat.pow_le_pow_right B_pos (Nat.le_max_right _ _))
      · exact Nat.lt_of_lt_of_le (nv_lt a) (Nat.pow_le_pow_right B_pos (Nat.le_max_left _ _))⟩
  rw [wrap64 (by omega) (by omega)]
  exact key
theorem ref02_Add_sp (a b : List Limb) (ha : a.length ≤ 100000) (hb : b.length ≤ 100000) : Sp 162 [dL a, dL b] [dL (lb (nv a + nv b))] := by
  refine sound_ (max a.length b.length + 3) (ref02_Add_tree _ _ _) ?_
  have hmx : max a.length b.length ≤ 100000 := by omega
  have hlt : nv a + nv b < B ^ (max a.length b.length + 1) := by
    have h1 : nv a < B ^ max a.length b.length := Nat.lt_of_lt_of_le (nv_lt a) (Nat.pow_le_pow_right B_pos (Nat.le_max_left _ _))
    have h2 : nv b < B ^ max a.length b.length := Nat.lt_of_lt_of_le (nv_lt b) (Nat.pow_le_pow_right B_pos (Nat.le_max_right _ _))
    rw [Nat.pow_succ, B_eq]; rw [B_eq] at h1 h2; omega
  have key := loop_up (P := Tryz.prog) (md := md) (max a.length b.length + 1) (fun m k (s : List Limb × Nat) => ref02_Add_l4 (max a.length b.length + 3) m (dL a) (dL b) (s.1.map dB) (s.2 : Int) (k : Int)) (fun _ _ => [dL (lb (nv a + nv b))])
    (fun k s => s.1.length = k ∧ nv s.1 = (nv a + nv b) % B ^ k ∧ s.2 = (nv a % B ^ k + nv b % B ^ k) / B ^ k)
    (fun m s ⟨h1, h2, h3⟩ => by
      simp only [ref02_Add_l4_succ]
      refine wp_call (ref02_longer_sp a b) ?_
      simp only [getD_c0, toInt_int]
      refine wp_ndec (by omega) (wp_call (ref02_Norm_sp s.1 (by omega)) (wp_ret ?_))
      rw [h2, Nat.mod_eq_of_lt hlt]; rfl)
    (fun m k s hk ⟨h1, h2, h3⟩ ih => by
      simp only [ref02_Add_l4_succ]
      refine wp_call (ref02_longer_sp a b) ?_
      simp only [getD_c0, toInt_int]
      refine wp_dec (by omega) (wp_call (ref02_limb_sp a k (by omega)) (wp_call (ref02_limb_sp b k (by omega)) ?_))
      simp only [getD_c0, toInt_int]
      have hd := add_digit (nv a) (nv b) k
      have hc := add_carry (nv a) (nv b) k
      have la := Nat.mod_lt (nv a / B ^ k) B_pos
      have lb' := Nat.mod_lt (nv b / B ^ k) B_pos
      have lc : s.2 ≤ 1 := by
        rw [h3]
        have r1 := Nat.mod_lt (nv a) (Bp k)
        have r2 := Nat.mod_lt (nv b) (Bp k)
        have : (nv a % B ^ k + nv b % B ^ k) / B ^ k < 2 := by rw [Nat.div_lt_iff_lt_mul (Bp k)]; omega
        omega
      rw [← h3] at hd hc
      generalize nv a / B ^ k % B = x at *
      generalize nv b / B ^ k % B = y at *
      have hB := B_eq
      rw [show (x + y + s.2) / B = (x + y + s.2) / 4294967296 from rfl] at hc
      have t1 : IntKind.wrap .u64 (IntKind.wrap .u64 ((x : Int) + (y : Int)) + (s.2 : Int)) = ((x + y + s.2 : Nat) : Int) := by
        rw [wrapU64 (x := (x : Int) + y) (by omega) (by omega), wrapU64 (by omega) (by omega)]; omega
      rw [t1, Int.tmod_eq_emod_of_nonneg (by omega), Int.tdiv_eq_ediv_of_nonneg (by omega), show (((x + y + s.2 : Nat) : Int) % 4294967296) = (((x + y + s.2) % B : Nat) : Int) by rw [B_eq]; omega,
        show (((x + y + s.2 : Nat) : Int) / 4294967296) = (((x + y + s.2) / 4294967296 : Nat) : Int) by omega]
      have hm := Nat.mod_lt (x + y + s.2) B_pos
      rw [wrapU32 (x := (((x + y + s.2) % B : Nat) : Int)) (by omega) (by generalize (x + y + s.2) % B = z at *; omega), wrapU64 (x := (((x + y + s.2) / 4294967296 : Nat) : Int)) (by omega) (by omega), wrap_succ (by omega), dB_ofNat hm]
      simp only [List.length_map, List.length_singleton]
      refine wp_tt (by decide) (wp_dec (by unfold bigN; omega) (wp_tt (by decide) ?_))
      have := ih (s.1 ++ [BitVec.ofNat 32 ((x + y + s.2) % B)], (x + y + s.2) / 4294967296) ⟨by simp [h1], nv_step h1 h2 (by rw [ofNat_lt hm, hd]), by rw [hc]⟩
      simpa using this)
    (max a.length b.length + 3) 0 ([], 0) (by omega) (by omega) ⟨rfl, by simp [Nat.mod_one], by simp [Nat.mod_one]⟩
  exact key
theorem sub_arith {x y zi c c' : Nat} (hx : x < B) (hy : y < B) (hz : zi < B) (hc : c ≤ 1) (hc' : c' ≤ 1) (e : x + B * c' = zi + y + c) :
    IntKind.wrap .u32 (Int.tmod (IntKind.wrap .u64 (IntKind.wrap .u64 (IntKind.wrap .u64 (4294967296 + (x : Int)) - (y : Int)) - (c : Int))) 4294967296) = (zi : Int) ∧
    IntKind.wrap .u64 (1 - IntKind.wrap .u64 (Int.tdiv (IntKind.wrap .u64 (IntKind.wrap .u64 (IntKind.wrap .u64 (4294967296 + (x : Int)) - (y : Int)) - (c : Int))) 4294967296)) = (c' : Int) := by
  rw [B_eq] at hx hy hz e
  have t1 : IntKind.wrap .u64 (IntKind.wrap .u64 (IntKind.wrap .u64 (4294967296 + (x : Int)) - (y : Int)) - (c : Int)) = (zi : Int) + 4294967296 * (1 - (c' : Int)) := by
    rw [wrapU64 (x := 4294967296 + (x : Int)) (by omega) (by omega), wrapU64 (x := 4294967296 + (x : Int) - y) (by omega) (by omega), wrapU64 (by omega) (by omega)]; omega
  rw [t1, Int.tmod_eq_emod_of_nonneg (by omega), Int.tdiv_eq_ediv_of_nonneg (by omega), show ((zi : Int) + 4294967296 * (1 - (c' : Int))) % 4294967296 = (zi : Int) by omega, show ((zi : Int) + 4294967296 * (1 - (c' : Int))) / 4294967296 = 1 - (c' : Int) by omega]
  rw [wrapU32 (x := (zi : Int)) (by omega) (by omega), wrapU64 (x := 1 - (c' : Int)) (by omega) (by omega), show (1 : Int) - (1 - (c' : Int)) = (c' : Int) by omega, wrapU64 (x := (c' : Int)) (by omega) (by omega)]
  exact ⟨rfl, rfl⟩
theorem ref02_Sub_sp (a b : List Limb) (ha : a.length ≤ 100000) (hb : b.length ≤ 100000) : Sp 164 [dL a, dL b] [dL (lb (nv a - nv b)), .bool (decide (nv b ≤ nv a))] := by
  refine sound_ (max a.length b.length + 3) (ref02_Sub_tree _ _ _) (wp_call (ref02_Cmp_sp a b (by omega) (by omega)) ?_)
  have hmx : max a.length b.length ≤ 100000 := by omega
  simp only [getD_c0, toInt_int]
  refine wp_decs (fun h => wp_ret ?_) (fun h => ?_)
  · have hlt : nv a < nv b := by
      unfold cmpN at h
      rcases Nat.lt_or_ge (nv a) (nv b) with h1 | h1
      · exact h1
      · rw [if_neg (by omega)] at h; split at h <;> omega
    rw [Nat.sub_eq_zero_of_le (by omega), lb_zero, decide_eq_false (by omega)]; rfl
  · have hge : nv b ≤ nv a := by
      unfold cmpN at h
      rcases Nat.lt_or_ge (nv a) (nv b) with h1 | h1
      · rw [if_pos h1] at h; omega
      · exact h1
    rw [decide_eq_true hge]
    have hlt : nv a - nv b < B ^ max a.length b.length := by
      have h1 : nv a < B ^ max a.length b.length := Nat.lt_of_lt_of_le (nv_lt a) (Nat.pow_le_pow_right B_pos (Nat.le_max_left _ _))
      omega
    have key := loop_up (P := Tryz.prog) (md := md) (max a.length b.length) (fun m k (s : List Limb × Nat) => ref02_Sub_l6 (max a.length b.length + 3) m (dL a) (dL b) (s.1.map dB) (s.2 : Int) (k : Int)) (fun _ _ => [dL (lb (nv a - nv b)), .bool true])
      (fun k s => s.1.length = k ∧ nv s.1 = (nv a - nv b) % B ^ k ∧ s.2 = ((nv a - nv b) % B ^ k + nv b % B ^ k) / B ^ k)
      (fun m s ⟨h1, h2, h3⟩ => by
        simp only [ref02_Sub_l6_succ]
        refine wp_call (ref02_longer_sp a b) ?_
        simp only [getD_c0, toInt_int]
        refine wp_ndec (by omega) (wp_call (ref02_Norm_sp s.1 (by omega)) (wp_ret ?_))
        rw [h2, Nat.mod_eq_of_lt hlt]; rfl)
      (fun m k s hk ⟨h1, h2, h3⟩ ih => by
        simp only [ref02_Sub_l6_succ]
        refine wp_call (ref02_longer_sp a b) ?_
        simp only [getD_c0, toInt_int]
        refine wp_dec (by omega) (wp_call (ref02_limb_sp a k (by omega)) (wp_call (ref02_limb_sp b k (by omega)) ?_))
        simp only [getD_c0, toInt_int]
        obtain ⟨zi, c, c', e1, e2, e3, e4, e5⟩ := sub_digit hge k
        have la := Nat.mod_lt (nv a / B ^ k) B_pos
        have lb' := Nat.mod_lt (nv b / B ^ k) B_pos
        have lz := Nat.mod_lt ((nv a - nv b) / B ^ k) B_pos
        rw [← e1] at lz
        rw [← e2] at h3
        have hB := B_eq
        have lc : c ≤ 1 := by
          rw [e2]
          have r1 := Nat.mod_lt (nv a - nv b) (Bp k)
          have r2 := Nat.mod_lt (nv b) (Bp k)
          have : ((nv a - nv b) % B ^ k + nv b % B ^ k) / B ^ k < 2 := by rw [Nat.div_lt_iff_lt_mul (Bp k)]; omega
          omega
        rw [h3]
        generalize nv a / B ^ k % B = x at *
        generalize nv b / B ^ k % B = y at *
        obtain ⟨t1, t2⟩ := sub_arith la lb' lz lc e4 e5
        rw [t1, t2, wrap_succ (by omega), dB_ofNat lz]
        simp only [List.length_map, List.length_singleton]
        refine wp_tt (by decide) (wp_dec (by unfold bigN; omega) (wp_tt (by decide) ?_))
        have := ih (s.1 ++ [BitVec.ofNat 32 zi], c') ⟨by simp [h1], nv_step h1 h2 (by rw [ofNat_lt lz, e1]), e3⟩
        simpa using this)
      (max a.length b.length + 3) 0 ([], 0) (by omega) (by omega) ⟨rfl, by simp [Nat.mod_one], by simp [Nat.mod_one]⟩
    exact key
theorem ref02_twice_sp (a : List Limb) (b : Nat) (hb : b ≤ 1) (ha : a.length ≤ 100000) : Sp 165 [dL a, .int b] [dL (lb (2 * nv a + b))] := by
  refine sound_ (a.length + 3) (ref02_twice_tree _ _ _) ?_
  have hlt : 2 * nv a + b < B ^ (a.length + 1) := by
    have := nv_lt a
    rw [Nat.pow_succ, B_eq]; rw [B_eq] at this; omega
  have key := loop_up (P := Tryz.prog) (md := md) (a.length + 1) (fun m k (s : List Limb × Nat) => ref02_twice_l4 (a.length + 3) m (dL a) (s.1.map dB) (s.2 : Int) (k : Int)) (fun _ _ => [dL (lb (2 * nv a + b))])
    (fun k s => s.1.length = k ∧ nv s.1 = (2 * nv a + b) % B ^ k ∧ s.2 = (2 * (nv a % B ^ k) + b) / B ^ k)
    (fun m s ⟨h1, h2, h3⟩ => by
      simp only [ref02_twice_l4_succ, els_dL, List.length_map]
      refine wp_ndec (by omega) (wp_call (ref02_Norm_sp s.1 (by omega)) (wp_ret ?_))
      rw [h2, Nat.mod_eq_of_lt hlt]; rfl)
    (fun m k s hk ⟨h1, h2, h3⟩ ih => by
      simp only [ref02_twice_l4_succ, els_dL, List.length_map]
      refine wp_dec (by omega) (wp_call (ref02_limb_sp a k (by omega)) ?_)
      simp only [getD_c0, toInt_int]
      have hd := two_digit (nv a) b k
      have hc := two_carry (nv a) b k
      have la := Nat.mod_lt (nv a / B ^ k) B_pos
      have hB := B_eq
      have lc : s.2 ≤ 1 := by
        rw [h3]
        have r1 := Nat.mod_lt (nv a) (Bp k)
        have : (2 * (nv a % B ^ k) + b) / B ^ k < 2 := by rw [Nat.div_lt_iff_lt_mul (Bp k)]; omega
        omega
      rw [← h3] at hd hc
      generalize nv a / B ^ k % B = x at *
      rw [show (2 * x + s.2) / B = (2 * x + s.2) / 4294967296 from rfl] at hc
      have t1 : IntKind.wrap .u64 (IntKind.wrap .u64 (2 * (x : Int)) + (s.2 : Int)) = ((2 * x + s.2 : Nat) : Int) := by
        rw [wrapU64 (x := 2 * (x : Int)) (by omega) (by omega), wrapU64 (by omega) (by omega)]; omega
      rw [t1, Int.tmod_eq_emod_of_nonneg (by omega), Int.tdiv_eq_ediv_of_nonneg (by omega), show (((2 * x + s.2 : Nat) : Int) % 4294967296) = (((2 * x + s.2) % B : Nat) : Int) by rw [B_eq]; omega,
        show (((2 * x + s.2 : Nat) : Int) / 4294967296) = (((2 * x + s.2) / 4294967296 : Nat) : Int) by omega]
      have hm := Nat.mod_lt (2 * x + s.2) B_pos
      rw [wrapU32 (x := (((2 * x + s.2) % B : Nat) : Int)) (by omega) (by generalize (2 * x + s.2) % B = z at *; omega), wrapU64 (x := (((2 * x + s.2) / 4294967296 : Nat) : Int)) (by omega) (by omega), wrap_succ (by omega), dB_ofNat hm]
      simp only [List.length_singleton]
      refine wp_tt (by decide) (wp_dec (by unfold bigN; omega) (wp_tt (by decide) ?_))
      have := ih (s.1 ++ [BitVec.ofNat 32 ((2 * x + s.2) % B)], (2 * x + s.2) / 4294967296) ⟨by simp [h1], nv_step h1 h2 (by rw [ofNat_lt hm, hd]), by rw [hc]⟩
      simpa using this)
    (a.length + 3) 0 ([], b) (by omega) (by omega) ⟨rfl, by simp [Nat.mod_one], by simp [Nat.mod_one]⟩
  simp only [toInt_int]
  rw [wrapU64 (by omega) (by omega)]
  exact key
theorem ref02_Bit_sp (a : List Limb) (i : Nat) (hi : i < 9223372036854775807) : Sp 166 [dL a, .int i] [.int ((nv a / 2 ^ i % 2 : Nat) : Int)] := by
  refine sound_ 40 (ref02_Bit_tree _ _ _) (wp_tt (by decide) ?_)
  simp only [toInt_int]
  rw [Int.tdiv_eq_ediv_of_nonneg (by omega), show (i : Int) / 32 = ((i / 32 : Nat) : Int) by omega, wrap64 (by omega) (by omega)]
  refine wp_call (ref02_limb_sp a (i / 32) (by omega)) ?_
  simp only [getD_c0, toInt_int]
  have hm : Int.tmod (i : Int) 32 = ((i % 32 : Nat) : Int) := by rw [Int.tmod_eq_emod_of_nonneg (by omega)]; omega
  have key := loop_up (P := Tryz.prog) (md := md) (i % 32) (fun m k (v : Nat) => ref02_Bit_l3 40 m (i : Int) (v : Int) (k : Int)) (fun k v => [.int ((v / 2 ^ (i % 32 - k) % 2 : Nat) : Int)]) (fun _ v => v < 4294967296)
    (fun m v hv => by
      simp only [ref02_Bit_l3_succ, hm]
      refine wp_tt (by decide) (wp_ndec (by omega) (wp_tt (by decide) (wp_ret ?_)))
      rw [Int.tmod_eq_emod_of_nonneg (by omega), show (v : Int) % 2 = ((v % 2 : Nat) : Int) by omega, wrapU32 (by omega) (by omega)]
      simp)
    (fun m k v hk hv ih => by
      simp only [ref02_Bit_l3_succ, hm]
      refine wp_tt (by decide) (wp_dec (by omega) (wp_tt (by decide) ?_))
      rw [wrap_succ (by omega), Int.tdiv_eq_ediv_of_nonneg (by omega), show (v : Int) / 2 = ((v / 2 : Nat) : Int) by omega, wrapU64 (by omega) (by omega)]
      have := ih (v / 2) (by omega)
      rw [show i % 32 - k = (i % 32 - (k + 1)) + 1 by omega, Nat.pow_succ, Nat.mul_comm, ← Nat.div_div_eq_div_mul]
      exact this)
    40 0 (nv a / B ^ (i / 32) % B) (by omega) (by omega) (Nat.mod_lt _ B_pos)
  rw [Nat.sub_zero, bit_limb] at key
  exact key
theorem ref02_DivMod_sp (a b : List Limb) (ha : a.length ≤ 10000) (hb : b.length ≤ 10000) : Sp 155 [dL a, dL b] [dL (lb (nv a / nv b)), dL (lb (if nv b = 0 then 0 else nv a % nv b)), .bool (decide (nv b ≠ 0))] := by
  refine sound_ (32 * a.length + 1) (ref02_DivMod_tree _ _ _) (wp_call (ref02_Norm_sp b (by omega)) ?_)
  simp only [getD_c0, els_dL, List.length_map, int_beq]
  refine wp_decs (fun h => wp_ret ?_) (fun h => ?_)
  · have h0 : nv b = 0 := lb_len0.1 (by omega)
    simp [h0, lb_zero, dL]
  · have h0 : nv b ≠ 0 := fun hh => h (by rw [hh, lb_zero]; rfl)
    rw [decide_eq_true h0, if_neg h0]
    have key := loop_down (P := Tryz.prog) (md := md) (fun m k (s : Nat × Nat) => ref02_DivMod_l5 (32 * a.length + 1) m (dL a) (dL b) (dL (lb s.1)) (dL (lb s.2)) ((k : Int) - 1)) (fun _ _ => [dL (lb (nv a / nv b)), dL (lb (nv a % nv b)), .bool true])
      (fun k s => k ≤ 320000 ∧ nv a / 2 ^ k = nv b * s.1 + s.2 ∧ s.2 < nv b)
      (fun m s ⟨_, h1, h2⟩ => by
        simp only [ref02_DivMod_l5_succ]
        refine wp_ndec (by omega) (wp_ret ?_)
        simp only [Nat.pow_zero, Nat.div_one] at h1
        rw [h1, Nat.mul_add_div (Nat.pos_of_ne_zero h0), Nat.div_eq_of_lt h2, Nat.mul_add_mod, Nat.mod_eq_of_lt h2]; simp)
      (fun m k s ⟨hk, h1, h2⟩ ih => by
        simp only [ref02_DivMod_l5_succ, show ((k + 1 : Nat) : Int) - 1 = (k : Int) by omega]
        have hr : (lb s.2).length ≤ b.length := lb_len.2 (Nat.lt_trans h2 (nv_lt b))
        have hq : (lb s.1).length ≤ a.length := by
          refine lb_len.2 (Nat.lt_of_le_of_lt ?_ (nv_lt a))
          have h3 : nv a / 2 ^ (k + 1) ≤ nv a := Nat.div_le_self _ _
          have h4 := Nat.le_mul_of_pos_left s.1 (Nat.pos_of_ne_zero h0)
          omega
        have hbit : nv a / 2 ^ k % 2 ≤ 1 := by omega
        have hdec : nv a / 2 ^ k = 2 * (nv a / 2 ^ (k + 1)) + nv a / 2 ^ k % 2 := by
          rw [Nat.pow_succ, ← Nat.div_div_eq_div_mul]; omega
        generalize hbt : nv a / 2 ^ k % 2 = bt at *
        have hlen2 : (lb (2 * s.2 + bt)).length ≤ b.length + 1 := by
          refine lb_len.2 ?_
          have := nv_lt b
          rw [Nat.pow_succ, B_eq]; rw [B_eq] at this; omega
        have sp1 := ref02_Bit_sp a k (by omega)
        rw [hbt] at sp1
        refine wp_dec (by omega) (wp_call sp1 ?_)
        simp only [getD_c0, toInt_int]
        refine wp_call (ref02_twice_sp (lb s.2) bt hbit (by omega)) ?_
        simp only [getD_c0, nv_lb]
        refine wp_call (ref02_Sub_sp (lb (2 * s.2 + bt)) b (by omega) (by omega)) ?_
        simp only [getD_c0, getD_c1, toBool_bool, nv_lb]
        refine wp_decs (fun h3 => ?_) (fun h3 => ?_)
        · refine wp_call (ref02_twice_sp (lb s.1) 1 (by omega) (by omega)) ?_
          simp only [getD_c0, nv_lb]
          rw [wrap64 (by omega) (by omega)]
          refine ih (2 * s.1 + 1, 2 * s.2 + bt - nv b) ⟨by omega, ?_, by simp only; omega⟩
          simp only
          rw [hdec, h1, Nat.mul_add, Nat.mul_add, Nat.mul_left_comm]; omega
        · refine wp_call (ref02_twice_sp (lb s.1) 0 (by omega) (by omega)) ?_
          simp only [getD_c0, nv_lb]
          rw [wrap64 (by omega) (by omega)]
          refine ih (2 * s.1 + 0, 2 * s.2 + bt) ⟨by omega, ?_, by simp only; omega⟩
          simp only
          rw [hdec, h1, Nat.mul_add, Nat.add_zero, Nat.mul_left_comm]; omega)
      (32 * a.length + 1) (32 * a.length) (0, 0) (by omega) ⟨by omega, by
        rw [← B_two, Nat.div_eq_of_lt (nv_lt a)]; rfl, Nat.pos_of_ne_zero h0⟩
    rw [wrap64 (x := 32 * (a.length : Int)) (by omega) (by omega), wrap64 (by omega) (by omega)]
    simp only [lb_zero] at key
    exact key
theorem ref02_Gcd_sp (a b : List Limb) (ha : a.length ≤ 1000) (hb : b.length ≤ 1000) : Sp 154 [dL a, dL b] [dL (lb (Nat.gcd (nv a) (nv b)))] := by
  obtain ⟨K, hK⟩ : ∃ K, K = 1000 := ⟨_, rfl⟩
  obtain ⟨J, hJ⟩ : ∃ J, J = 32000 := ⟨_, rfl⟩
  refine sound_ 100001 (ref02_Gcd_tree _ _ _) (wp_call (ref02_Norm_sp a (by omega)) (wp_call (ref02_Norm_sp b (by omega)) ?_))
  simp only [getD_c0]
  have key : ∀ (j k m x y : Nat), (lb x).length ≤ K → (lb y).length ≤ K → y < 2 ^ j → k + 2 * j + 2 ≤ 99000 → 2 * j + 1 < m → Tw (ref02_Gcd_l3 100001 m (dL (lb x)) (dL (lb y)) (k : Int)) [dL (lb (Nat.gcd x y))] := by
    intro j
    induction j with
    | zero =>
      intro k m x y _ _ hy hk hm
      obtain ⟨m, rfl⟩ : ∃ m', m = m' + 1 := ⟨m - 1, by omega⟩
      have : y = 0 := by simpa using hy
      subst this
      simp only [ref02_Gcd_l3_succ, els_dL, List.length_map, lb_zero, List.length_nil]
      refine wp_dec (by omega) (wp_ndec (by omega) (wp_ret ?_))
      rw [Nat.gcd_zero_right]
    | succ j ih =>
      intro k m x y hx hy hlt hk hm
      have stop : ∀ (k m x : Nat), k < 100000 → 0 < m → Tw (ref02_Gcd_l3 100001 m (dL (lb x)) (dL (lb 0)) (k : Int)) [dL (lb (Nat.gcd x 0))] := by
        intro k m x hk hm
        obtain ⟨m, rfl⟩ : ∃ m', m = m' + 1 := ⟨m - 1, by omega⟩
        simp only [ref02_Gcd_l3_succ, els_dL, List.length_map, lb_zero, List.length_nil]
        refine wp_dec (by omega) (wp_ndec (by omega) (wp_ret ?_))
        rw [Nat.gcd_zero_right]
      have step : ∀ (k m x y : Nat), k < 100000 → (lb x).length ≤ K → (lb y).length ≤ K → y ≠ 0 → Tw (ref02_Gcd_l3 100001 m (dL (lb y)) (dL (lb (x % y))) ((k + 1 : Nat) : Int)) [dL (lb (Nat.gcd y (x % y)))] → Tw (ref02_Gcd_l3 100001 (m + 1) (dL (lb x)) (dL (lb y)) (k : Int)) [dL (lb (Nat.gcd x y))] := by
        intro k m x y hk hx hy h0 hw
        simp only [Tw, ref02_Gcd_l3_succ, els_dL, List.length_map]
        have hne : (lb y).length ≠ 0 := fun hh => h0 (lb_len0.1 hh)
        have sp := ref02_DivMod_sp (lb x) (lb y) (by omega) (by omega)
        rw [nv_lb, nv_lb, if_neg h0] at sp
        refine wp_dec (by omega) (wp_dec (by omega) (wp_call sp ?_))
        simp only [getD_c1]
        rw [wrap_succ (by omega), Nat.gcd_comm x y, Nat.gcd_rec, Nat.gcd_comm]
        exact hw
      by_cases h0 : y = 0
      · subst h0; exact stop k m x (by omega) (by omega)
      · obtain ⟨m, rfl⟩ : ∃ m', m = m' + 2 := ⟨m - 2, by omega⟩
        have hl1 : (lb (x % y)).length ≤ K := lb_len.2 (Nat.lt_of_le_of_lt (Nat.le_of_lt (Nat.mod_lt x (Nat.pos_of_ne_zero h0))) (lb_len.1 hy))
        refine step k (m + 1) x y (by omega) hx hy h0 ?_
        by_cases h1 : x % y = 0
        · rw [h1]; exact stop (k + 1) (m + 1) y (by omega) (by omega)
        · refine step (k + 1) m y (x % y) (by omega) hy hl1 h1 ?_
          have hh := mod_half h0 h1
          refine ih (k + 1 + 1) m (x % y) (y % (x % y)) hl1 (lb_len.2 (Nat.lt_trans (Nat.mod_lt y (Nat.pos_of_ne_zero h1)) (lb_len.1 hl1))) ?_ (by omega) (by omega)
          rw [Nat.pow_succ] at hlt; omega
  have h1 : (lb (nv a)).length ≤ K := Nat.le_trans (lb_len.2 (nv_lt a)) (by omega)
  have h2 : (lb (nv b)).length ≤ K := Nat.le_trans (lb_len.2 (nv_lt b)) (by omega)
  have hlt : nv b < 2 ^ J := by
    refine Nat.lt_of_lt_of_le (nv_lt b) ?_
    rw [B_two]
    exact Nat.pow_le_pow_right (by decide) (by omega)
  exact key J 0 100001 _ _ h1 h2 hlt (by omega) (by omega)
/-- Are two lists the same? -/
theorem eq_loop {α : Type} [DecidableEq α] {P : Program} {md : Nat → FMode} (f : α → D) (hf : ∀ x y, (f x).toInt = (f y).toInt → x = y) (a b : List α) (hlen : a.length = b.length) (hbig : a.length ≤ 9223372036854775807) (L : Nat → Int → Tree)
    (hL : ∀ m i, L (m + 1) i = .br (decide (i < ((a.map f).length : Int))) (.br (decide (0 ≤ i)) (.br (decide (i < ((a.map f).length : Int))) (.br (decide (0 ≤ i)) (.br (decide (i < ((b.map f).length : Int)))
      (.br ((((a.map f).getD (Int.toNat i) D.nil).toInt) != (((b.map f).getD (Int.toNat i) D.nil).toInt)) (.ret [D.bool false]) (L m (IntKind.wrap .i64 (i + 1)))) .fail) .fail) .fail) .fail) (.ret [D.bool true])) :
    (L (a.length + 1) 0).wp P md (fun zs => zs = [.bool (decide (a = b))]) := by
  have key := loop_up (P := P) (md := md) a.length (fun m k (_ : Unit) => L m (k : Int)) (fun _ _ => [.bool (decide (a = b))]) (fun k _ => a.take k = b.take k)
    (fun m s h => by
      simp only [hL, List.length_map]
      refine wp_ndec (by omega) (wp_ret ?_)
      rw [List.take_of_length_le (Nat.le_refl _), List.take_of_length_le (by omega)] at h
      rw [decide_eq_true h])
    (fun m k s hk h ih => by
      have ha : a[k]? = some a[k] := List.getElem?_eq_getElem _
      have hb : b[k]? = some (b[k]'(by omega)) := List.getElem?_eq_getElem _
      simp only [hL, List.length_map, Int.toNat_natCast, getD_map ha, getD_map hb, int_bne]
      refine wp_dec (by omega) (wp_dec (by omega) (wp_dec (by omega) (wp_dec (by omega) (wp_dec (by omega) (wp_decs (fun hne => wp_ret ?_) (fun heq => ?_))))))
      · rw [decide_eq_false]
        rintro rfl
        exact hne rfl
      · rw [wrap_succ (by omega)]
        refine ih () ?_
        have : a[k] = b[k] := hf _ _ (Classical.not_not.1 heq)
        rw [List.take_succ_eq_append_getElem hk, List.take_succ_eq_append_getElem (by omega), h, this])
    (a.length + 1) 0 () (by omega) (by omega) (by simp)
  exact key
theorem dB_inj {k : Nat} (x y : BitVec k) (h : (dB x).toInt = (dB y).toInt) : x = y := BitVec.eq_of_toNat_eq (Int.ofNat.inj h)
theorem dint_inj (x y : Int) (h : (D.int x).toInt = (D.int y).toInt) : x = y := h
theorem ref02_Same_sp (a b : List Limb) (ha : a.length ≤ 9223372036854775807) : Sp 132 [dL a, dL b] [.bool (decide (a = b))] := by
  refine sound_ (a.length + 1) (ref02_Same_tree _ _ _) ?_
  simp only [els_dL, List.length_map, int_bne]
  refine wp_decs (fun h => wp_ret ?_) (fun h => ?_)
  · rw [decide_eq_false]; rintro rfl; exact h rfl
  · exact eq_loop dB dB_inj a b (by omega) ha (fun m i => ref02_Same_l4 (a.length + 1) m (dL a) (dL b) i) (fun m i => ref02_Same_l4_succ _ _ _ _ _)
end Go.Proofs.YtbgcadcpeabpgaaGreat

set_option maxRecDepth 100000
namespace Go.Proofs.YtbgcadcpeabpgaaGreat

structure Wh where
  neg : Bool
  mag : List Limb
def dW (w : Wh) : D := .agg [.bool w.neg, dL w.mag]
def zv (w : Wh) : Int := if w.neg then -(nv w.mag : Int) else (nv w.mag : Int)
def wz (z : Int) : Wh := ⟨decide (z < 0), lb z.natAbs⟩
@[simp] theorem dW_0 (w : Wh) : (dW w).fld 0 = .bool w.neg := rfl
@[simp] theorem dW_1 (w : Wh) : (dW w).fld 1 = dL w.mag := rfl
theorem dW_zero : D.agg [.bool false, .sl []] = dW (wz 0) := by simp [dW, wz, lb_zero, dL]
theorem zv_abs (w : Wh) : (zv w).natAbs = nv w.mag := by unfold zv; split <;> omega
theorem wz_len (w : Wh) : (lb (zv w).natAbs).length ≤ w.mag.length := by rw [zv_abs]; exact lb_len.2 (nv_lt _)
theorem zv_wz (z : Int) : zv (wz z) = z := by
  unfold zv wz
  simp only [nv_lb, decide_eq_true_eq]
  split <;> omega
theorem zv_lb (b : Bool) (n : Nat) : zv ⟨b, lb n⟩ = if b then -(n : Int) else (n : Int) := by simp only [zv, nv_lb]
theorem wz_zero : wz 0 = ⟨false, []⟩ := by simp [wz, lb_zero]
theorem wz_of (b : Bool) {n : Nat} (h : n ≠ 0) : wz (if b then -(n : Int) else (n : Int)) = ⟨b, lb n⟩ := by
  cases b <;> simp [wz] <;> omega
theorem wz_zv (w : Wh) : wz (zv w) = if nv w.mag = 0 then ⟨false, []⟩ else ⟨w.neg, lb (nv w.mag)⟩ := by
  split
  · rename_i h
    unfold zv; rw [h]; simp [wz_zero]
  · rename_i h
    unfold zv
    exact wz_of _ h
theorem bool_beq (a b : Bool) : (a == b) = decide (a = b) := by cases a <;> cases b <;> rfl
def inR (z : Int) : Prop := -9223372036854775808 ≤ z ∧ z ≤ 9223372036854775807
instance (z : Int) : Decidable (inR z) := by unfold inR; infer_instance
/-- A number as an int. -/
def smallZ (z : Int) : List D := if inR z then [.int z, .bool true] else [.int 0, .bool false]
def sgnZ (z : Int) : Int := if z < 0 then -1 else if z = 0 then 0 else 1
def cmpZ (x y : Int) : Int := if x < y then -1 else if x = y then 0 else 1
theorem ref03_Norm_sp (w : Wh) (h : w.mag.length ≤ 1000000) : Sp 145 [dW w] [dW (wz (zv w))] := by
  refine sound_ 0 (ref03_Norm_tree _ _) (wp_call (ref02_Norm_sp w.mag h) ?_)
  simp only [getD_c0, els_dL, List.length_map, int_beq, dW_0, toBool_bool]
  refine wp_decs (fun h => wp_ret ?_) (fun h => wp_ret ?_)
  · have h0 : nv w.mag = 0 := lb_len0.1 (by omega)
    rw [wz_zv, if_pos h0]; rfl
  · have h0 : nv w.mag ≠ 0 := fun hh => h (by rw [hh, lb_zero]; rfl)
    rw [wz_zv, if_neg h0]; rfl
theorem two_limbs {n : Nat} (h : n < 18446744073709551616) : nv [BitVec.ofNat 32 (n % 4294967296), BitVec.ofNat 32 (n / 4294967296)] = n := by
  simp only [nv, nv_nil]
  rw [ofNat_lt (by rw [B_eq]; omega), ofNat_lt (by rw [B_eq]; omega), B_eq]; omega
theorem ref03_Of_sp (z : Int) (h : inR z) : Sp 147 [.int z] [dW (wz z)] := by
  unfold inR at h
  refine sound_ 0 (ref03_Of_tree _ _) ?_
  simp only [toInt_int]
  refine wp_decs (fun h0 => ?_) (fun h0 => ?_)
  · obtain ⟨n, rfl⟩ : ∃ n : Nat, z = n := ⟨z.toNat, by omega⟩
    have e : [D.int (IntKind.wrap .u32 (Int.tmod (n : Int) 4294967296)), D.int (IntKind.wrap .u32 (IntKind.wrap .i64 (Int.tdiv (n : Int) 4294967296)))] = [BitVec.ofNat 32 (n % 4294967296), BitVec.ofNat 32 (n / 4294967296)].map dB := by
      rw [Int.tmod_eq_emod_of_nonneg (by omega), Int.tdiv_eq_ediv_of_nonneg (by omega), show (n : Int) % 4294967296 = ((n % 4294967296 : Nat) : Int) by omega, show (n : Int) / 4294967296 = ((n / 4294967296 : Nat) : Int) by omega,
        wrap64 (by omega) (by omega), wrapU32 (by omega) (by omega), wrapU32 (by omega) (by omega), dB_ofNat (by rw [B_eq]; omega), dB_ofNat (by rw [B_eq]; omega)]; rfl
    rw [e]
    have hv := two_limbs (n := n) (by omega)
    refine wp_tt (by decide) (wp_tt (by decide) (wp_call (ref03_Norm_sp ⟨false, [BitVec.ofNat 32 (n % 4294967296), BitVec.ofNat 32 (n / 4294967296)]⟩ (by simp)) (wp_ret ?_)))
    simp only [getD_c0, zv, hv]; rfl
  · obtain ⟨n, rfl⟩ : ∃ n : Nat, z = -1 - (n : Int) := ⟨(-1 - z).toNat, by omega⟩
    have e : [D.int (IntKind.wrap .u32 (Int.tmod (IntKind.wrap .i64 (-1 - (-1 - (n : Int)))) 4294967296)), D.int (IntKind.wrap .u32 (IntKind.wrap .i64 (Int.tdiv (IntKind.wrap .i64 (-1 - (-1 - (n : Int)))) 4294967296)))] = [BitVec.ofNat 32 (n % 4294967296), BitVec.ofNat 32 (n / 4294967296)].map dB := by
      rw [show (-1 : Int) - (-1 - (n : Int)) = (n : Int) by omega, wrap64 (x := (n : Int)) (by omega) (by omega), Int.tmod_eq_emod_of_nonneg (by omega), Int.tdiv_eq_ediv_of_nonneg (by omega), show (n : Int) % 4294967296 = ((n % 4294967296 : Nat) : Int) by omega, show (n : Int) / 4294967296 = ((n / 4294967296 : Nat) : Int) by omega,
        wrap64 (by omega) (by omega), wrapU32 (by omega) (by omega), wrapU32 (by omega) (by omega), dB_ofNat (by rw [B_eq]; omega), dB_ofNat (by rw [B_eq]; omega)]; rfl
    rw [e]
    have hv := two_limbs (n := n) (by omega)
    have sp := ref02_Add_sp [BitVec.ofNat 32 (n % 4294967296), BitVec.ofNat 32 (n / 4294967296)] [1] (by simp) (by simp)
    rw [hv, show nv [1] = 1 from rfl] at sp
    refine wp_tt (by decide) (wp_tt (by decide) (wp_call sp ?_))
    simp only [getD_c0]
    have hl : (lb (n + 1)).length ≤ 3 := lb_len.2 (by show n + 1 < 79228162514264337593543950336; omega)
    refine wp_call (ref03_Norm_sp ⟨true, lb (n + 1)⟩ (by simp only; omega)) (wp_ret ?_)
    simp only [getD_c0, zv_lb, if_true]
    rw [show -((n + 1 : Nat) : Int) = -1 - (n : Int) by omega]
theorem ref03_Neg_sp (w : Wh) (h : w.mag.length ≤ 1000000) : Sp 149 [dW w] [dW (wz (-zv w))] := by
  refine sound_ 0 (ref03_Neg_tree _ _) ?_
  simp only [dW_0, dW_1, toBool_bool]
  refine wp_call (ref03_Norm_sp ⟨!w.neg, w.mag⟩ h) (wp_ret ?_)
  simp only [getD_c0]
  rw [show zv ⟨!w.neg, w.mag⟩ = -zv w by unfold zv; cases w.neg <;> simp]
theorem ref03_Add_sp (a b : Wh) (ha : a.mag.length ≤ 10000) (hb : b.mag.length ≤ 10000) : Sp 148 [dW a, dW b] [dW (wz (zv a + zv b))] := by
  refine sound_ 0 (ref03_Add_tree _ _ _) (wp_call (ref03_Norm_sp a (by omega)) (wp_call (ref03_Norm_sp b (by omega)) ?_))
  have la := wz_len a
  have lb' := wz_len b
  generalize zv a = x at *
  generalize zv b = y at *
  simp only [getD_c0, dW_0, dW_1, toBool_bool, bool_beq, wz]
  have hadd : (lb (x.natAbs + y.natAbs)).length ≤ 10001 := by
    refine lb_len.2 ?_
    have h1 := lb_len.1 (Nat.le_trans la ha)
    have h2 := lb_len.1 (Nat.le_trans lb' hb)
    obtain ⟨K, hK⟩ : ∃ K, K = 10000 := ⟨_, rfl⟩
    rw [← hK] at h1 h2
    rw [show 10001 = K + 1 by omega, Nat.pow_succ, B_eq]
    rw [B_eq] at h1 h2
    omega
  have hsub : ∀ p q : Nat, (lb p).length ≤ 10000 → (lb (p - q)).length ≤ 10000 := fun p q hp => by
    obtain ⟨K, hK⟩ : ∃ K, K = 10000 := ⟨_, rfl⟩
    rw [← hK] at hp ⊢
    exact lb_len.2 (Nat.lt_of_le_of_lt (Nat.sub_le _ _) (lb_len.1 hp))
  refine wp_decs (fun h => ?_) (fun h => ?_)
  · have sp := ref02_Add_sp (lb x.natAbs) (lb y.natAbs) (by omega) (by omega)
    rw [nv_lb, nv_lb] at sp
    refine wp_call sp ?_
    simp only [getD_c0]
    refine wp_call (ref03_Norm_sp ⟨decide (x < 0), lb (x.natAbs + y.natAbs)⟩ (by simp only; omega)) (wp_ret ?_)
    simp only [getD_c0, zv_lb]
    have h' : x < 0 ↔ y < 0 := by simpa using h
    congr 2
    rw [show (if decide (x < 0) = true then -((x.natAbs + y.natAbs : Nat) : Int) else ((x.natAbs + y.natAbs : Nat) : Int)) = x + y by
      by_cases hx : x < 0 <;> simp [hx] <;> omega]
    rfl
  · have h' : ¬ (x < 0 ↔ y < 0) := by simpa using h
    have sp := ref02_Cmp_sp (lb x.natAbs) (lb y.natAbs) (by omega) (by omega)
    rw [nv_lb, nv_lb] at sp
    refine wp_call sp ?_
    simp only [getD_c0, toInt_int, cmpN]
    refine wp_decs (fun h2 => ?_) (fun h2 => ?_)
    · have sp := ref02_Sub_sp (lb x.natAbs) (lb y.natAbs) (by omega) (by omega)
      rw [nv_lb, nv_lb] at sp
      refine wp_call sp ?_
      simp only [getD_c0]
      refine wp_call (ref03_Norm_sp ⟨decide (x < 0), lb (x.natAbs - y.natAbs)⟩ (by simp only; have := hsub x.natAbs y.natAbs (by omega); omega)) (wp_ret ?_)
      simp only [getD_c0, zv_lb]
      have hge : y.natAbs ≤ x.natAbs := by split at h2 <;> omega
      rw [show (if decide (x < 0) = true then -((x.natAbs - y.natAbs : Nat) : Int) else ((x.natAbs - y.natAbs : Nat) : Int)) = x + y by
        by_cases hx : x < 0 <;> simp [hx] <;> omega]
      rfl
    · have sp := ref02_Sub_sp (lb y.natAbs) (lb x.natAbs) (by omega) (by omega)
      rw [nv_lb, nv_lb] at sp
      refine wp_call sp ?_
      simp only [getD_c0]
      refine wp_call (ref03_Norm_sp ⟨decide (y < 0), lb (y.natAbs - x.natAbs)⟩ (by simp only; have := hsub y.natAbs x.natAbs (by omega); omega)) (wp_ret ?_)
      simp only [getD_c0, zv_lb]
      have hge : x.natAbs < y.natAbs := by
        rcases Nat.lt_or_ge x.natAbs y.natAbs with h3 | h3
        · exact h3
        · rw [if_neg (by omega)] at h2; split at h2 <;> omega
      rw [show (if decide (y < 0) = true then -((y.natAbs - x.natAbs : Nat) : Int) else ((y.natAbs - x.natAbs : Nat) : Int)) = x + y by
        by_cases hx : y < 0 <;> simp [hx] <;> omega]
      rfl
theorem ref03_Sub_sp (a b : Wh) (ha : a.mag.length ≤ 10000) (hb : b.mag.length ≤ 10000) : Sp 118 [dW a, dW b] [dW (wz (zv a - zv b))] := by
  refine sound_ 0 (ref03_Sub_tree _ _ _) (wp_call (ref03_Neg_sp b (by omega)) ?_)
  simp only [getD_c0]
  have := wz_len b
  refine wp_call (ref03_Add_sp a (wz (-zv b)) ha (by simp only [wz, Int.natAbs_neg]; omega)) (wp_ret ?_)
  simp only [getD_c0, zv_wz, ← Int.sub_eq_add_neg]
theorem ref03_Sign_sp (a : Wh) (ha : a.mag.length ≤ 1000000) : Sp 117 [dW a] [.int (sgnZ (zv a))] := by
  refine sound_ 0 (ref03_Sign_tree _ _) (wp_call (ref03_Norm_sp a ha) ?_)
  generalize zv a = x
  simp only [getD_c0, dW_0, dW_1, els_dL, List.length_map, int_beq, toBool_bool, wz]
  have h0 : ((lb x.natAbs).length : Int) = 0 ↔ x = 0 := by rw [Int.natCast_eq_zero, lb_len0]; omega
  unfold sgnZ
  refine wp_decs (fun h => wp_ret ?_) (fun h => wp_decs (fun h2 => wp_ret ?_) (fun h2 => wp_ret ?_))
  · rw [if_neg (by have := h0.1 h; omega), if_pos (h0.1 h)]
  · rw [if_pos h2]
  · rw [if_neg h2, if_neg (fun hh => h (h0.2 hh))]
theorem sub_len {a b : Wh} {k : Nat} (ha : a.mag.length ≤ k) (hb : b.mag.length ≤ k) : (wz (zv a - zv b)).mag.length ≤ k + 1 := by
  simp only [wz]
  refine lb_len.2 ?_
  have h1 := lb_len.1 (Nat.le_trans (wz_len a) ha)
  have h2 := lb_len.1 (Nat.le_trans (wz_len b) hb)
  rw [Nat.pow_succ, B_eq]
  rw [B_eq] at h1 h2
  omega
theorem ref03_Cmp_sp (a b : Wh) (ha : a.mag.length ≤ 10000) (hb : b.mag.length ≤ 10000) : Sp 146 [dW a, dW b] [.int (cmpZ (zv a) (zv b))] := by
  refine sound_ 0 (ref03_Cmp_tree _ _ _) (wp_call (ref03_Sub_sp a b ha hb) ?_)
  simp only [getD_c0]
  have := sub_len ha hb
  refine wp_call (ref03_Sign_sp _ (by omega)) (wp_ret ?_)
  simp only [getD_c0, toInt_int, zv_wz]
  congr 2
  unfold sgnZ cmpZ
  split <;> split <;> first | rfl | omega | (split <;> split <;> first | rfl | omega) | (split <;> first | rfl | omega)
theorem ref03_Small_sp (a : Wh) (ha : a.mag.length ≤ 10000) : Sp 115 [dW a] (smallZ (zv a)) := by
  refine sound_ 10 (ref03_Small_tree _ _) (wp_call (ref03_Norm_sp a (by omega)) ?_)
  generalize zv a = z
  simp only [getD_c0, dW_0, dW_1, els_dL, List.length_map]
  refine wp_decs (fun h => wp_ret ?_) (fun h => ?_)
  · have : ¬ (lb z.natAbs).length ≤ 2 := by simp only [wz] at h; omega
    rw [lb_len] at this
    have : ¬ inR z := by
      intro hr
      apply this
      unfold inR at hr
      show z.natAbs < 18446744073709551616
      omega
    rw [smallZ, if_neg this]
  · have hl : (wz z).mag.length ≤ 2 := by omega
    have hof : ∀ y, inR y → (wz y).mag.length ≤ 2 := fun y hy => lb_len.2 (by unfold inR at hy; show y.natAbs < 18446744073709551616; omega)
    have r1 : inR 9223372036854775807 := by decide
    have r2 : inR (-9223372036854775808) := by decide
    refine wp_call (ref03_Of_sp _ r1) (wp_call (ref03_Cmp_sp (wz z) (wz 9223372036854775807) (by omega) (by have := hof _ r1; omega)) ?_)
    simp only [getD_c0, toInt_int, zv_wz, cmpZ]
    refine wp_decs (fun h2 => wp_ret ?_) (fun h2 => ?_)
    · rw [smallZ, if_neg]
      unfold inR
      split at h2
      · omega
      · split at h2 <;> omega
    · refine wp_call (ref03_Of_sp _ r2) (wp_call (ref03_Cmp_sp (wz z) (wz (-9223372036854775808)) (by omega) (by have := hof _ r2; omega)) ?_)
      simp only [getD_c0, toInt_int, zv_wz, cmpZ]
      refine wp_decs (fun h3 => wp_ret ?_) (fun h3 => ?_)
      · rw [smallZ, if_neg]
        unfold inR
        split at h3
        · omega
        · split at h3 <;> omega
      · have hz : inR z := by
          unfold inR
          constructor
          · split at h3 <;> omega
          · split at h2
            · omega
            · split at h2 <;> omega
        rw [smallZ, if_pos hz]
        have key := loop_down (P := Tryz.prog) (md := md) (fun m k (x : Int) => ref03_Small_l6 10 m x ((k : Int) - 1) (dW (wz z))) (fun _ _ => [.int z, .bool true])
          (fun k x => k ≤ (wz z).mag.length ∧ x = if z < 0 then -((z.natAbs / B ^ k : Nat) : Int) else ((z.natAbs / B ^ k : Nat) : Int))
          (fun m x ⟨_, hx⟩ => by
            simp only [ref03_Small_l6_succ]
            refine wp_ndec (by omega) (wp_ret ?_)
            rw [hx]
            simp only [Nat.pow_zero, Nat.div_one]
            congr 2
            split <;> omega)
          (fun m k x ⟨hk, hx⟩ ih => by
            have hk' : k < (lb z.natAbs).length := hk
            have hg : (lb z.natAbs)[k]? = some (lb z.natAbs)[k] := List.getElem?_eq_getElem _
            simp only [ref03_Small_l6_succ, show ((k + 1 : Nat) : Int) - 1 = (k : Int) by omega, dW_0, dW_1, els_dL, List.length_map, toBool_bool, Int.toNat_natCast]
            have e1 : (wz z).mag = lb z.natAbs := rfl
            have e2 : (wz z).neg = decide (z < 0) := rfl
            rw [e1, e2, getD_map hg, toInt_dB, nv_limb, nv_lb]
            have hd := Nat.mod_add_div (z.natAbs / B ^ k) B
            rw [Nat.div_div_eq_div_mul, ← Nat.pow_succ] at hd
            have hle : z.natAbs / B ^ k ≤ z.natAbs := Nat.div_le_self _ _
            have hm := Nat.mod_lt (z.natAbs / B ^ k) B_pos
            unfold inR at hz
            have ih' := ih (if z < 0 then -((z.natAbs / B ^ k : Nat) : Int) else ((z.natAbs / B ^ k : Nat) : Int)) ⟨by omega, rfl⟩
            generalize z.natAbs / B ^ k = p at *
            generalize z.natAbs / B ^ (k + 1) = q at *
            generalize p % B = r at *
            rw [B_eq] at hd hm
            refine wp_dec (by omega) (wp_decs (fun hn => ?_) (fun hn => ?_))
            · rw [if_pos hn] at hx ih'
              refine wp_dec (by omega) (wp_dec (by omega) ?_)
              rw [hx, wrap64 (x := -(q : Int) * 4294967296) (by omega) (by omega), wrap64 (x := (r : Int)) (by omega) (by omega), wrap64 (x := -(q : Int) * 4294967296 - r) (by omega) (by omega), wrap64 (by omega) (by omega), show -(q : Int) * 4294967296 - (r : Int) = -(p : Int) by omega]
              exact ih'
            · rw [if_neg hn] at hx ih'
              refine wp_dec (by omega) (wp_dec (by omega) ?_)
              rw [hx, wrap64 (x := (q : Int) * 4294967296) (by omega) (by omega), wrap64 (x := (r : Int)) (by omega) (by omega), wrap64 (x := (q : Int) * 4294967296 + r) (by omega) (by omega), wrap64 (by omega) (by omega), show (q : Int) * 4294967296 + (r : Int) = (p : Int) by omega]
              exact ih')
          10 (wz z).mag.length 0 (by omega) ⟨Nat.le_refl _, by
            have : z.natAbs / B ^ (wz z).mag.length = 0 := Nat.div_eq_of_lt (lb_len.1 (Nat.le_refl _))
            rw [this]; simp⟩
        rw [wrap64 (by omega) (by omega)]
        exact key
theorem nat_trim_sp (l : List Limb) (hl : l.length < 9223372036854775807) : Sp 167 [dL l] [dL (lb (nv l))] := by
  refine sound_ (l.length + 1) (nat_trim_tree _ _) ?_
  have := loop_down (P := Tryz.prog) (md := md) (fun m k (_ : Unit) => nat_trim_l2 (l.length + 1) m (dL l) (k : Int)) (fun _ _ => [dL (lb (nv l))]) (fun k _ => k ≤ l.length ∧ ∀ i, k ≤ i → (hi : i < l.length) → l[i] = 0)
    (fun m s ⟨h1, h2⟩ => by
      simp only [nat_trim_l2_succ, els_dL, List.length_map, List.length_take]
      refine wp_ndec (by omega) (wp_dec (by omega) (wp_dec (by omega) (wp_dec (by omega) (wp_ret ?_))))
      rw [lb_take (k := 0) (by omega) h2 (fun _ h => by omega), dL_take]; rfl)
    (fun m k s ⟨h1, h2⟩ ih => by
      have hk : l[k]? = some l[k] := List.getElem?_eq_getElem _
      simp only [nat_trim_l2_succ, els_dL, List.length_map, List.length_take, wrap_pred k (by omega), Int.toNat_natCast, getD_map hk, toInt_dB, int_beq]
      refine wp_dec (by omega) (wp_dec (by omega) (wp_dec (by omega) (wp_decs (fun h => ?_) (fun h => ?_))))
      · refine ih () ⟨by omega, fun i hi hlt => ?_⟩
        by_cases he : i = k
        · subst he; exact BitVec.eq_of_toNat_eq (by simp; omega)
        · exact h2 i (by omega) hlt
      · refine wp_dec (by omega) (wp_dec (by omega) (wp_dec (by omega) (wp_ret ?_)))
        rw [lb_take (k := k + 1) (by omega) h2 (fun _ _ hc => h (by have hc' : l[k] = 0 := hc; rw [hc']; rfl)), dL_take])
    (l.length + 1) l.length () (by omega) ⟨Nat.le_refl _, fun i h1 h2 => by omega⟩
  simpa using this
theorem nat_Norm_sp (l : List Limb) (hl : l.length ≤ 1000000) : Sp 157 [dL l] [dL (lb (nv l))] := by
  refine sound_ 0 (nat_Norm_tree _ _) (wp_call (nat_trim_sp l (by omega)) ?_)
  have h1 : (lb (nv l)).length ≤ l.length := lb_len.2 (nv_lt l)
  simp only [getD_c0, els_dL, List.length_map, List.length_replicate, Int.toNat_natCast]
  refine wp_dec (by omega) (wp_dec (by omega) (wp_dec (by unfold bigN; omega) (wp_ret ?_)))
  rw [List.take_of_length_le (by simp), List.drop_eq_nil_of_le (by simp), List.append_nil]; rfl
theorem whole_signed_sp (b : Bool) (n : Nat) : Sp 156 [.bool b, dL (lb n)] [dW (wz (if b then -(n : Int) else (n : Int)))] := by
  refine sound_ 0 (whole_signed_tree _ _ _) ?_
  simp only [els_dL, List.length_map, int_beq, toBool_bool]
  refine wp_decs (fun h => wp_ret ?_) (fun h => wp_ret ?_)
  · have : n = 0 := lb_len0.1 (by omega)
    subst this
    simp [dW_zero]
  · have : n ≠ 0 := fun hh => h (by rw [hh, lb_zero]; rfl)
    rw [wz_of _ this]; rfl
theorem whole_Norm_sp (w : Wh) (h : w.mag.length ≤ 1000000) : Sp 153 [dW w] [dW (wz (zv w))] := by
  refine sound_ 0 (whole_Norm_tree _ _) (wp_call (nat_Norm_sp w.mag h) ?_)
  simp only [getD_c0, dW_0, toBool_bool]
  exact wp_call (whole_signed_sp w.neg (nv w.mag)) (wp_ret rfl)
theorem u64_neg {z : Int} (h : z < 0) (h2 : -9223372036854775808 ≤ z) : IntKind.wrap .u64 (0 - IntKind.wrap .u64 z) = -z := by
  rw [IntKind.wrap_u64, IntKind.wrap_u64]; omega
theorem fdiv32 (x : Nat) : Int.fdiv (x : Int) (2 ^ (min (Int.toNat 32) (IntKind.bits .u64))) = ((x / 4294967296 : Nat) : Int) := by
  show Int.fdiv (x : Int) 4294967296 = _
  rw [Int.fdiv_eq_ediv_of_nonneg _ (by omega)]; omega
theorem whole_Of_sp (z : Int) (h : inR z) : Sp 134 [.int z] [dW (wz z)] := by
  unfold inR at h
  refine sound_ 0 (whole_Of_tree _ _) ?_
  simp only [toInt_int]
  have main : ∀ n : Nat, n < 18446744073709551616 → [D.int (IntKind.wrap .u32 (n : Int)), D.int (IntKind.wrap .u32 (Int.fdiv (n : Int) (2 ^ (min (Int.toNat 32) (IntKind.bits .u64)))))] = [BitVec.ofNat 32 (n % 4294967296), BitVec.ofNat 32 (n / 4294967296)].map dB := by
    intro n hn
    rw [fdiv32, wrapU32 (x := ((n / 4294967296 : Nat) : Int)) (by omega) (by omega), dB_ofNat (t := n / 4294967296) (by rw [B_eq]; omega), show IntKind.wrap .u32 (n : Int) = ((n % 4294967296 : Nat) : Int) by rw [IntKind.wrap_u32]; omega, dB_ofNat (t := n % 4294967296) (by rw [B_eq]; omega)]; rfl
  refine wp_decs (fun h0 => ?_) (fun h0 => ?_)
  · obtain ⟨n, hn⟩ : ∃ n : Nat, -z = n := ⟨(-z).toNat, by omega⟩
    rw [u64_neg h0 h.1, hn, main n (by omega)]
    simp only [h0, decide_true]
    have sp := nat_Norm_sp [BitVec.ofNat 32 (n % 4294967296), BitVec.ofNat 32 (n / 4294967296)] (by simp)
    rw [two_limbs (by omega)] at sp
    refine wp_dec (by omega) (wp_call sp ?_)
    simp only [getD_c0]
    refine wp_call (whole_signed_sp true n) (wp_ret ?_)
    simp only [getD_c0, if_true]
    rw [show -(n : Int) = z by omega]
  · obtain ⟨n, rfl⟩ : ∃ n : Nat, z = n := ⟨z.toNat, by omega⟩
    rw [wrapU64 (by omega) (by omega), main n (by omega)]
    simp only [h0, decide_false]
    have sp := nat_Norm_sp [BitVec.ofNat 32 (n % 4294967296), BitVec.ofNat 32 (n / 4294967296)] (by simp)
    rw [two_limbs (by omega)] at sp
    refine wp_dec (by omega) (wp_call sp ?_)
    simp only [getD_c0]
    exact wp_call (whole_signed_sp false n) (wp_ret rfl)
theorem or_limb {x d : Nat} (hx : x < 4294967296) (hd : d < 4294967296) : bits_ .or .u64 (x : Int) ((d * 4294967296 : Nat) : Int) = ((x + d * 4294967296 : Nat) : Int) := by
  have h := or_bits (BitVec.ofNat 64 x) (BitVec.ofNat 64 (d * 4294967296))
  rw [BitVec.toNat_or, BitVec.toNat_ofNat, BitVec.toNat_ofNat, Nat.mod_eq_of_lt (a := x) (by omega), Nat.mod_eq_of_lt (a := d * 4294967296) (by omega)] at h
  rw [h]
  congr 1
  have := Nat.two_pow_add_eq_or_of_lt (i := 32) (b := x) (by omega) d
  rw [show 2 ^ 32 * d = d * 4294967296 by omega] at this
  rw [Nat.or_comm, ← this]; omega
theorem whole_Small_sp (a : Wh) (ha : a.mag.length ≤ 1000000) : Sp 124 [dW a] (smallZ (zv a)) := by
  refine sound_ 10 (whole_Small_tree _ _) (wp_call (whole_Norm_sp a (by omega)) ?_)
  generalize zv a = z
  simp only [getD_c0, dW_0, dW_1, els_dL, List.length_map]
  refine wp_decs (fun h => wp_ret ?_) (fun h => ?_)
  · have : ¬ (lb z.natAbs).length ≤ 2 := by simp only [wz] at h; omega
    rw [lb_len] at this
    have : ¬ inR z := by
      intro hr
      apply this
      unfold inR at hr
      show z.natAbs < 18446744073709551616
      omega
    rw [smallZ, if_neg this]
  · have hl : (lb z.natAbs).length ≤ 2 := by simp only [wz] at h; omega
    have hlt : z.natAbs < 18446744073709551616 := lb_len.1 hl
    have fin : ∀ (m : Nat) (t : D) (k : Int), Tw (whole_Small_l6 10 (m + 1) (z.natAbs : Int) t k k (dW (wz z))) (smallZ z) := by
      intro m t k
      simp only [Tw, whole_Small_l6_succ, dW_0, toBool_bool, wz]
      refine wp_ndec (by omega) (wp_decs (fun hn => wp_decs (fun h2 => wp_ret ?_) (fun h2 => wp_ret ?_)) (fun hn => wp_decs (fun h2 => wp_ret ?_) (fun h2 => wp_ret ?_)))
      · rw [smallZ, if_neg]; unfold inR; omega
      · rw [smallZ, if_pos (by unfold inR; omega), IntKind.wrap_u64, IntKind.wrap_i64]
        congr 2
        omega
      · rw [smallZ, if_neg]; unfold inR; omega
      · rw [smallZ, if_pos (by unfold inR; omega), wrap64 (by omega) (by omega)]
        congr 2
        omega
    have one : ∀ (m : Nat) (l : List Limb) (t : Int) (k x : Nat) (d : Limb), k ≤ 1 → l[k]? = some d → (k : Int) < t → (k = 0 → x = 0) → x < 4294967296 → Tw (whole_Small_l6 10 m ((x + d.toNat * 4294967296 ^ k : Nat) : Int) (dL l) t ((k + 1 : Nat) : Int) (dW (wz z))) (smallZ z) → Tw (whole_Small_l6 10 (m + 1) (x : Int) (dL l) t (k : Int) (dW (wz z))) (smallZ z) := by
      intro m l t k x d hk hd ht hx hx2 hw
      have hkl : k < l.length := (List.getElem?_eq_some_iff.1 hd).1
      have hdl := limb_lt d
      rw [B_eq] at hdl
      simp only [Tw, whole_Small_l6_succ, els_dL, List.length_map, Int.toNat_natCast, getD_map hd, toInt_dB]
      rw [wrap64 (x := 32 * (k : Int)) (by omega) (by omega), wrapU64 (x := 32 * (k : Int)) (by omega) (by omega), wrapU64 (x := (d.toNat : Int)) (by omega) (by omega), wrap_succ (by omega)]
      refine wp_dec (by omega) (wp_dec (by omega) (wp_dec (by omega) (wp_dec (by omega) ?_)))
      have e : bits_ .or .u64 (x : Int) (IntKind.wrap .u64 ((d.toNat : Int) * 2 ^ (min (Int.toNat (32 * (k : Int))) (IntKind.bits .u64)))) = ((x + d.toNat * 4294967296 ^ k : Nat) : Int) := by
        rcases (by omega : k = 0 ∨ k = 1) with rfl | rfl
        · rw [hx rfl]
          show bits_ .or .u64 ((0 : Nat) : Int) (IntKind.wrap .u64 ((d.toNat : Int) * 1)) = _
          rw [Int.mul_one, wrapU64 (by omega) (by omega)]
          have := or_bits (0 : Lab) (BitVec.ofNat 64 d.toNat)
          rw [BitVec.toNat_or, BitVec.toNat_ofNat, Nat.mod_eq_of_lt (a := d.toNat) (by omega)] at this
          simpa using this
        · show bits_ .or .u64 (x : Int) (IntKind.wrap .u64 ((d.toNat : Int) * 4294967296)) = _
          rw [show (d.toNat : Int) * 4294967296 = ((d.toNat * 4294967296 : Nat) : Int) by omega, wrapU64 (by omega) (by omega), or_limb hx2 hdl]
          try simp
      rw [e]
      exact hw
    have hz0 : z.natAbs = nv (lb z.natAbs) := (nv_lb _).symm
    simp only [show (wz z).mag = lb z.natAbs from rfl]
    generalize hll : lb z.natAbs = ll at *
    match ll, hl with
    | [], _ =>
      have : z.natAbs = 0 := by simpa using hz0
      have hf := fin 9 (dL []) 0
      rw [this] at hf
      exact hf
    | [d], _ =>
      have : z.natAbs = d.toNat := by simpa [nv] using hz0
      refine one 9 [d] 1 0 0 d (by omega) rfl (by omega) (fun _ => rfl) (by omega) ?_
      have hf := fin 8 (dL [d]) 1
      rw [this] at hf
      simpa using hf
    | [d, e], _ =>
      have : z.natAbs = d.toNat + e.toNat * 4294967296 := by simp only [nv, nv_nil] at hz0; rw [B_eq] at hz0; omega
      have hdl := limb_lt d
      rw [B_eq] at hdl
      refine one 9 [d, e] 2 0 0 d (by omega) rfl (by omega) (fun _ => rfl) (by omega) ?_
      have := one 8 [d, e] 2 1 d.toNat e (by omega) rfl (by omega) (fun h => by omega) (by omega) (by
        have hf := fin 7 (dL [d, e]) 2
        rw [this] at hf
        simpa using hf)
      simpa using this
end Go.Proofs.YtbgcadcpeabpgaaGreat

set_option maxRecDepth 100000
namespace Go.Proofs.YtbgcadcpeabpgaaGreat

def numT (n : Num) : Int := zv ⟨n.neg, n.top⟩
def numB (n : Num) : Int := (nv n.bot : Int)
def ofZ (z : Int) : Num := ⟨decide (z < 0), lb z.natAbs, [1]⟩
def optI : Option Int → List D
  | some z => [.int z, .bool true]
  | none => [.int 0, .bool false]
def smO (z : Int) : Option Int := if inR z then some z else none
theorem smallZ_eq (z : Int) : smallZ z = optI (smO z) := by unfold smallZ smO; split <;> rfl
/-- A number as an int. -/
def smallN (n : Num) : Option Int := if n.bot = [1] then smO (numT n) else none
/-- In lowest terms; an error. -/
def mkR (p q : Int) : Num × Int :=
  if q = 0 then (.zero, 3)
  else if 32 < (lb (p.natAbs / Nat.gcd p.natAbs q.natAbs)).length ∨ 32 < (lb (q.natAbs / Nat.gcd p.natAbs q.natAbs)).length then (.zero, 7)
  else (⟨decide (0 < (lb (p.natAbs / Nat.gcd p.natAbs q.natAbs)).length) && !(decide (p < 0) == decide (q < 0)), lb (p.natAbs / Nat.gcd p.natAbs q.natAbs), lb (q.natAbs / Nat.gcd p.natAbs q.natAbs)⟩, 0)
def rightN (n : Num) : Bool := decide (n.top.length ≤ 32 ∧ n.bot.length ≤ 32 ∧ mkR (numT n) (numB n) = (n, 0))
theorem one_iff (l : List Limb) : (l = [1]) ↔ (l.length = 1 ∧ ∀ h : 0 < l.length, l[0].toNat = 1) := by
  constructor
  · rintro rfl; exact ⟨rfl, fun _ => rfl⟩
  · rintro ⟨h1, h2⟩
    match l, h1 with
    | [x], _ => have := h2 (by simp); simp at this; exact congrArg (· :: []) (BitVec.eq_of_toNat_eq (by simpa using this))
theorem one_tree {P : Program} {md : Nat → FMode} (l : List Limb) : (Tree.br (((l.map dB).length : Int) == 1) (.br (decide (0 ≤ (0 : Int))) (.br (decide (0 < ((l.map dB).length : Int))) (.ret [D.bool ((((l.map dB).getD (Int.toNat 0) D.nil).toInt) == 1)]) .fail) .fail) (.ret [D.bool false])).wp P md (fun zs => zs = [.bool (decide (l = [1]))]) := by
  simp only [List.length_map, int_beq]
  refine wp_decs (fun h => wp_dec (by omega) (wp_dec (by omega) (wp_ret ?_))) (fun h => wp_ret ?_)
  · have hg : l[0]? = some (l[0]'(by omega)) := List.getElem?_eq_getElem _
    rw [show Int.toNat 0 = 0 from rfl, getD_map hg, toInt_dB]
    congr 2
    rw [decide_eq_decide, one_iff]
    refine ⟨fun hh => ⟨by omega, fun _ => by omega⟩, fun hh => by have := hh.2 (by omega); omega⟩
  · rw [decide_eq_false]; rintro rfl; exact h rfl
theorem ref04_IsWhole_sp (n : Num) : Sp 114 [dN n] [.bool (decide (n.bot = [1]))] := by
  refine sound_ 0 (ref04_IsWhole_tree _ _) ?_
  simp only [dN_2, els_dL]
  exact one_tree n.bot
theorem ratio_isOne_sp (l : List Limb) : Sp 123 [dL l] [.bool (decide (l = [1]))] := by
  refine sound_ 0 (ratio_isOne_tree _ _) ?_
  simp only [els_dL]
  exact one_tree l
theorem ref04_Top_sp (n : Num) (h : n.top.length ≤ 1000000) : Sp 116 [dN n] [dW (wz (numT n))] := by
  refine sound_ 0 (ref04_Top_tree _ _) ?_
  simp only [dN_0, dN_1, toBool_bool]
  exact wp_call (ref03_Norm_sp ⟨n.neg, n.top⟩ h) (wp_ret rfl)
theorem ref04_Bot_sp (n : Num) (h : n.bot.length ≤ 1000000) : Sp 120 [dN n] [dW (wz (numB n))] := by
  refine sound_ 0 (ref04_Bot_tree _ _) ?_
  simp only [dN_2]
  exact wp_call (ref03_Norm_sp ⟨false, n.bot⟩ h) (wp_ret rfl)
theorem ref04_Whole_sp (w : Wh) (h : w.mag.length ≤ 1000000) : Sp 152 [dW w] [dN (ofZ (zv w))] := by
  refine sound_ 0 (ref04_Whole_tree _ _) (wp_call (ref03_Norm_sp w h) (wp_ret rfl))
theorem ref04_Of_sp (z : Int) (h : inR z) : Sp 122 [.int z] [dN (ofZ z)] := by
  refine sound_ 0 (ref04_Of_tree _ _) (wp_call (ref03_Of_sp z h) ?_)
  have hl : (wz z).mag.length ≤ 2 := lb_len.2 (by unfold inR at h; show z.natAbs < 18446744073709551616; omega)
  refine wp_call (ref04_Whole_sp (wz z) (by omega)) (wp_ret ?_)
  rw [zv_wz]; rfl
theorem ref04_Small_sp (n : Num) (h : n.top.length ≤ 10000) : Sp 72 [dN n] (optI (smallN n)) := by
  refine sound_ 0 (ref04_Small_tree _ _) (wp_call (ref04_IsWhole_sp n) ?_)
  simp only [getD_c0, toBool_bool, not_dec]
  unfold smallN
  refine wp_decs (fun h => wp_ret ?_) (fun h0 => ?_)
  · rw [if_neg h]; rfl
  · rw [if_pos (Classical.not_not.1 h0)]
    refine wp_call (ref04_Top_sp n (by omega)) ?_
    have hl : (wz (numT n)).mag.length ≤ n.top.length := wz_len ⟨n.neg, n.top⟩
    refine wp_call (ref03_Small_sp (wz (numT n)) (by omega)) ?_
    rw [zv_wz, smallZ_eq]
    cases smO (numT n) <;> exact wp_ret rfl
theorem ratio_top_sp (n : Num) : Sp 125 [dN n] [dW ⟨n.neg, n.top⟩] := sound_ 0 (ratio_top_tree _ _) (wp_ret rfl)
theorem ratio_Small_sp (n : Num) (h : n.top.length ≤ 1000000) : Sp 80 [dN n] (optI (smallN n)) := by
  refine sound_ 0 (ratio_Small_tree _ _) (wp_call (ratio_isOne_sp n.bot) ?_)
  simp only [getD_c0, toBool_bool, not_dec]
  unfold smallN
  refine wp_decs (fun h => wp_ret ?_) (fun h0 => ?_)
  · rw [if_neg h]; rfl
  · rw [if_pos (Classical.not_not.1 h0)]
    refine wp_call (ratio_top_sp n) (wp_call (whole_Small_sp ⟨n.neg, n.top⟩ h) ?_)
    rw [smallZ_eq, show zv ⟨n.neg, n.top⟩ = numT n from rfl]
    cases smO (numT n) <;> exact wp_ret rfl
/-- A whole number, if it is not too great. -/
def wholeN (z : Int) : Num := if 32 < (lb z.natAbs).length then .zero else ofZ z
theorem ratio_Whole_sp (w : Wh) (h : w.mag.length ≤ 1000000) : Sp 133 [dW w] [dN (wholeN (zv w))] := by
  refine sound_ 0 (ratio_Whole_tree _ _) (wp_call (whole_Norm_sp w h) ?_)
  simp only [getD_c0, dW_0, dW_1, els_dL, List.length_map, toBool_bool]
  unfold wholeN
  refine wp_decs (fun h => wp_ret ?_) (fun h => wp_ret ?_)
  · rw [if_pos (by simp only [wz] at h; omega)]; rfl
  · rw [if_neg (by simp only [wz] at h; omega)]; rfl
theorem ratio_Of_sp (z : Int) (h : inR z) : Sp 102 [.int z] [dN (ofZ z)] := by
  refine sound_ 0 (ratio_Of_tree _ _) (wp_call (whole_Of_sp z h) ?_)
  have hl : (wz z).mag.length ≤ 2 := lb_len.2 (by unfold inR at h; show z.natAbs < 18446744073709551616; omega)
  refine wp_call (ratio_Whole_sp (wz z) (by omega)) (wp_ret ?_)
  rw [zv_wz, wholeN, if_neg (by simp only [wz] at hl; omega)]; rfl
theorem num_eq (a b : Num) : (a = b) ↔ (a.neg = b.neg ∧ a.top = b.top ∧ a.bot = b.bot) := by
  cases a; cases b; simp
theorem ref04_Same_sp (a b : Num) (h1 : a.top.length ≤ 9223372036854775807) (h2 : a.bot.length ≤ 9223372036854775807) : Sp 101 [dN a, dN b] [.bool (decide (a = b))] := by
  refine sound_ 0 (ref04_Same_tree _ _ _) ?_
  simp only [dN_0, dN_1, dN_2, toBool_bool, bool_beq]
  refine wp_decs (fun e1 => wp_call (ref02_Same_sp a.top b.top h1) ?_) (fun e1 => wp_ret ?_)
  · simp only [getD_c0, toBool_bool]
    refine wp_decs (fun e2 => wp_call (ref02_Same_sp a.bot b.bot h2) (wp_ret ?_)) (fun e2 => wp_ret ?_)
    · simp only [getD_c0, toBool_bool]
      congr 2
      rw [decide_eq_decide, num_eq]; simp [e1, e2]
    · rw [decide_eq_false]; rintro rfl; exact e2 rfl
  · rw [decide_eq_false]; rintro rfl; exact e1 rfl
theorem ref04_Make_sp (p q : Wh) (hp : p.mag.length ≤ 1000) (hq : q.mag.length ≤ 1000) : Sp 130 [dW p, dW q] [dN (mkR (zv p) (zv q)).1, .int (mkR (zv p) (zv q)).2] := by
  refine sound_ 0 (ref04_Make_tree _ _ _) (wp_call (ref03_Norm_sp p (by omega)) (wp_call (ref03_Norm_sp q (by omega)) ?_))
  have lp := wz_len p
  have lq := wz_len q
  generalize zv p = x at *
  generalize zv q = y at *
  simp only [getD_c0, dW_0, dW_1, els_dL, List.length_map, toBool_bool, int_beq, wz]
  refine wp_decs (fun h => wp_ret ?_) (fun h => ?_)
  · have : y = 0 := by have := lb_len0.1 (show (lb y.natAbs).length = 0 by omega); omega
    unfold mkR; rw [if_pos this]; rfl
  · have hy : y ≠ 0 := fun hh => h (by rw [hh]; simp [lb_zero])
    have sp := ref02_Gcd_sp (lb x.natAbs) (lb y.natAbs) (by omega) (by omega)
    rw [nv_lb, nv_lb] at sp
    refine wp_call sp ?_
    simp only [getD_c0]
    have hg : Nat.gcd x.natAbs y.natAbs ≠ 0 := fun hh => hy (by have := (Nat.gcd_eq_zero_iff.1 hh).2; omega)
    have hgl : (lb (Nat.gcd x.natAbs y.natAbs)).length ≤ 1000 := by
      refine Nat.le_trans ?_ (Nat.le_trans lq hq)
      refine lb_len.2 (Nat.lt_of_le_of_lt (Nat.gcd_le_right _ (by omega)) (lb_len.1 (Nat.le_refl _)))
    have sp1 := ref02_DivMod_sp (lb x.natAbs) (lb (Nat.gcd x.natAbs y.natAbs)) (by omega) (by omega)
    have sp2 := ref02_DivMod_sp (lb y.natAbs) (lb (Nat.gcd x.natAbs y.natAbs)) (by omega) (by omega)
    rw [nv_lb, nv_lb] at sp1 sp2
    refine wp_call sp1 (wp_call sp2 ?_)
    simp only [getD_c0, els_dL, List.length_map]
    unfold mkR
    rw [if_neg hy]
    refine wp_decs (fun h1 => wp_ret ?_) (fun h1 => wp_decs (fun h2 => wp_ret ?_) (fun h2 => wp_decs (fun h3 => wp_ret ?_) (fun h3 => wp_ret ?_)))
    · rw [if_pos (by omega)]; rfl
    · rw [if_pos (by omega)]; rfl
    · rw [if_neg (by omega), decide_eq_true (p := 0 < (lb (x.natAbs / Nat.gcd x.natAbs y.natAbs)).length) (by omega), Bool.true_and]; rfl
    · rw [if_neg (by omega), decide_eq_false (p := 0 < (lb (x.natAbs / Nat.gcd x.natAbs y.natAbs)).length) (by omega), Bool.false_and]; rfl
theorem ref04_Right_sp (n : Num) : Sp 91 [dN n] [.bool (rightN n)] := by
  refine sound_ 0 (ref04_Right_tree _ _) ?_
  simp only [dN_1, dN_2, els_dL, List.length_map]
  unfold rightN
  refine wp_decs (fun h => wp_ret ?_) (fun h => wp_decs (fun h' => wp_ret ?_) (fun h' => ?_))
  · rw [decide_eq_false (by omega)]
  · rw [decide_eq_false (by omega)]
  · refine wp_call (ref04_Top_sp n (by omega)) (wp_call (ref04_Bot_sp n (by omega)) ?_)
    have l1 : (wz (numT n)).mag.length ≤ n.top.length := wz_len ⟨n.neg, n.top⟩
    have l2 : (wz (numB n)).mag.length ≤ n.bot.length := wz_len ⟨false, n.bot⟩
    refine wp_call (ref04_Make_sp (wz (numT n)) (wz (numB n)) (by omega) (by omega)) ?_
    simp only [getD_c0, getD_c1, toInt_int, int_beq, zv_wz]
    generalize mkR (numT n) (numB n) = r
    refine wp_decs (fun h3 => wp_call (ref04_Same_sp n r.1 (by omega) (by omega)) (wp_ret ?_)) (fun h3 => wp_ret ?_)
    · simp only [getD_c0, toBool_bool]
      congr 2
      rw [decide_eq_decide]
      refine ⟨fun hh => ⟨by omega, by omega, by rw [hh]; exact Prod.ext rfl h3⟩, fun hh => by rw [hh.2.2]⟩
    · rw [decide_eq_false]
      rintro ⟨_, _, hh⟩
      exact h3 (by rw [hh])
end Go.Proofs.YtbgcadcpeabpgaaGreat

set_option maxRecDepth 100000
namespace Go.Proofs.YtbgcadcpeabpgaaGreat
/-! scrim/scrimref06.May -/
def ref06_May_orc : List (Nat × Orc) := []
theorem ref06_May_tree (n : Nat) (c0 : D) : evFun Tryz.prog md ref06_May_orc n 93 [] [c0] =
 .br (decide (0 ≤ c0.toInt)) (.br (decide (c0.toInt ≤ 1114111)) (.br (decide (c0.toInt < 55296)) (.ret [D.bool true])
 (.ret [D.bool (decide (57343 < c0.toInt))]))
 (.ret [D.bool false]))
 (.ret [D.bool false]) := by kernel_rfl

end Go.Proofs.YtbgcadcpeabpgaaGreat

set_option maxRecDepth 100000
namespace Go.Proofs.YtbgcadcpeabpgaaGreat

theorem bigFuel : ∃ N : Nat, 9223372036854775808 < N := ⟨9223372036854775809, by decide⟩
/-- The product of lengths; 0 if it is too great. -/
def prodS : List Int → Int → Int
  | [], p => p
  | x :: xs, p => if 2048 < p * x then 0 else prodS xs (p * x)
/-- How many cells; an error. -/
def countS (l : List Int) : Int × Int :=
  if 6 < l.length then (0, 7) else if l.any (fun x => decide (x < 0)) then (0, 3) else if l.any (fun x => decide (2048 < x)) then (0, 7)
  else if l.any (fun x => decide (x = 0)) then (0, 0) else if prodS l 1 = 0 then (0, 7) else (prodS l 1, 0)
theorem prod_le {x y : Int} (h1 : 1 ≤ x) (h2 : x ≤ 2048) (h3 : 1 ≤ y) (h4 : y ≤ 2048) : 1 ≤ x * y ∧ x * y ≤ 4194304 := by
  constructor
  · have := Int.mul_le_mul h1 h3 (by omega) (by omega); omega
  · have := Int.mul_le_mul h2 h4 (by omega) (by omega); omega
theorem prodS_pos : ∀ (l : List Int) (p : Int), 1 ≤ p → p ≤ 2048 → (∀ x ∈ l, 1 ≤ x ∧ x ≤ 2048) → 0 ≤ prodS l p ∧ prodS l p ≤ 2048
  | [], p, h1, h2, _ => by simp only [prodS]; omega
  | x :: xs, p, h1, h2, h => by
    simp only [prodS]
    have hx := h x (by simp)
    have := prod_le h1 h2 hx.1 hx.2
    split
    · omega
    · exact prodS_pos xs (p * x) this.1 (by omega) (fun y hy => h y (by simp [hy]))
theorem any_false {l : List Int} {p : Int → Bool} (h : ¬ l.any p = true) : ∀ x ∈ l, p x = false := fun x hx => by
  cases hp : p x with
  | false => rfl
  | true => exact absurd (List.any_eq_true.2 ⟨x, hx, hp⟩) h
theorem count_pos {l : List Int} (h1 : ¬ l.any (fun x => decide (x < 0)) = true) (h2 : ¬ l.any (fun x => decide (2048 < x)) = true) (h3 : ¬ l.any (fun x => decide (x = 0)) = true) : ∀ x ∈ l, 1 ≤ x ∧ x ≤ 2048 := fun x hx => by
  have a := of_decide_eq_false (any_false h1 x hx)
  have b := of_decide_eq_false (any_false h2 x hx)
  have c := of_decide_eq_false (any_false h3 x hx)
  omega
theorem countS_le (l : List Int) : 0 ≤ (countS l).1 ∧ (countS l).1 ≤ 2048 := by
  unfold countS
  split
  · decide
  split
  · decide
  split
  · decide
  split
  · decide
  split
  · decide
  · rename_i h1 h2 h3 h4 _; exact prodS_pos l 1 (by decide) (by decide) (count_pos h2 h3 h4)
theorem countS_len {l : List Int} (h : (countS l).2 = 0) : l.length ≤ 6 ∧ ∀ x ∈ l, 0 ≤ x ∧ x ≤ 2048 := by
  unfold countS at h
  split at h
  · cases h
  split at h
  · cases h
  split at h
  · cases h
  · rename_i h1 h2 h3
    refine ⟨by omega, fun x hx => ?_⟩
    have a := of_decide_eq_false (any_false h2 x hx)
    have b := of_decide_eq_false (any_false h3 x hx)
    omega
/-- The first place of one that is asked for. -/
def idxD (p : Int → Bool) : Nat → List Int → Int
  | _, [] => -1
  | k, x :: xs => if p x then (k : Int) else idxD p (k + 1) xs
def cpD (p : Int) : List D := if p = 0 then [.int 0, .int 7] else [.int p, .int 0]
theorem prodS_cons (x : Int) (xs : List Int) (p : Int) : prodS (x :: xs) p = if 2048 < p * x then 0 else prodS xs (p * x) := rfl
theorem idxD_cons (p : Int → Bool) (k : Nat) (x : Int) (xs : List Int) : idxD p k (x :: xs) = if p x then (k : Int) else idxD p (k + 1) xs := rfl
theorem ref07_Count2 (N : Nat) (l : List Int) (hl : l.length < N) (hb : l.length ≤ 6) (hx : ∀ x ∈ l, 1 ≤ x ∧ x ≤ 2048) : Tw (ref07_Count_l17 N N (dI l) 1 0) (cpD (prodS l 1)) := by
  have key := loop_list (P := Tryz.prog) (md := md) l (fun m k (p : Int) => ref07_Count_l17 N m (dI l) p (k : Int)) (fun rest p => cpD (prodS rest p)) (fun _ p => 1 ≤ p ∧ p ≤ 2048)
    (fun m k p hk hI => by
      simp only [ref07_Count_l17_succ, els_dI, List.length_map]
      refine wp_ndec (by omega) (wp_ret ?_)
      show _ = cpD p
      rw [cpD, if_neg (by omega)])
    (fun m k p x rest hd hI ih => by
      obtain ⟨h1, h2, h3⟩ := drop_cons hd
      have hxx := hx x (List.mem_of_getElem? h2)
      have hp := prod_le hI.1 hI.2 hxx.1 hxx.2
      simp only [ref07_Count_l17_succ, els_dI, List.length_map, Int.toNat_natCast, getD_map h2, toInt_int, wrap_succ (show k < 9223372036854775807 by omega), wrap64 (x := p * x) (by omega) (by omega)]
      repeat (refine wp_dec (by omega) ?_)
      rw [prodS_cons]
      refine wp_decs (fun h => wp_ret ?_) (fun h => ?_)
      · rw [if_pos h]; rfl
      · rw [if_neg h]; exact ih _ ⟨hp.1, by omega⟩)
    N 0 1 (by omega) (by omega) (by decide)
  exact key
theorem ref07_Count_sp (l : List Int) : Sp 49 [dI l] [.int (countS l).1, .int (countS l).2] := by
  refine sound_ (l.length + 1) (ref07_Count_tree _ _) ?_
  simp only [els_dI, List.length_map]
  unfold countS
  refine wp_decs (fun h => wp_ret ?_) (fun h => ?_)
  · rw [if_pos (by omega)]
  · rw [if_neg (by omega)]
    have key := loop_list (P := Tryz.prog) (md := md) l (fun m k (s : Bool × Bool) => ref07_Count_l5 (l.length + 1) m (dI l) s.1 s.2 (k : Int))
      (fun rest s => if rest.any (fun x => decide (x < 0)) then [.int 0, .int 3] else if s.1 || rest.any (fun x => decide (2048 < x)) then [.int 0, .int 7] else if s.2 || rest.any (fun x => decide (x = 0)) then [.int 0, .int 0] else cpD (prodS l 1))
      (fun rest s => (∀ x ∈ l, (0 ≤ x ∧ (s.1 = true ∨ x ≤ 2048) ∧ (s.2 = true ∨ x ≠ 0)) ∨ x ∈ rest))
      (fun m k s hk hI => by
        simp only [ref07_Count_l5_succ, els_dI, List.length_map]
        refine wp_ndec (by omega) (wp_br (fun h1 => wp_ret ?_) (fun h1 => wp_br (fun h2 => wp_ret ?_) (fun h2 => ?_)))
        · simp [h1]
        · simp [h1, h2]
        · simp only [h1, h2, List.any_nil, Bool.or_self, Bool.false_eq_true, if_false]
          refine ref07_Count2 (l.length + 1) l (by omega) (by omega) (fun x hx => ?_)
          rcases hI x hx with ⟨a, b, c⟩ | b
          · rw [h1] at b; rw [h2] at c
            simp at b c
            omega
          · cases b)
      (fun m k s x rest hd hI ih => by
        obtain ⟨h1, h2, h3⟩ := drop_cons hd
        simp only [ref07_Count_l5_succ, els_dI, List.length_map, Int.toNat_natCast, getD_map h2, toInt_int, wrap_succ (show k < 9223372036854775807 by omega), int_beq]
        repeat (refine wp_dec (by omega) ?_)
        refine wp_decs (fun h => wp_ret ?_) (fun h => ?_)
        · simp [h]
        · have hih : ∀ s' : Bool × Bool, s' = (s.1 || decide (2048 < x), s.2 || decide (x = 0)) → Tw (ref07_Count_l5 (l.length + 1) m (dI l) s'.1 s'.2 ((k + 1 : Nat) : Int)) (if (x :: rest).any (fun x => decide (x < 0)) then [.int 0, .int 3] else if s.1 || (x :: rest).any (fun x => decide (2048 < x)) then [.int 0, .int 7] else if s.2 || (x :: rest).any (fun x => decide (x = 0)) then [.int 0, .int 0] else cpD (prodS l 1)) := fun s' hs' => by
            have := ih s' (fun y hy => by
              subst hs'
              rcases hI y hy with ⟨a, b, c⟩ | b
              · refine .inl ⟨a, ?_, ?_⟩
                · rcases b with b | b
                  · left; simp [b]
                  · right; exact b
                · rcases c with b | b
                  · left; simp [b]
                  · right; exact b
              · rcases List.mem_cons.1 b with rfl | b
                · left
                  refine ⟨by omega, ?_, ?_⟩
                  · by_cases hh : 2048 < y
                    · left; simp [hh]
                    · right; omega
                  · by_cases hh : y = 0
                    · left; simp [hh]
                    · right; exact hh
                · exact .inr b)
            subst hs'
            rw [List.any_cons, List.any_cons, List.any_cons, decide_eq_false h, Bool.false_or, ← Bool.or_assoc, ← Bool.or_assoc]
            exact this
          refine wp_br (fun b1 => wp_br (fun b2 => ?_) (fun b2 => ?_)) (fun b1 => ?_)
          · exact hih (true, true) (by simp [b1, b2])
          · repeat (refine wp_dec (by omega) ?_)
            exact hih (true, decide (x = 0)) (by simp [b1, b2])
          · repeat (refine wp_dec (by omega) ?_)
            refine wp_br (fun b2 => ?_) (fun b2 => ?_)
            · exact hih (decide (2048 < x), true) (by simp [b1, b2])
            · repeat (refine wp_dec (by omega) ?_)
              exact hih (decide (2048 < x), decide (x = 0)) (by simp [b1, b2]))
      (l.length + 1) 0 (false, false) (by omega) (by omega) (fun x hx => .inr hx)
    have e : (fun (c : Int × Int) => [D.int c.1, D.int c.2]) (if l.any (fun x => decide (x < 0)) then (0, 3) else if l.any (fun x => decide (2048 < x)) then (0, 7)
      else if l.any (fun x => decide (x = 0)) then (0, 0) else if prodS l 1 = 0 then (0, 7) else (prodS l 1, 0)) = (if l.any (fun x => decide (x < 0)) then [.int 0, .int 3] else if false || l.any (fun x => decide (2048 < x)) then [.int 0, .int 7] else if false || l.any (fun x => decide (x = 0)) then [.int 0, .int 0] else cpD (prodS l 1)) := by
      simp only [Bool.false_or]
      split
      · rfl
      split
      · rfl
      split
      · rfl
      show _ = cpD _
      unfold cpD
      split <;> rfl
    show Tw _ ((fun (c : Int × Int) => [D.int c.1, D.int c.2]) _)
    rw [e]
    exact key
theorem idxD_any (p : Int → Bool) : ∀ (l : List Int) (k : Nat), decide (0 ≤ idxD p k l) = l.any p
  | [], k => by simp [idxD]
  | x :: xs, k => by
    rw [idxD_cons, List.any_cons]
    by_cases hp : p x = true
    · rw [if_pos hp]; simp [hp]
    · rw [if_neg hp, idxD_any p xs (k + 1)]; simp [hp]
theorem Count1_sp (x : Int) : Sp 97 [.int x] [.bool (decide (x < 0))] := sound_ 0 (shape_Count_1_tree _ _) (wp_ret rfl)
theorem Count2_sp (x : Int) : Sp 98 [.int x] [.bool (decide (2048 < x))] := sound_ 0 (shape_Count_2_tree _ _) (wp_ret rfl)
theorem Contains1_sp (l : List Int) (hb : l.length ≤ 6) : Sp 41 [dI l, D.fn 97 [] []] [.bool (l.any (fun x => decide (x < 0)))] := by
  refine sound_ 0 (slices_ContainsFunc_int_int_tree_shape_Count_1 _ _) (wp_call (ys := [.int (idxD (fun x => decide (x < 0)) 0 l)]) ?_ (wp_ret ?_))
  · refine sound_ (l.length + 1) (slices_IndexFunc_int_int_tree_shape_Count_1 _ _) ?_
    have key := loop_list (P := Tryz.prog) (md := md) l (fun m k (_ : Unit) => slices_IndexFunc_int_int_l2 (l.length + 1) m (dI l) (D.fn 97 [] []) (l.length : Int) (k : Int)) (fun rest _ => [.int (idxD (fun x => decide (x < 0)) (l.length - rest.length) rest)]) (fun _ _ => True)
      (fun m k p hk hI => by
        simp only [slices_IndexFunc_int_int_l2_succ_shape_Count_1]
        refine wp_ndec (by omega) (wp_ret ?_)
        simp [idxD])
      (fun m k p x rest hd hI ih => by
        obtain ⟨h1, h2, h3⟩ := drop_cons hd
        have hle := congrArg List.length hd; rw [List.length_drop, List.length_cons] at hle; have hk : l.length - (x :: rest).length = k := by rw [List.length_cons]; omega
        have hk' : l.length - rest.length = k + 1 := by omega
        simp only [slices_IndexFunc_int_int_l2_succ_shape_Count_1, els_dI, List.length_map, Int.toNat_natCast, getD_map h2, toInt_int, wrap_succ (show k < 9223372036854775807 by omega), fnId_fn, fnCts_fn, fnDs_fn, List.append_nil]
        repeat (refine wp_dec (by omega) ?_)
        refine wp_call (Count1_sp x) ?_
        simp only [getD_c0, toBool_bool, idxD, hk]
        refine wp_decs (fun h => wp_ret ?_) (fun h => ?_)
        · simp [h]
        · have := ih () trivial
          rw [hk'] at this
          simpa [h] using this)
      (l.length + 1) 0 () (by omega) (by omega) trivial
    simpa using key
  · exact congrArg (fun b => [D.bool b]) (idxD_any _ l 0)
theorem Contains2_sp (l : List Int) (hb : l.length ≤ 6) : Sp 41 [dI l, D.fn 98 [] []] [.bool (l.any (fun x => decide (2048 < x)))] := by
  refine sound_ 0 (slices_ContainsFunc_int_int_tree_shape_Count_2 _ _) (wp_call (ys := [.int (idxD (fun x => decide (2048 < x)) 0 l)]) ?_ (wp_ret ?_))
  · refine sound_ (l.length + 1) (slices_IndexFunc_int_int_tree_shape_Count_2 _ _) ?_
    have key := loop_list (P := Tryz.prog) (md := md) l (fun m k (_ : Unit) => slices_IndexFunc_int_int_l2 (l.length + 1) m (dI l) (D.fn 98 [] []) (l.length : Int) (k : Int)) (fun rest _ => [.int (idxD (fun x => decide (2048 < x)) (l.length - rest.length) rest)]) (fun _ _ => True)
      (fun m k p hk hI => by
        simp only [slices_IndexFunc_int_int_l2_succ_shape_Count_2]
        refine wp_ndec (by omega) (wp_ret ?_)
        simp [idxD])
      (fun m k p x rest hd hI ih => by
        obtain ⟨h1, h2, h3⟩ := drop_cons hd
        have hle := congrArg List.length hd; rw [List.length_drop, List.length_cons] at hle; have hk : l.length - (x :: rest).length = k := by rw [List.length_cons]; omega
        have hk' : l.length - rest.length = k + 1 := by omega
        simp only [slices_IndexFunc_int_int_l2_succ_shape_Count_2, els_dI, List.length_map, Int.toNat_natCast, getD_map h2, toInt_int, wrap_succ (show k < 9223372036854775807 by omega), fnId_fn, fnCts_fn, fnDs_fn, List.append_nil]
        repeat (refine wp_dec (by omega) ?_)
        refine wp_call (Count2_sp x) ?_
        simp only [getD_c0, toBool_bool, idxD, hk]
        refine wp_decs (fun h => wp_ret ?_) (fun h => ?_)
        · simp [h]
        · have := ih () trivial
          rw [hk'] at this
          simpa [h] using this)
      (l.length + 1) 0 () (by omega) (by omega) trivial
    simpa using key
  · exact congrArg (fun b => [D.bool b]) (idxD_any _ l 0)
theorem slices_Contains_sp (l : List Int) (v : Int) (hb : l.length ≤ 9223372036854775807) : Sp 99 [dI l, .int v] [.bool (l.any (fun x => decide (x = v)))] := by
  refine sound_ 0 (slices_Contains_int_int_tree _ _ _) (wp_call (ys := [.int (idxD (fun x => decide (x = v)) 0 l)]) ?_ (wp_ret ?_))
  · refine sound_ (l.length + 1) (slices_Index_int_int_tree _ _ _) ?_
    have key := loop_list (P := Tryz.prog) (md := md) l (fun m k (_ : Unit) => slices_Index_int_int_l2 (l.length + 1) m (dI l) v (l.length : Int) (k : Int)) (fun rest _ => [.int (idxD (fun x => decide (x = v)) (l.length - rest.length) rest)]) (fun _ _ => True)
      (fun m k p hk hI => by
        simp only [slices_Index_int_int_l2_succ]
        refine wp_ndec (by omega) (wp_ret ?_)
        simp [idxD])
      (fun m k p x rest hd hI ih => by
        obtain ⟨h1, h2, h3⟩ := drop_cons hd
        have hle := congrArg List.length hd; rw [List.length_drop, List.length_cons] at hle; have hk : l.length - (x :: rest).length = k := by rw [List.length_cons]; omega
        have hk' : l.length - rest.length = k + 1 := by omega
        simp only [slices_Index_int_int_l2_succ, els_dI, List.length_map, Int.toNat_natCast, getD_map h2, toInt_int, wrap_succ (show k < 9223372036854775807 by omega), int_beq]
        repeat (refine wp_dec (by omega) ?_)
        simp only [idxD, hk]
        refine wp_decs (fun h => wp_ret ?_) (fun h => ?_)
        · simp [h]
        · have := ih () trivial
          rw [hk'] at this
          simpa [show ¬ x = v from fun e => h e.symm] using this)
      (l.length + 1) 0 () (by omega) (by omega) trivial
    simpa using key
  · exact congrArg (fun b => [D.bool b]) (idxD_any _ l 0)
theorem shape_product_sp (l : List Int) (hb : l.length ≤ 6) (hx : ∀ x ∈ l, 1 ≤ x ∧ x ≤ 2048) : Sp 100 [dI l] [.int (prodS l 1)] := by
  refine sound_ (l.length + 1) (shape_product_tree _ _) ?_
  have key := loop_list (P := Tryz.prog) (md := md) l (fun m k (p : Int) => shape_product_l3 (l.length + 1) m p (dI l) (l.length : Int) (k : Int)) (fun rest p => [.int (prodS rest p)]) (fun _ p => 1 ≤ p ∧ p ≤ 2048)
    (fun m k p hk hI => by
      simp only [shape_product_l3_succ]
      exact wp_ndec (by omega) (wp_ret rfl))
    (fun m k p x rest hd hI ih => by
      obtain ⟨h1, h2, h3⟩ := drop_cons hd
      have hxx := hx x (List.mem_of_getElem? h2)
      have hp := prod_le hI.1 hI.2 hxx.1 hxx.2
      simp only [shape_product_l3_succ, els_dI, List.length_map, Int.toNat_natCast, getD_map h2, toInt_int, wrap_succ (show k < 9223372036854775807 by omega), wrap64 (x := p * x) (by omega) (by omega)]
      repeat (refine wp_dec (by omega) ?_)
      simp only [prodS]
      refine wp_decs (fun h => wp_ret ?_) (fun h => ?_)
      · rw [if_pos h]
      · rw [if_neg h]; exact ih _ ⟨hp.1, by omega⟩)
    (l.length + 1) 0 1 (by omega) (by omega) (by decide)
  simpa using key
theorem shape_Count_sp (l : List Int) : Sp 58 [dI l] [.int (countS l).1, .int (countS l).2] := by
  refine sound_ 0 (shape_Count_tree _ _) ?_
  simp only [els_dI, List.length_map]
  unfold countS
  refine wp_decs (fun h => wp_ret ?_) (fun h => ?_)
  · rw [if_pos (by omega)]
  · rw [if_neg (by omega)]
    refine wp_call (Contains1_sp l (by omega)) ?_
    simp only [getD_c0, toBool_bool]
    refine wp_br (fun h1 => wp_ret (by rw [if_pos h1])) (fun h1 => ?_)
    rw [if_neg (by simp [h1])]
    refine wp_call (Contains2_sp l (by omega)) ?_
    simp only [getD_c0, toBool_bool]
    refine wp_br (fun h2 => wp_ret (by rw [if_pos h2])) (fun h2 => ?_)
    rw [if_neg (by simp [h2])]
    refine wp_call (slices_Contains_sp l 0 (by omega)) ?_
    simp only [getD_c0, toBool_bool]
    refine wp_br (fun h3 => wp_ret (by rw [if_pos h3])) (fun h3 => ?_)
    rw [if_neg (by simp [h3])]
    refine wp_call (shape_product_sp l (by omega) (count_pos (by simp [h1]) (by simp [h2]) (by simp [h3]))) ?_
    simp only [getD_c0, toInt_int, int_beq]
    refine wp_decs (fun h4 => wp_ret (by rw [if_pos h4])) (fun h4 => wp_ret (by rw [if_neg h4]))
theorem ref07_Ints_sp (a b : List Int) (ha : a.length ≤ 9223372036854775807) : Sp 24 [dI a, dI b] [.bool (decide (a = b))] := by
  refine sound_ (a.length + 1) (ref07_Ints_tree _ _ _) ?_
  simp only [els_dI, List.length_map, int_bne]
  refine wp_decs (fun h => wp_ret ?_) (fun h => ?_)
  · rw [decide_eq_false]; rintro rfl; exact h rfl
  · exact eq_loop D.int dint_inj a b (by omega) ha (fun m i => ref07_Ints_l4 (a.length + 1) m (dI a) (dI b) i) (fun m i => ref07_Ints_l4_succ _ _ _ _ _)
def mayC (c : Int) : Bool := decide (0 ≤ c ∧ c ≤ 1114111 ∧ (c < 55296 ∨ 57343 < c))
theorem may_tree (c : Int) : Tw (.br (decide (0 ≤ c)) (.br (decide (c ≤ 1114111)) (.br (decide (c < 55296)) (.ret [D.bool true]) (.ret [D.bool (decide (57343 < c))])) (.ret [D.bool false])) (.ret [D.bool false])) [.bool (mayC c)] := by
  unfold mayC
  refine wp_decs (fun h1 => wp_decs (fun h2 => wp_decs (fun h3 => wp_ret ?_) (fun h3 => wp_ret ?_)) (fun h2 => wp_ret ?_)) (fun h1 => wp_ret ?_)
  · rw [decide_eq_true (by omega)]
  · congr 2; rw [decide_eq_decide]; omega
  · rw [decide_eq_false (by omega)]
  · rw [decide_eq_false (by omega)]
theorem ref06_May_sp (c : Int) : Sp 93 [.int c] [.bool (mayC c)] := sound_ 0 (ref06_May_tree _ _) (may_tree c)
end Go.Proofs.YtbgcadcpeabpgaaGreat

set_option maxRecDepth 100000
namespace Go.Proofs.YtbgcadcpeabpgaaGreat
open Go.ChangeShapes Go.WideShapes Go.ChangeAt Go.RowKit

section
variable {P : Program} {md : Nat → FMode}
theorem law_calls {F : Nat} {fn : Func} {xs : List D} {vs : List Value} {W : World} {tb : Nat} (hs : Spec P md F [] xs [.bool true]) (hfn : P.funcs[F]? = some fn) (hm : md F = {}) (hrt : fn.resultTypes = #[tb]) (htb : P.underlying tb = some .bool)
    (hlx : xs.length = fn.params.size) (hlv : vs.length = fn.params.size) (hrd : ∀ (i t : Nat) (x : D) (v : Value), fn.params.toList[i]? = some t → xs[i]? = some x → vs[i]? = some v → Rd P md W (fun _ => False) (.ty t) x v) :
    Calls P F vs.toArray W (fun e w' => e = .returned (.bool true) ∧ Ext W w') := by
  obtain ⟨fn', h1, _, _, h⟩ := hs
  rw [hfn] at h1
  injection h1 with h1
  subst h1
  refine (h W (fun _ => False) vs 0 1 (fun k hk => by rw [hm] at hk; cases hk) ⟨by simp [hlx], by simp [hlv], fun b hb => hb.elim, ?_, fun p hp => by rw [hm] at hp; cases hp⟩).mono ?_
  · intro i ct x v hc hx hv _
    simp only [List.append_nil, List.getElem?_map, Option.map_eq_some_iff] at hc
    obtain ⟨t, ht, rfl⟩ := hc
    have := hrd i t x v ht hx hv
    exact ⟨this.rd.mono (Nat.le_refl _) (fun _ _ _ => rfl) (fun b hb _ => by
      rcases hb with hb | ⟨p, u, hp, _⟩
      · exact hb
      · rw [hm] at hp; cases hp), this.size, this.agg⟩
  · rintro e w' ⟨us, β', hp⟩
    have hl := hp.len
    rw [hrt] at hl
    have : ∃ u, us = [u] := by
      match us, hl with
      | [u], _ => exact ⟨u, rfl⟩
    obtain ⟨u, rfl⟩ := this
    have hv := hp.vl [.b true] (by rw [hrt, hm]; simp [resL, setOwn, ofD, htb, D.toBool, List.getD]) 0 (.b true) u rfl rfl
    have hu := vl_b hv
    subst hu
    refine ⟨hp.ending, ?_⟩
    have := hp.stp
    refine Stp.ext (this.weak fun b ⟨p, v, h1, _⟩ => ?_)
    rw [hm] at h1; cases h1

theorem rd_int {t : Nat} {k : IntKind} {w : World} {M : Nat → Prop} {y : D} {c : Nat → Option Value} (h : RdC P md w M (.ty t) y c) (ht : P.underlying t = some (.int k)) : ∃ n, y = .int n ∧ k.min ≤ n ∧ n ≤ k.max := by
  cases h <;> simp_all [CT.desc]
  all_goals (rename_i hf _; obtain ⟨⟨a, ha, _⟩, _⟩ := fieldsOf_under hf; rw [ht] at ha; cases ha)
theorem rd_bool {t : Nat} {w : World} {M : Nat → Prop} {y : D} {c : Nat → Option Value} (h : RdC P md w M (.ty t) y c) (ht : P.underlying t = some .bool) : ∃ b, y = .bool b := by
  cases h <;> simp_all [CT.desc]
  all_goals (rename_i hf _; obtain ⟨⟨a, ha, _⟩, _⟩ := fieldsOf_under hf; rw [ht] at ha; cases ha)
theorem rd_slc {t e : Nat} {w : World} {M : Nat → Prop} {y : D} {c : Nat → Option Value} (h : RdC P md w M (.ty t) y c) (ht : P.underlying t = some (.slice e)) : ∃ es, y = .sl es ∧ es.length ≤ maxLen ∧ ∀ x ∈ es, ∃ c', RdC P md w M (.ty e) x c' := by
  cases h with
  | sl ht' hc h1 h2 hA hh =>
    have : P.underlying t = some (.slice _) := ht'
    rw [ht] at this
    injection this with this
    injection this with this
    subst this
    refine ⟨_, rfl, Nat.le_trans h1 h2, fun x hx => ?_⟩
    obtain ⟨i, hi, rfl⟩ := List.getElem_of_mem hx
    exact ⟨_, hh i _ (List.getElem?_eq_getElem hi)⟩
  | struct hf _ _ => obtain ⟨⟨a, ha, _⟩, _⟩ := fieldsOf_under hf; rw [ht] at ha; cases ha
  | int ht' => have : P.underlying t = _ := ht'; rw [ht] at this; cases this
  | bool ht' => have : P.underlying t = _ := ht'; rw [ht] at this; cases this
  | str ht' => have : P.underlying t = _ := ht'; rw [ht] at this; cases this
  | fn ht' => have : P.underlying t = _ := ht'; rw [ht] at this; cases this
  | mp ht' => have : P.underlying t = _ := ht'; rw [ht] at this; cases this
  | ref ht' => have : P.underlying t = _ := ht'; rw [ht] at this; cases this
theorem rd_struct {t : Nat} {fs : List Field} {w : World} {M : Nat → Prop} {y : D} {c : Nat → Option Value} (h : RdC P md w M (.ty t) y c) (ht : fieldsOf P t = some fs) : ∃ ds, y = .agg ds ∧ ds.length = fs.length ∧ ∀ (i : Nat) (f : Field) (d : D), fs[i]? = some f → ds[i]? = some d → ∃ c', RdC P md w M (.ty f.type) d c' := by
  obtain ⟨⟨a, ha, _⟩, _⟩ := fieldsOf_under ht
  cases h with
  | struct hf hl hh =>
    rw [ht] at hf
    injection hf with hf
    subst hf
    exact ⟨_, rfl, hl, fun i f d h1 h2 => ⟨_, hh i f d h1 h2⟩⟩
  | sl ht' => have : P.underlying t = _ := ht'; rw [ha] at this; cases this
  | int ht' => have : P.underlying t = _ := ht'; rw [ha] at this; cases this
  | bool ht' => have : P.underlying t = _ := ht'; rw [ha] at this; cases this
  | str ht' => have : P.underlying t = _ := ht'; rw [ha] at this; cases this
  | fn ht' => have : P.underlying t = _ := ht'; rw [ha] at this; cases this
  | mp ht' => have : P.underlying t = _ := ht'; rw [ha] at this; cases this
  | ref ht' => have : P.underlying t = _ := ht'; rw [ha] at this; cases this
theorem rd_ints {t e : Nat} {w : World} {M : Nat → Prop} {y : D} {c : Nat → Option Value} (h : RdC P md w M (.ty t) y c) (ht : P.underlying t = some (.slice e)) (he : P.underlying e = some (.int .i64)) : ∃ l, y = dI l ∧ l.length ≤ maxLen ∧ ∀ x ∈ l, -9223372036854775808 ≤ x ∧ x ≤ 9223372036854775807 := by
  obtain ⟨es, rfl, hl, hh⟩ := rd_slc h ht
  have : ∃ l : List Int, es = l.map .int ∧ ∀ x ∈ l, -9223372036854775808 ≤ x ∧ x ≤ 9223372036854775807 := by
    clear hl h
    induction es with
    | nil => exact ⟨[], rfl, fun _ h => by cases h⟩
    | cons x es ih =>
      obtain ⟨l, rfl, hl⟩ := ih (fun y hy => hh y (by simp [hy]))
      obtain ⟨c', hc⟩ := hh x (by simp)
      obtain ⟨n, rfl, h1, h2⟩ := rd_int hc he
      exact ⟨n :: l, rfl, fun y hy => by rcases List.mem_cons.1 hy with rfl | hy; exact ⟨h1, h2⟩; exact hl y hy⟩
  obtain ⟨l, rfl, h2⟩ := this
  exact ⟨l, rfl, by simpa using hl, h2⟩
theorem rd_limbs {t e : Nat} {w : World} {M : Nat → Prop} {y : D} {c : Nat → Option Value} (h : RdC P md w M (.ty t) y c) (ht : P.underlying t = some (.slice e)) (he : P.underlying e = some (.int .u32)) : ∃ l : List Limb, y = dL l ∧ l.length ≤ maxLen := by
  obtain ⟨es, rfl, hl, hh⟩ := rd_slc h ht
  have : ∃ l : List Limb, es = l.map dB := by
    clear hl h
    induction es with
    | nil => exact ⟨[], rfl⟩
    | cons x es ih =>
      obtain ⟨l, rfl⟩ := ih (fun y hy => hh y (by simp [hy]))
      obtain ⟨c', hc⟩ := hh x (by simp)
      obtain ⟨n, rfl, h1, h2⟩ := rd_int hc he
      have h1 : 0 ≤ n := h1
      have h2 : n ≤ 4294967295 := h2
      refine ⟨BitVec.ofNat 32 n.toNat :: l, ?_⟩
      simp only [List.map_cons, dB, BitVec.toNat_ofNat]
      rw [Nat.mod_eq_of_lt (by omega), Int.toNat_of_nonneg h1]
  obtain ⟨l, rfl⟩ := this
  exact ⟨l, rfl, by simpa using hl⟩
theorem rd_lab {t : Nat} {w : World} {M : Nat → Prop} {y : D} {c : Nat → Option Value} (h : RdC P md w M (.ty t) y c) (ht : P.underlying t = some (.int .u64)) : ∃ l : Lab, y = dB l := by
  obtain ⟨n, rfl, h1, h2⟩ := rd_int h ht
  have h1 : 0 ≤ n := h1
  have h2 : n ≤ 18446744073709551615 := h2
  refine ⟨BitVec.ofNat 64 n.toNat, ?_⟩
  simp only [dB, BitVec.toNat_ofNat]
  rw [Nat.mod_eq_of_lt (by omega), Int.toNat_of_nonneg h1]
end
end Go.Proofs.YtbgcadcpeabpgaaGreat

set_option maxRecDepth 100000
namespace Go.Proofs.YtbgcadcpeabpgaaGreat
open Go.ChangeShapes Go.WideShapes Go.ChangeAt Go.RowKit

theorem len3 {α : Type} {l : List α} (h : l.length = 3) : ∃ a b c, l = [a, b, c] := by
  match l, h with
  | [a, b, c], _ => exact ⟨a, b, c, rfl⟩
theorem len5 {α : Type} {l : List α} (h : l.length = 5) : ∃ a b c d e, l = [a, b, c, d, e] := by
  match l, h with
  | [a, b, c, d, e], _ => exact ⟨a, b, c, d, e, rfl⟩
/-- No list of an array is longer than it can be; lengths of axes are ints. -/
inductive Fits : Arr → Prop where
  | mk {s : Lab} {sh : List Int} {cs : List Cell} (h1 : sh.length ≤ maxLen) (h2 : cs.length ≤ maxLen) (h3 : ∀ c ∈ cs, c.n.top.length ≤ maxLen ∧ c.n.bot.length ≤ maxLen ∧ c.inn.length ≤ maxLen) (h5 : ∀ x ∈ sh, -9223372036854775808 ≤ x ∧ x ≤ 9223372036854775807)
      (h4 : ∀ c ∈ cs, ∀ x ∈ c.inn, Fits x) : Fits (.mk s sh cs)
theorem fields_Num : (fieldsOf Tryz.prog 65).map (fun fs => fs.map (·.type)) = some [4, 63, 63] := by kernel_rfl
theorem fields_Cell : (fieldsOf Tryz.prog 68).map (fun fs => fs.map (·.type)) = some [22, 3, 65, 3, 66] := by kernel_rfl
theorem fields_Array : (fieldsOf Tryz.prog 26).map (fun fs => fs.map (·.type)) = some [22, 23, 24] := by kernel_rfl
theorem types_at {fs : List Field} {ts : List Nat} (h : fs.map (·.type) = ts) {i t : Nat} (ht : ts[i]? = some t) : ∃ f, fs[i]? = some f ∧ f.type = t := by
  subst h
  simpa [List.getElem?_map, Option.map_eq_some_iff] using ht
theorem rd_num {w : World} {M : Nat → Prop} {y : D} {c : Nat → Option Value} (h : RdC Tryz.prog md w M (.ty 65) y c) : ∃ n, y = dN n ∧ n.top.length ≤ maxLen ∧ n.bot.length ≤ maxLen := by
  obtain ⟨fs, hf, ht⟩ := Option.map_eq_some_iff.1 fields_Num
  obtain ⟨ds, rfl, hl, hh⟩ := rd_struct h hf
  have : fs.length = 3 := by rw [← List.length_map (f := (·.type)), ht]; rfl
  obtain ⟨a, b, c, rfl⟩ := len3 (by rw [hl, this])
  obtain ⟨f0, hf0, e0⟩ := types_at ht (i := 0) rfl
  obtain ⟨f1, hf1, e1⟩ := types_at ht (i := 1) rfl
  obtain ⟨f2, hf2, e2⟩ := types_at ht (i := 2) rfl
  obtain ⟨_, h0⟩ := hh 0 f0 a hf0 rfl
  obtain ⟨_, h1⟩ := hh 1 f1 b hf1 rfl
  obtain ⟨_, h2⟩ := hh 2 f2 c hf2 rfl
  rw [e0] at h0; rw [e1] at h1; rw [e2] at h2
  obtain ⟨n, rfl⟩ := rd_bool h0 (by kernel_rfl)
  obtain ⟨t, rfl, l1⟩ := rd_limbs h1 (e := 139) (by kernel_rfl) (by kernel_rfl)
  obtain ⟨t', rfl, l2⟩ := rd_limbs h2 (e := 139) (by kernel_rfl) (by kernel_rfl)
  exact ⟨⟨n, t, t'⟩, rfl, l1, l2⟩
mutual
def D.sz : D → Nat
  | .agg fs => 1 + D.szL fs | .sl es => 1 + D.szL es | _ => 0
def D.szL : List D → Nat
  | [] => 0 | x :: xs => 1 + x.sz + D.szL xs
end
theorem rd_arr : ∀ (k : Nat) {w : World} {M : Nat → Prop} {y : D} {c : Nat → Option Value}, y.sz < k → RdC Tryz.prog md w M (.ty 26) y c → ∃ a, y = dA a ∧ Fits a
  | 0, _, _, _, _, hk, _ => by omega
  | k + 1, w, M, y, c, hk, h => by
    obtain ⟨fs, hf, ht⟩ := Option.map_eq_some_iff.1 fields_Array
    obtain ⟨ds, rfl, hl, hh⟩ := rd_struct h hf
    have : fs.length = 3 := by rw [← List.length_map (f := (·.type)), ht]; rfl
    obtain ⟨a, b, c, rfl⟩ := len3 (by rw [hl, this])
    obtain ⟨f0, hf0, e0⟩ := types_at ht (i := 0) rfl
    obtain ⟨f1, hf1, e1⟩ := types_at ht (i := 1) rfl
    obtain ⟨f2, hf2, e2⟩ := types_at ht (i := 2) rfl
    obtain ⟨_, h0⟩ := hh 0 f0 a hf0 rfl
    obtain ⟨_, h1⟩ := hh 1 f1 b hf1 rfl
    obtain ⟨_, h2⟩ := hh 2 f2 c hf2 rfl
    rw [e0] at h0; rw [e1] at h1; rw [e2] at h2
    obtain ⟨s, rfl⟩ := rd_lab h0 (by kernel_rfl)
    obtain ⟨sh, rfl, l1, l1'⟩ := rd_ints h1 (e := 3) (by kernel_rfl) (by kernel_rfl)
    obtain ⟨es, rfl, l2, hes⟩ := rd_slc h2 (e := 68) (by kernel_rfl)
    have hsz : D.szL es < k := by simp only [D.sz, D.szL] at hk; omega
    have key : ∃ cs : List Cell, es = cs.map dC ∧ (∀ c ∈ cs, c.n.top.length ≤ maxLen ∧ c.n.bot.length ≤ maxLen ∧ c.inn.length ≤ maxLen) ∧ ∀ c ∈ cs, ∀ x ∈ c.inn, Fits x := by
      clear l2 h2 h hh h0 h1 hf0 hf1 hf2 e0 e1 e2 hl hk
      induction es with
      | nil => exact ⟨[], rfl, (fun _ h => by cases h), (fun _ h => by cases h)⟩
      | cons x es ih =>
        simp only [D.szL] at hsz
        obtain ⟨cs, rfl, g1, g2⟩ := ih (fun y hy => hes y (by simp [hy])) (by omega)
        obtain ⟨_, hx⟩ := hes x (by simp)
        obtain ⟨fs, hf, ht⟩ := Option.map_eq_some_iff.1 fields_Cell
        obtain ⟨ds, rfl, hl, hh⟩ := rd_struct hx hf
        have : fs.length = 5 := by rw [← List.length_map (f := (·.type)), ht]; rfl
        obtain ⟨a, b, c, d, e, rfl⟩ := len5 (by rw [hl, this])
        obtain ⟨f0, hf0, e0⟩ := types_at ht (i := 0) rfl
        obtain ⟨f1, hf1, e1⟩ := types_at ht (i := 1) rfl
        obtain ⟨f2, hf2, e2⟩ := types_at ht (i := 2) rfl
        obtain ⟨f3, hf3, e3⟩ := types_at ht (i := 3) rfl
        obtain ⟨f4, hf4, e4⟩ := types_at ht (i := 4) rfl
        obtain ⟨_, h0⟩ := hh 0 f0 a hf0 rfl
        obtain ⟨_, h1⟩ := hh 1 f1 b hf1 rfl
        obtain ⟨_, h2⟩ := hh 2 f2 c hf2 rfl
        obtain ⟨_, h3⟩ := hh 3 f3 d hf3 rfl
        obtain ⟨_, h4⟩ := hh 4 f4 e hf4 rfl
        rw [e0] at h0; rw [e1] at h1; rw [e2] at h2; rw [e3] at h3; rw [e4] at h4
        obtain ⟨l, rfl⟩ := rd_lab h0 (by kernel_rfl)
        obtain ⟨kd, rfl, _⟩ := rd_int h1 (k := .i64) (by kernel_rfl)
        obtain ⟨n, rfl, n1, n2⟩ := rd_num h2
        obtain ⟨ch, rfl, _⟩ := rd_int h3 (k := .i64) (by kernel_rfl)
        obtain ⟨as_, rfl, l4, has⟩ := rd_slc h4 (e := 26) (by kernel_rfl)
        have hsz4 : D.szL as_ < k := by simp only [D.sz, D.szL] at hsz; omega
        have key2 : ∃ bs : List Arr, as_ = bs.map dA ∧ ∀ x ∈ bs, Fits x := by
          clear h4 hh hx hes ih l4 hsz hl
          induction as_ with
          | nil => exact ⟨[], rfl, fun _ h => by cases h⟩
          | cons z zs ihz =>
            simp only [D.szL] at hsz4
            obtain ⟨bs, rfl, hb⟩ := ihz (fun y hy => has y (by simp [hy])) (by omega)
            obtain ⟨_, hz⟩ := has z (by simp)
            obtain ⟨a, rfl, ha⟩ := rd_arr k (by omega) hz
            exact ⟨a :: bs, rfl, fun y hy => by rcases List.mem_cons.1 hy with rfl | hy; exact ha; exact hb y hy⟩
        obtain ⟨bs, rfl, hb⟩ := key2
        refine ⟨⟨l, kd, n, ch, bs⟩ :: cs, by simp [dC_eq], fun c hc => ?_, fun c hc => ?_⟩
        · rcases List.mem_cons.1 hc with rfl | hc
          · exact ⟨n1, n2, by simpa using l4⟩
          · exact g1 c hc
        · rcases List.mem_cons.1 hc with rfl | hc
          · exact hb
          · exact g2 c hc
    obtain ⟨cs, rfl, g1, g2⟩ := key
    exact ⟨.mk s sh cs, (dA_mk s sh cs), .mk l1 (by simpa using l2) g1 l1' g2⟩
/-- An argument that is an array. -/
def lawTs : List Nat := [4, 3, 22, 139, 63, 23, 65, 68, 26, 66, 24]
theorem lawTs_plain : plainTs Tryz.prog lawTs = true := by kernel_rfl
section
variable {H : Type} {enc : TypeId × Value → H} {W : World} {sp : Nat → Bool} {held : Bool} {r : Reach} {b0 : Nat} {v : Value} {d : DataW H} {ps : List MemPlace}
theorem arg_arr (hval : Value.okWide Tryz.prog W r b0 26 v) (h : DataW.Trod enc Tryz.prog W 0 sp held 26 v d ps) : ∃ a, Fits a ∧ Rd Tryz.prog md W (fun _ => False) (.ty 26) (dA a) v := by
  obtain ⟨y, hy, hyw⟩ := arg_rd (md := md) wfP lawTs_plain (by decide) hval h
  obtain ⟨a, rfl, ha⟩ := rd_arr _ (Nat.lt_succ_self _) hy.rd
  exact ⟨a, ha, hy⟩
end
end Go.Proofs.YtbgcadcpeabpgaaGreat

