/- Proved: lemmas for the law of this folder, part 6. No condition. -/
import Derived.Test.YtjmddikeadbmjaaGreatRows
import Derived.WalkKit
import Derived.WalkSpells
import Derived.WalkLawsBesides
import Derived.Lib.Hide
import Derived.Laws.CopyOwn
import Derived.Deep.QuietTactic
import Derived.BigQuiet
import Derived.Orders
import Derived.Defers
import Derived.Recover
import Derived.Test.YtjmddikeadbmjaaGreatProg
import Derived.KernelRfl
import Derived.ProofKit
import Derived.OpenShut
import Derived.Test.YtjmddikeadbmjaaGreatZa1843ed2
set_option linter.unusedSimpArgs false
set_option linter.unusedVariables false
set_option maxRecDepth 100000
namespace Go.Proofs.YtjmddikeadbmjaaGreat

theorem nz {n : Nat} (h : n ≠ 0) : (n : Int) ≠ 0 := by omega
theorem rnum_ofZ {z : Int} (h : lenZ z ≤ 32) : RNum (ofZ z) z 1 := ⟨(frac_one z).symm, by decide, Nat.coprime_one_right _, h, by rw [lbn_one]; decide⟩
theorem lenZ_small {z : Int} (h1 : -100000 ≤ z := by decide) (h2 : z ≤ 100000 := by decide) : lenZ z ≤ 32 := lenZ_le (by
  have : 100000 < B ^ 32 := by decide
  omega)
theorem lb_small {n : Nat} (h0 : n ≠ 0) (h : n < B) : lb n = [BitVec.ofNat 32 n] := by rw [lb_pos h0, Nat.div_eq_of_lt h, lb_zero]
theorem mkR_val {p q z : Int} {d : Nat} (hq : q ≠ 0) (h0 : d ≠ 0) (hc : Nat.Coprime z.natAbs d) (h1 : lenZ z ≤ 32) (h2 : (lb d).length ≤ 32) (e : p * (d : Int) = z * q) : mkR p q = (frac z d, 0) := by
  rw [mkR_unique (p' := z) (q' := (d : Int)) hq (by omega) e, mkR_self h0 hc h1 h2]
theorem modR_sm {a b : Num} {z y : Int} {d e : Nat} (_ : RNum a z d) (hb : RNum b y e) : SmN (modR a b).1 := by
  have z0 : SmN Num.zero := ⟨by simp [Num.zero], by simp [Num.zero]⟩
  unfold modR bindR
  split
  · exact hb.sm
  · split
    · dsimp only
      split
      · exact mkR_sm _ _
      · exact z0
    · exact z0
theorem powRt_sm (a : Num) (n : Int) : SmN (powRt a n).1 := by
  have z0 : SmN Num.zero := ⟨by simp [Num.zero], by simp [Num.zero]⟩
  have pd : ∀ p q, SmN (powD2 p q).1 := fun p q => by
    unfold powD2
    split
    · split
      · exact mkR_sm _ _
      · exact z0
    · exact z0
  unfold powRt
  split
  · split
    · exact z0
    · exact pd _ _
  · exact pd _ _
theorem gcdR_sm {a b : Num} {z y : Int} {d e : Nat} (ra : RNum a z d) (rb : RNum b y e) : SmN (gcdR a b).1 := by
  unfold gcdR
  split
  · exact (gcd_rn ra rb).sm
  · exact ⟨by simp [Num.zero], by simp [Num.zero]⟩
theorem lcmR_sm {a b : Num} {z y : Int} {d e : Nat} (ra : RNum a z d) (rb : RNum b y e) : SmN (lcmR a b).1 := by
  have z0 : SmN Num.zero := ⟨by simp [Num.zero], by simp [Num.zero]⟩
  unfold lcmR bindR
  split
  · dsimp only
    split
    · exact gcdR_sm ra rb
    · split
      · exact mkR_sm _ _
      · exact z0
  · exact z0
theorem rn_add {a b : Num} {z y : Int} {d e : Nat} {k l : Nat} (ha : RNum a z d) (hb : RNum b y e) (az : lenZ z ≤ k) (ad : (lb d).length ≤ k) (bz : lenZ y ≤ l) (bd : (lb e).length ≤ l) (hk : k + l + 1 ≤ 32) :
    (addR a b).2 = 0 ∧ ∃ x c, RNum (addR a b).1 x c ∧ lenZ x ≤ k + l + 1 ∧ (lb c).length ≤ k + l ∧ x * ((d : Int) * (e : Int)) = (z * (e : Int) + y * (d : Int)) * (c : Int) := by
  have hq : numB a * numB b ≠ 0 := Int.mul_ne_zero ha.botnz hb.botnz
  have ld : lenZ (d : Int) ≤ k := by unfold lenZ; rw [Int.natAbs_natCast]; exact ad
  have le : lenZ (e : Int) ≤ l := by unfold lenZ; rw [Int.natAbs_natCast]; exact bd
  have m1 := lenZ_mul z (e : Int)
  have m2 := lenZ_mul y (d : Int)
  have m3 := lenZ_mul (d : Int) (e : Int)
  have s1 := lenZ_add (z * (e : Int)) (y * (d : Int))
  have hT : numT a * numB b + numT b * numB a = z * (e : Int) + y * (d : Int) := by rw [ha.top, ha.bot, hb.top, hb.bot]
  have hB : numB a * numB b = (d : Int) * (e : Int) := by rw [ha.bot, hb.bot]
  have b1 : lenZ (z * (e : Int) + y * (d : Int)) ≤ k + l + 1 := by omega
  have b2 : lenZ ((d : Int) * (e : Int)) ≤ k + l := by omega
  have h32 : k + l ≤ 32 := by omega
  obtain ⟨h1, _, h3⟩ := mkR_ok (p := numT a * numB b + numT b * numB a) hq
  have h0 := h3 (by rw [hT]; exact Nat.le_trans b1 hk) (by rw [hB]; exact Nat.le_trans b2 h32)
  obtain ⟨x, c, r1, r2, r3, r4⟩ := h1 h0
  refine ⟨h0, x, c, r1, ?_, ?_, by rw [← hT, ← hB]; exact r2⟩
  · rw [hT] at r3
    exact Nat.le_trans (lb_len.2 (Nat.lt_of_le_of_lt r3 (lb_len.1 (Nat.le_refl _)))) b1
  · rw [hB] at r4
    exact Nat.le_trans (lb_len.2 (Nat.lt_of_le_of_lt r4 (lb_len.1 (Nat.le_refl _)))) b2
theorem rn_mul {a b : Num} {z y : Int} {d e : Nat} {k l : Nat} (ha : RNum a z d) (hb : RNum b y e) (az : lenZ z ≤ k) (ad : (lb d).length ≤ k) (bz : lenZ y ≤ l) (bd : (lb e).length ≤ l) (hk : k + l ≤ 32) :
    (mulR a b).2 = 0 ∧ ∃ x c, RNum (mulR a b).1 x c ∧ lenZ x ≤ k + l ∧ (lb c).length ≤ k + l ∧ x * ((d : Int) * (e : Int)) = z * y * (c : Int) := by
  have hq : numB a * numB b ≠ 0 := Int.mul_ne_zero ha.botnz hb.botnz
  have ld : lenZ (d : Int) ≤ k := by unfold lenZ; rw [Int.natAbs_natCast]; exact ad
  have le : lenZ (e : Int) ≤ l := by unfold lenZ; rw [Int.natAbs_natCast]; exact bd
  have m1 := lenZ_mul z y
  have m3 := lenZ_mul (d : Int) (e : Int)
  have hT : numT a * numT b = z * y := by rw [ha.top, hb.top]
  have hB : numB a * numB b = (d : Int) * (e : Int) := by rw [ha.bot, hb.bot]
  have b1 : lenZ (z * y) ≤ k + l := by omega
  have b2 : lenZ ((d : Int) * (e : Int)) ≤ k + l := by omega
  obtain ⟨h1, _, h3⟩ := mkR_ok (p := numT a * numT b) hq
  have h0 := h3 (by rw [hT]; exact Nat.le_trans b1 hk) (by rw [hB]; exact Nat.le_trans b2 hk)
  obtain ⟨x, c, r1, r2, r3, r4⟩ := h1 h0
  refine ⟨h0, x, c, r1, ?_, ?_, by rw [← hT, ← hB]; exact r2⟩
  · rw [hT] at r3
    exact Nat.le_trans (lb_len.2 (Nat.lt_of_le_of_lt r3 (lb_len.1 (Nat.le_refl _)))) b1
  · rw [hB] at r4
    exact Nat.le_trans (lb_len.2 (Nat.lt_of_le_of_lt r4 (lb_len.1 (Nat.le_refl _)))) b2
theorem rn_same {n m : Num} {z y : Int} {d e : Nat} (h : RNum n z d) (h' : RNum m y e) (he : z * (e : Int) = y * (d : Int)) : n = m := by
  obtain ⟨rfl, rfl⟩ := cop_unique h.d0 h'.d0 h.cop h'.cop he
  rw [h.eq, h'.eq]
theorem cancel {x y k : Int} (hk : k ≠ 0) (h : x * k = y * k) : x = y := Int.eq_of_mul_eq_mul_right hk h
end Go.Proofs.YtjmddikeadbmjaaGreat
set_option maxRecDepth 100000
namespace Go.Proofs.YtjmddikeadbmjaaGreat
/-! scrim/array.Int -/
def array_Int_orc : List (Nat × Orc) := []
theorem array_Int_tree (n : Nat) (n0 : D) : evFun Tryz.prog md array_Int_orc n 36 [] [n0] =
 .call 58 [] [D.int n0.toInt] fun yy1 =>
 .ret [D.agg [D.int 0, D.int 0, yy1.getD 0 D.nil, D.int 0, D.sl []]] := by kernel_rfl

/-! scrim/array.Vector -/
def array_Vector_orc : List (Nat × Orc) := [(3, ⟨[(0, some 24), (2, none), (3, none), (9, some 24), (10, none), (11, none)], [(2, false)], [(.slot 3, 1030, 66)]⟩)]
def array_Vector_ps : List Nat := [24]
def array_Vector_rs : List ResultVar := [.cell 2 26]
def array_Vector_ts : List Nat := [26]
noncomputable def array_Vector_l3 (n m3 : Nat) (l0 : D) (cells3 : List D) (t9 : D) (t10 : Int) (t11 : Int) (t2_0 : Int) : Tree :=
  evLoop Tryz.prog md (ev Tryz.prog md n array_Vector_orc (cAt (bodyOf Tryz.prog 37) [1, 1, 0, 1, 0, 0])) (orcAt array_Vector_orc 3) m3 ⟨[.d 24 l0, .undef, .ptr 2 [], .row 1030, .undef, .undef, .undef, .undef, .undef, .d 24 t9, .i .i64 t10, .i .i64 t11, .undef, .undef, .undef, .undef, .undef, .undef, .undef, .undef, .undef, .undef, .undef, .undef, .undef, .undef, .undef], [(2, .var 26 (.agg 26 [.i .u64 t2_0, .mt, .mt]) true), (1030, .row 66 cells3 true)], [2, 1030], [], []⟩
   (blockK 0 (seqK (joinE Tryz.prog md (joinAt array_Vector_orc (cAt (bodyOf Tryz.prog 37) [1, 1, 1])) (ev Tryz.prog md n array_Vector_orc (cAt (bodyOf Tryz.prog 37) [1, 1, 1]))) (retK Tryz.prog md (md 37) array_Vector_ps array_Vector_rs array_Vector_ts)))
theorem array_Vector_l3_succ (n m3 : Nat) (l0 : D) (cells3 : List D) (t9 : D) (t10 : Int) (t11 : Int) (t2_0 : Int) : array_Vector_l3 n (m3 + 1) l0 cells3 t9 t10 t11 t2_0 =
 .br (decide (t11 < t10)) (.br (decide (0 ≤ t11)) (.br (decide (t11 < (t9.els.length : Int))) (.call 93 [] [t9.els.getD (Int.toNat t11) D.nil] fun yy1 =>
 .br (decide (0 ≤ t11)) (.br (decide (t11 < (cells3.length : Int))) (array_Vector_l3 n m3 l0 (cells3.set (Int.toNat t11) (yy1.getD 0 D.nil)) t9 t10 (IntKind.wrap .i64 (t11 + 1)) t2_0) .fail) .fail) .fail) .fail)
 (.ret [D.agg [D.int 0, D.sl [D.int (l0.els.length : Int)], D.sl cells3]]) := by kernel_rfl
theorem array_Vector_tree (n : Nat) (l0 : D) : evFun Tryz.prog md array_Vector_orc n 37 [] [l0] =
 .br (decide (0 ≤ (l0.els.length : Int))) (.br (decide ((l0.els.length : Int) ≤ (l0.els.length : Int))) (.br (decide ((l0.els.length : Int) ≤ bigN)) (array_Vector_l3 n n l0 (List.replicate (Int.toNat (l0.els.length : Int)) (D.agg [D.int 0, D.int 0, D.agg [D.bool false, D.sl [], D.sl []], D.int 0, D.sl []])) l0 (l0.els.length : Int) 0 0) .fail) .fail) .fail := by kernel_rfl

/-! scrim/array.Scalar -/
def array_Scalar_orc : List (Nat × Orc) := []
theorem array_Scalar_tree (n : Nat) (c0 : D) : evFun Tryz.prog md array_Scalar_orc n 38 [] [c0] =
 .call 93 [] [c0] fun yy1 =>
 .ret [D.agg [D.int 0, D.sl [], D.sl [yy1.getD 0 D.nil]]] := by kernel_rfl

/-! scrim/array.Num -/
def array_Num_orc : List (Nat × Orc) := []
theorem array_Num_tree (n : Nat) (n0 : D) : evFun Tryz.prog md array_Num_orc n 56 [] [n0] =
 .call 93 [] [D.agg [D.int 0, D.int 0, n0, D.int 0, D.sl []]] fun yy1 =>
 .ret [yy1.getD 0 D.nil] := by kernel_rfl

/-! scrim/array.own -/
def array_own_orc : List (Nat × Orc) := []
theorem array_own_tree (n : Nat) (c0 : D) : evFun Tryz.prog md array_own_orc n 93 [] [c0] =
 .call 132 [] [(c0.fld 2).fld 1] fun yy1 =>
 .call 132 [] [(c0.fld 2).fld 2] fun yy2 =>
 .call 133 [] [c0.fld 4] fun yy3 =>
 .ret [D.agg [D.int ((c0.fld 0).toInt), D.int ((c0.fld 1).toInt), D.agg [D.bool (((c0.fld 2).fld 0).toBool), D.sl ((yy1.getD 0 D.nil).els), D.sl ((yy2.getD 0 D.nil).els)], D.int ((c0.fld 3).toInt), D.sl ((yy3.getD 0 D.nil).els)]] := by kernel_rfl

end Go.Proofs.YtjmddikeadbmjaaGreat
set_option maxRecDepth 100000
namespace Go.Proofs.YtjmddikeadbmjaaGreat
/-! scrim/scrimref08.Good -/
def ref08_Good_orc : List (Nat × Orc) := []
theorem ref08_Good_tree (n : Nat) (a0 : D) : evFun Tryz.prog md ref08_Good_orc n 7 [] [a0] =
 .call 34 [] [a0] fun yy1 =>
 .br ((yy1.getD 0 D.nil).toBool) (.call 16 [] [a0, D.int 8] fun yy2 =>
 .br ((yy2.getD 0 D.nil).toBool) (.call 35 [] [a0] fun yy3 =>
 .ret [D.bool ((yy3.getD 0 D.nil).toBool)])
 (.ret [D.bool false]))
 (.ret [D.bool false]) := by kernel_rfl

/-! scrim/scrimref08.Right -/
def ref08_Right_orc : List (Nat × Orc) := [(5, ⟨[(1, none), (2, none), (5, none), (7, none)], [(2, true)], []⟩)]
def ref08_Right_ps : List Nat := [26, 3]
def ref08_Right_rs : List ResultVar := [.tmp 4]
def ref08_Right_ts : List Nat := [4]
noncomputable def ref08_Right_l5 (n m5 : Nat) (deep1 : Int) (n5 : Int) (i7 : Int) (a2 : D) : Tree :=
  evLoop Tryz.prog md (ev Tryz.prog md n ref08_Right_orc (cAt (bodyOf Tryz.prog 16) [1, 1, 1, 0, 1, 0, 0])) (orcAt ref08_Right_orc 5) m5 ⟨[.undef, .i .i64 deep1, .ptr 2 [], .undef, .undef, .i .i64 n5, .undef, .i .i64 i7, .undef, .undef, .undef, .undef, .undef, .undef, .undef, .undef, .undef, .undef, .undef, .undef, .undef, .undef, .undef, .undef, .undef, .undef, .undef, .undef, .undef, .undef, .undef, .undef, .undef, .undef, .undef, .undef], [(2, .var 26 (.d 26 a2) true)], [2], [], []⟩
   (blockK 0 (seqK (joinE Tryz.prog md (joinAt ref08_Right_orc (cAt (bodyOf Tryz.prog 16) [1, 1, 1, 1])) (ev Tryz.prog md n ref08_Right_orc (cAt (bodyOf Tryz.prog 16) [1, 1, 1, 1]))) (retK Tryz.prog md (md 16) ref08_Right_ps ref08_Right_rs ref08_Right_ts)))
theorem ref08_Right_l5_succ (n m5 : Nat) (deep1 : Int) (n5 : Int) (i7 : Int) (a2 : D) : ref08_Right_l5 n (m5 + 1) deep1 n5 i7 a2 =
 .br (decide (i7 < n5)) (.br (decide (0 ≤ i7)) (.br (decide (i7 < (((a2.fld 2).els).length : Int))) (.call 50 [] [((a2.fld 2).els).getD (Int.toNat i7) D.nil, D.int deep1] fun yy2 =>
 .br (!((yy2.getD 0 D.nil).toBool)) (.ret [D.bool false])
 (ref08_Right_l5 n m5 deep1 n5 (IntKind.wrap .i64 (i7 + 1)) a2)) .fail) .fail)
 (.ret [D.bool true]) := by kernel_rfl
theorem ref08_Right_tree (n : Nat) (a0 : D) (deep1 : D) : evFun Tryz.prog md ref08_Right_orc n 16 [] [a0, deep1] =
 .call 43 [] [a0.fld 1] fun yy1 =>
 .br (((yy1.getD 1 D.nil).toInt) != 0) (.ret [D.bool false])
 (.br (((yy1.getD 0 D.nil).toInt) != (((a0.fld 2).els).length : Int)) (.ret [D.bool false])
 (ref08_Right_l5 n n deep1.toInt ((yy1.getD 0 D.nil).toInt) 0 a0)) := by kernel_rfl

/-! scrim/scrimref08.Few -/
def ref08_Few_orc : List (Nat × Orc) := []
theorem ref08_Few_tree (n : Nat) (a0 : D) : evFun Tryz.prog md ref08_Few_orc n 34 [] [a0] =
 .call 92 [] [a0, D.int 12, D.int 4000] fun yy1 =>
 .ret [D.bool (decide (0 ≤ ((yy1.getD 0 D.nil).toInt)))] := by kernel_rfl

/-! scrim/scrimref08.thin -/
def ref08_thin_orc : List (Nat × Orc) := [(3, ⟨[(1, none), (3, none), (4, none)], [(1, true)], []⟩), (10, ⟨[(1, none), (5, none)], [(1, true)], []⟩), (13, ⟨[(1, none), (5, none), (6, none)], [(1, true)], []⟩)]
def ref08_thin_ps : List Nat := [26]
def ref08_thin_rs : List ResultVar := [.tmp 2]
def ref08_thin_ts : List Nat := [4]
noncomputable def ref08_thin_l13 (n m10 m13 : Nat) (i5 : Int) (k6 : Int) (a1 : D) : Tree :=
  evLoop Tryz.prog md (ev Tryz.prog md n ref08_thin_orc (cAt (bodyOf Tryz.prog 35) [1, 1, 1, 1, 0, 1, 0, 0, 1, 0, 0, 1, 0, 0])) (orcAt ref08_thin_orc 13) m13 ⟨[.undef, .ptr 1 [], .undef, .undef, .undef, .i .i64 i5, .i .i64 k6, .undef, .undef, .undef, .undef, .undef, .undef, .undef, .undef, .undef, .undef, .undef, .undef, .undef, .undef, .undef, .undef, .undef, .undef, .undef, .undef, .undef, .undef, .undef, .undef, .undef, .undef, .undef, .undef, .undef, .undef, .undef, .undef, .undef, .undef, .undef, .undef, .undef, .undef, .undef, .undef, .undef, .undef, .undef, .undef, .undef, .undef, .undef, .undef, .undef, .undef, .undef, .undef, .undef, .undef, .undef], [(1, .var 26 (.d 26 a1) true)], [1], [], []⟩
   (blockK 4 (blockK 3 (seqK (joinE Tryz.prog md (joinAt ref08_thin_orc (cAt (bodyOf Tryz.prog 35) [1, 1, 1, 1, 0, 1, 0, 0, 1, 1])) (ev Tryz.prog md n ref08_thin_orc (cAt (bodyOf Tryz.prog 35) [1, 1, 1, 1, 0, 1, 0, 0, 1, 1]))) (loopK Tryz.prog md (orcAt ref08_thin_orc 10) (fun s1 => evLoop Tryz.prog md (ev Tryz.prog md n ref08_thin_orc (cAt (bodyOf Tryz.prog 35) [1, 1, 1, 1, 0, 1, 0, 0])) (orcAt ref08_thin_orc 10) m10 s1 (blockK 2 (seqK (joinE Tryz.prog md (joinAt ref08_thin_orc (cAt (bodyOf Tryz.prog 35) [1, 1, 1, 1, 1])) (ev Tryz.prog md n ref08_thin_orc (cAt (bodyOf Tryz.prog 35) [1, 1, 1, 1, 1]))) (retK Tryz.prog md (md 35) ref08_thin_ps ref08_thin_rs ref08_thin_ts)))) (blockK 2 (seqK (joinE Tryz.prog md (joinAt ref08_thin_orc (cAt (bodyOf Tryz.prog 35) [1, 1, 1, 1, 1])) (ev Tryz.prog md n ref08_thin_orc (cAt (bodyOf Tryz.prog 35) [1, 1, 1, 1, 1]))) (retK Tryz.prog md (md 35) ref08_thin_ps ref08_thin_rs ref08_thin_ts)))))))
noncomputable def ref08_thin_l10 (n m10 : Nat) (i5 : Int) (a1 : D) : Tree :=
  evLoop Tryz.prog md (ev Tryz.prog md n ref08_thin_orc (cAt (bodyOf Tryz.prog 35) [1, 1, 1, 1, 0, 1, 0, 0])) (orcAt ref08_thin_orc 10) m10 ⟨[.undef, .ptr 1 [], .undef, .undef, .undef, .i .i64 i5, .undef, .undef, .undef, .undef, .undef, .undef, .undef, .undef, .undef, .undef, .undef, .undef, .undef, .undef, .undef, .undef, .undef, .undef, .undef, .undef, .undef, .undef, .undef, .undef, .undef, .undef, .undef, .undef, .undef, .undef, .undef, .undef, .undef, .undef, .undef, .undef, .undef, .undef, .undef, .undef, .undef, .undef, .undef, .undef, .undef, .undef, .undef, .undef, .undef, .undef, .undef, .undef, .undef, .undef, .undef, .undef], [(1, .var 26 (.d 26 a1) true)], [1], [], []⟩
   (blockK 2 (seqK (joinE Tryz.prog md (joinAt ref08_thin_orc (cAt (bodyOf Tryz.prog 35) [1, 1, 1, 1, 1])) (ev Tryz.prog md n ref08_thin_orc (cAt (bodyOf Tryz.prog 35) [1, 1, 1, 1, 1]))) (retK Tryz.prog md (md 35) ref08_thin_ps ref08_thin_rs ref08_thin_ts)))
noncomputable def ref08_thin_l3 (n m3 : Nat) (n3 : Int) (i4 : Int) (a1 : D) : Tree :=
  evLoop Tryz.prog md (ev Tryz.prog md n ref08_thin_orc (cAt (bodyOf Tryz.prog 35) [1, 1, 0, 1, 0, 0])) (orcAt ref08_thin_orc 3) m3 ⟨[.undef, .ptr 1 [], .undef, .i .i64 n3, .i .i64 i4, .undef, .undef, .undef, .undef, .undef, .undef, .undef, .undef, .undef, .undef, .undef, .undef, .undef, .undef, .undef, .undef, .undef, .undef, .undef, .undef, .undef, .undef, .undef, .undef, .undef, .undef, .undef, .undef, .undef, .undef, .undef, .undef, .undef, .undef, .undef, .undef, .undef, .undef, .undef, .undef, .undef, .undef, .undef, .undef, .undef, .undef, .undef, .undef, .undef, .undef, .undef, .undef, .undef, .undef, .undef, .undef, .undef], [(1, .var 26 (.d 26 a1) true)], [1], [], []⟩
   (blockK 0 (seqK (joinE Tryz.prog md (joinAt ref08_thin_orc (cAt (bodyOf Tryz.prog 35) [1, 1, 1])) (ev Tryz.prog md n ref08_thin_orc (cAt (bodyOf Tryz.prog 35) [1, 1, 1]))) (retK Tryz.prog md (md 35) ref08_thin_ps ref08_thin_rs ref08_thin_ts)))
theorem ref08_thin_l13_succ (n m10 m13 : Nat) (i5 : Int) (k6 : Int) (a1 : D) : ref08_thin_l13 n m10 (m13 + 1) i5 k6 a1 =
 .br (decide (0 ≤ i5)) (.br (decide (i5 < (((a1.fld 2).els).length : Int))) (.br (decide (k6 < ((((((a1.fld 2).els).getD (Int.toNat i5) D.nil).fld 4).els).length : Int))) (.br (decide (0 ≤ i5)) (.br (decide (i5 < (((a1.fld 2).els).length : Int))) (.br (decide (0 ≤ k6)) (.br (decide (k6 < ((((((a1.fld 2).els).getD (Int.toNat i5) D.nil).fld 4).els).length : Int))) (.call 35 [] [(((((a1.fld 2).els).getD (Int.toNat i5) D.nil).fld 4).els).getD (Int.toNat k6) D.nil] fun yy1 =>
 .br (!((yy1.getD 0 D.nil).toBool)) (.ret [D.bool false])
 (ref08_thin_l13 n m10 m13 i5 (IntKind.wrap .i64 (k6 + 1)) a1)) .fail) .fail) .fail) .fail)
 (ref08_thin_l10 n m10 (IntKind.wrap .i64 (i5 + 1)) a1)) .fail) .fail := by kernel_rfl
theorem ref08_thin_l10_succ (n m10 : Nat) (i5 : Int) (a1 : D) : ref08_thin_l10 n (m10 + 1) i5 a1 =
 .br (decide (i5 < (((a1.fld 2).els).length : Int))) (ref08_thin_l13 n m10 n i5 0 a1)
 (.ret [D.bool true]) := by kernel_rfl
theorem ref08_thin_l3_succ (n m3 : Nat) (n3 : Int) (i4 : Int) (a1 : D) : ref08_thin_l3 n (m3 + 1) n3 i4 a1 =
 .br (decide (i4 < (((a1.fld 1).els).length : Int))) (.br (decide (n3 ≤ 100000)) (.br (decide (0 ≤ i4)) (.br (decide (i4 < (((a1.fld 1).els).length : Int))) (.br (decide (0 < ((((a1.fld 1).els).getD (Int.toNat i4) D.nil).toInt))) (.br (decide (0 ≤ i4)) (.br (decide (i4 < (((a1.fld 1).els).length : Int))) (ref08_thin_l3 n m3 (IntKind.wrap .i64 (n3 * ((((a1.fld 1).els).getD (Int.toNat i4) D.nil).toInt))) (IntKind.wrap .i64 (i4 + 1)) a1) .fail) .fail)
 (ref08_thin_l3 n m3 n3 (IntKind.wrap .i64 (i4 + 1)) a1)) .fail) .fail)
 (.br (decide (100000 < n3)) (.ret [D.bool false])
 (ref08_thin_l10 n n 0 a1)))
 (.br (decide (100000 < n3)) (.ret [D.bool false])
 (ref08_thin_l10 n n 0 a1)) := by kernel_rfl
theorem ref08_thin_tree (n : Nat) (a0 : D) : evFun Tryz.prog md ref08_thin_orc n 35 [] [a0] =
 ref08_thin_l3 n n 1 0 a0 := by kernel_rfl

/-! scrim/scrimref08.Same -/
def ref08_Same_orc : List (Nat × Orc) := [(4, ⟨[(2, none), (3, none), (5, none)], [(2, true), (3, true)], []⟩)]
def ref08_Same_ps : List Nat := [26, 26]
def ref08_Same_rs : List ResultVar := [.tmp 4]
def ref08_Same_ts : List Nat := [4]
noncomputable def ref08_Same_l4 (n m4 : Nat) (i5 : Int) (a2 : D) (b3 : D) : Tree :=
  evLoop Tryz.prog md (ev Tryz.prog md n ref08_Same_orc (cAt (bodyOf Tryz.prog 49) [1, 1, 0, 1, 0, 0])) (orcAt ref08_Same_orc 4) m4 ⟨[.undef, .undef, .ptr 2 [], .ptr 3 [], .undef, .i .i64 i5, .undef, .undef, .undef, .undef, .undef, .undef, .undef, .undef, .undef, .undef, .undef, .undef, .undef, .undef, .undef, .undef, .undef, .undef, .undef, .undef, .undef, .undef, .undef, .undef, .undef, .undef, .undef, .undef, .undef, .undef, .undef, .undef, .undef, .undef, .undef, .undef, .undef, .undef, .undef, .undef, .undef], [(2, .var 26 (.d 26 a2) true), (3, .var 26 (.d 26 b3) true)], [2, 3], [], []⟩
   (blockK 0 (seqK (joinE Tryz.prog md (joinAt ref08_Same_orc (cAt (bodyOf Tryz.prog 49) [1, 1, 1])) (ev Tryz.prog md n ref08_Same_orc (cAt (bodyOf Tryz.prog 49) [1, 1, 1]))) (retK Tryz.prog md (md 49) ref08_Same_ps ref08_Same_rs ref08_Same_ts)))
theorem ref08_Same_l4_succ (n m4 : Nat) (i5 : Int) (a2 : D) (b3 : D) : ref08_Same_l4 n (m4 + 1) i5 a2 b3 =
 .br (decide (i5 < (((a2.fld 2).els).length : Int))) (.br (decide (0 ≤ i5)) (.br (decide (i5 < (((a2.fld 2).els).length : Int))) (.br (decide (0 ≤ i5)) (.br (decide (i5 < (((b3.fld 2).els).length : Int))) (.call 101 [] [((a2.fld 2).els).getD (Int.toNat i5) D.nil, ((b3.fld 2).els).getD (Int.toNat i5) D.nil] fun yy2 =>
 .br (!((yy2.getD 0 D.nil).toBool)) (.ret [D.bool false])
 (ref08_Same_l4 n m4 (IntKind.wrap .i64 (i5 + 1)) a2 b3)) .fail) .fail) .fail) .fail)
 (.ret [D.bool true]) := by kernel_rfl
theorem ref08_Same_tree (n : Nat) (a0 : D) (b1 : D) : evFun Tryz.prog md ref08_Same_orc n 49 [] [a0, b1] =
 .br (((a0.fld 0).toInt) != ((b1.fld 0).toInt)) (.ret [D.bool false])
 (.call 17 [] [a0.fld 1, b1.fld 1] fun yy1 =>
 .br (!((yy1.getD 0 D.nil).toBool)) (.ret [D.bool false])
 (.br ((((a0.fld 2).els).length : Int) != (((b1.fld 2).els).length : Int)) (.ret [D.bool false])
 (ref08_Same_l4 n n 0 a0 b1))) := by kernel_rfl

/-! scrim/scrimref08.Cell -/
def ref08_Cell_orc : List (Nat × Orc) := []
theorem ref08_Cell_tree (n : Nat) (c0 : D) (deep1 : D) : evFun Tryz.prog md ref08_Cell_orc n 50 [] [c0, deep1] =
 .br (((c0.fld 1).toInt) == 0) (.br (((c0.fld 3).toInt) == 0) (.br ((((c0.fld 4).els).length : Int) == 0) (.call 24 [] [c0.fld 2] fun yy1 =>
 .ret [D.bool ((yy1.getD 0 D.nil).toBool)])
 (.ret [D.bool false]))
 (.ret [D.bool false]))
 (.br (((c0.fld 1).toInt) == 1) (.call 102 [] [c0.fld 2] fun yy2 =>
 .br ((yy2.getD 0 D.nil).toBool) (.br ((((c0.fld 4).els).length : Int) == 0) (.call 103 [] [D.int ((c0.fld 3).toInt)] fun yy3 =>
 .ret [D.bool ((yy3.getD 0 D.nil).toBool)])
 (.ret [D.bool false]))
 (.ret [D.bool false]))
 (.br (((c0.fld 1).toInt) == 2) (.call 102 [] [c0.fld 2] fun yy4 =>
 .br ((yy4.getD 0 D.nil).toBool) (.br (((c0.fld 3).toInt) == 0) (.br ((((c0.fld 4).els).length : Int) == 1) (.br (decide (0 < deep1.toInt)) (.br (decide (0 ≤ 0)) (.br (decide (0 < (((c0.fld 4).els).length : Int))) (.call 104 [] [((c0.fld 4).els).getD (Int.toNat 0) D.nil] fun yy5 =>
 .br (!((yy5.getD 0 D.nil).toBool)) (.br (decide (0 ≤ 0)) (.br (decide (0 < (((c0.fld 4).els).length : Int))) (.call 16 [] [((c0.fld 4).els).getD (Int.toNat 0) D.nil, D.int (IntKind.wrap .i64 (deep1.toInt - 1))] fun yy6 =>
 .ret [D.bool ((yy6.getD 0 D.nil).toBool)]) .fail) .fail)
 (.ret [D.bool false])) .fail) .fail)
 (.ret [D.bool false]))
 (.ret [D.bool false]))
 (.ret [D.bool false]))
 (.ret [D.bool false]))
 (.ret [D.bool false]))) := by kernel_rfl

/-! scrim/scrimref08.left -/
def ref08_left_orc : List (Nat × Orc) := [(5, ⟨[(1, none), (2, none), (3, none), (7, none)], [(3, true)], []⟩), (9, ⟨[(1, none), (2, none), (3, none), (7, none), (8, none)], [(3, true)], []⟩)]
def ref08_left_ps : List Nat := [26, 3, 3]
def ref08_left_rs : List ResultVar := [.tmp 6]
def ref08_left_ts : List Nat := [3]
noncomputable def ref08_left_l9 (n m5 m9 : Nat) (deep1 : Int) (n2 : Int) (i7 : Int) (k8 : Int) (a3 : D) : Tree :=
  evLoop Tryz.prog md (ev Tryz.prog md n ref08_left_orc (cAt (bodyOf Tryz.prog 92) [1, 1, 1, 0, 1, 0, 0, 1, 0, 0, 1, 1, 0, 0])) (orcAt ref08_left_orc 9) m9 ⟨[.undef, .i .i64 deep1, .i .i64 n2, .ptr 3 [], .undef, .undef, .undef, .i .i64 i7, .i .i64 k8, .undef, .undef, .undef, .undef, .undef, .undef, .undef, .undef, .undef, .undef, .undef, .undef, .undef, .undef, .undef, .undef, .undef, .undef, .undef, .undef, .undef, .undef, .undef, .undef, .undef, .undef, .undef, .undef, .undef, .undef, .undef, .undef, .undef, .undef, .undef, .undef, .undef, .undef, .undef, .undef, .undef, .undef, .undef, .undef, .undef, .undef, .undef, .undef, .undef, .undef, .undef, .undef, .undef, .undef, .undef, .undef, .undef, .undef, .undef, .undef, .undef, .undef, .undef, .undef, .undef, .undef, .undef, .undef], [(3, .var 26 (.d 26 a3) true)], [3], [], []⟩
   (blockK 2 (blockK 1 (seqK (joinE Tryz.prog md (joinAt ref08_left_orc (cAt (bodyOf Tryz.prog 92) [1, 1, 1, 0, 1, 0, 0, 1, 1])) (ev Tryz.prog md n ref08_left_orc (cAt (bodyOf Tryz.prog 92) [1, 1, 1, 0, 1, 0, 0, 1, 1]))) (loopK Tryz.prog md (orcAt ref08_left_orc 5) (fun s1 => evLoop Tryz.prog md (ev Tryz.prog md n ref08_left_orc (cAt (bodyOf Tryz.prog 92) [1, 1, 1, 0, 1, 0, 0])) (orcAt ref08_left_orc 5) m5 s1 (blockK 0 (seqK (joinE Tryz.prog md (joinAt ref08_left_orc (cAt (bodyOf Tryz.prog 92) [1, 1, 1, 1])) (ev Tryz.prog md n ref08_left_orc (cAt (bodyOf Tryz.prog 92) [1, 1, 1, 1]))) (retK Tryz.prog md (md 92) ref08_left_ps ref08_left_rs ref08_left_ts)))) (blockK 0 (seqK (joinE Tryz.prog md (joinAt ref08_left_orc (cAt (bodyOf Tryz.prog 92) [1, 1, 1, 1])) (ev Tryz.prog md n ref08_left_orc (cAt (bodyOf Tryz.prog 92) [1, 1, 1, 1]))) (retK Tryz.prog md (md 92) ref08_left_ps ref08_left_rs ref08_left_ts)))))))
noncomputable def ref08_left_l5 (n m5 : Nat) (deep1 : Int) (n2 : Int) (i7 : Int) (a3 : D) : Tree :=
  evLoop Tryz.prog md (ev Tryz.prog md n ref08_left_orc (cAt (bodyOf Tryz.prog 92) [1, 1, 1, 0, 1, 0, 0])) (orcAt ref08_left_orc 5) m5 ⟨[.undef, .i .i64 deep1, .i .i64 n2, .ptr 3 [], .undef, .undef, .undef, .i .i64 i7, .undef, .undef, .undef, .undef, .undef, .undef, .undef, .undef, .undef, .undef, .undef, .undef, .undef, .undef, .undef, .undef, .undef, .undef, .undef, .undef, .undef, .undef, .undef, .undef, .undef, .undef, .undef, .undef, .undef, .undef, .undef, .undef, .undef, .undef, .undef, .undef, .undef, .undef, .undef, .undef, .undef, .undef, .undef, .undef, .undef, .undef, .undef, .undef, .undef, .undef, .undef, .undef, .undef, .undef, .undef, .undef, .undef, .undef, .undef, .undef, .undef, .undef, .undef, .undef, .undef, .undef, .undef, .undef, .undef], [(3, .var 26 (.d 26 a3) true)], [3], [], []⟩
   (blockK 0 (seqK (joinE Tryz.prog md (joinAt ref08_left_orc (cAt (bodyOf Tryz.prog 92) [1, 1, 1, 1])) (ev Tryz.prog md n ref08_left_orc (cAt (bodyOf Tryz.prog 92) [1, 1, 1, 1]))) (retK Tryz.prog md (md 92) ref08_left_ps ref08_left_rs ref08_left_ts)))
theorem ref08_left_l9_succ (n m5 m9 : Nat) (deep1 : Int) (n2 : Int) (i7 : Int) (k8 : Int) (a3 : D) : ref08_left_l9 n m5 (m9 + 1) deep1 n2 i7 k8 a3 =
 .br (decide (0 ≤ i7)) (.br (decide (i7 < (((a3.fld 2).els).length : Int))) (.br (decide (k8 < ((((((a3.fld 2).els).getD (Int.toNat i7) D.nil).fld 4).els).length : Int))) (.br (decide (0 ≤ n2)) (.br (decide (0 ≤ i7)) (.br (decide (i7 < (((a3.fld 2).els).length : Int))) (.br (decide (0 ≤ k8)) (.br (decide (k8 < ((((((a3.fld 2).els).getD (Int.toNat i7) D.nil).fld 4).els).length : Int))) (.call 92 [] [(((((a3.fld 2).els).getD (Int.toNat i7) D.nil).fld 4).els).getD (Int.toNat k8) D.nil, D.int (IntKind.wrap .i64 (deep1 - 1)), D.int n2] fun yy1 =>
 ref08_left_l9 n m5 m9 deep1 ((yy1.getD 0 D.nil).toInt) i7 (IntKind.wrap .i64 (k8 + 1)) a3) .fail) .fail) .fail) .fail)
 (ref08_left_l5 n m5 deep1 n2 (IntKind.wrap .i64 (i7 + 1)) a3))
 (ref08_left_l5 n m5 deep1 n2 (IntKind.wrap .i64 (i7 + 1)) a3)) .fail) .fail := by kernel_rfl
theorem ref08_left_l5_succ (n m5 : Nat) (deep1 : Int) (n2 : Int) (i7 : Int) (a3 : D) : ref08_left_l5 n (m5 + 1) deep1 n2 i7 a3 =
 .br (decide (i7 < (((a3.fld 2).els).length : Int))) (.br (decide (0 ≤ n2)) (.br (decide (0 ≤ i7)) (.br (decide (i7 < (((a3.fld 2).els).length : Int))) (.br (decide (0 ≤ i7)) (.br (decide (i7 < (((a3.fld 2).els).length : Int))) (ref08_left_l9 n m5 n deep1 (IntKind.wrap .i64 ((IntKind.wrap .i64 ((IntKind.wrap .i64 (n2 - 1)) - (((((((a3.fld 2).els).getD (Int.toNat i7) D.nil).fld 2).fld 1).els).length : Int))) - (((((((a3.fld 2).els).getD (Int.toNat i7) D.nil).fld 2).fld 2).els).length : Int))) i7 0 a3) .fail) .fail) .fail) .fail)
 (.ret [D.int n2]))
 (.ret [D.int n2]) := by kernel_rfl
theorem ref08_left_tree (n : Nat) (a0 : D) (deep1 : D) (n2 : D) : evFun Tryz.prog md ref08_left_orc n 92 [] [a0, deep1, n2] =
 .br (deep1.toInt == 0) (.ret [D.int (-1)])
 (ref08_left_l5 n n deep1.toInt (IntKind.wrap .i64 ((IntKind.wrap .i64 (n2.toInt - 1)) - (((a0.fld 1).els).length : Int))) 0 a0) := by kernel_rfl

/-! scrim/scrimref08.SameCell -/
def ref08_SameCell_orc : List (Nat × Orc) := [(4, ⟨[(2, none), (3, none), (5, none)], [(2, true), (3, true)], []⟩)]
def ref08_SameCell_ps : List Nat := [66, 66]
def ref08_SameCell_rs : List ResultVar := [.tmp 4]
def ref08_SameCell_ts : List Nat := [4]
noncomputable def ref08_SameCell_l4 (n m4 : Nat) (i5 : Int) (a2 : D) (b3 : D) : Tree :=
  evLoop Tryz.prog md (ev Tryz.prog md n ref08_SameCell_orc (cAt (bodyOf Tryz.prog 101) [1, 1, 0, 1, 0, 0])) (orcAt ref08_SameCell_orc 4) m4 ⟨[.undef, .undef, .ptr 2 [], .ptr 3 [], .undef, .i .i64 i5, .undef, .undef, .undef, .undef, .undef, .undef, .undef, .undef, .undef, .undef, .undef, .undef, .undef, .undef, .undef, .undef, .undef, .undef, .undef, .undef, .undef, .undef, .undef, .undef, .undef, .undef, .undef, .undef, .undef, .undef, .undef, .undef, .undef, .undef, .undef, .undef, .undef, .undef, .undef, .undef, .undef, .undef, .undef, .undef, .undef, .undef, .undef, .undef, .undef, .undef, .undef, .undef, .undef, .undef, .undef], [(2, .var 66 (.d 66 a2) true), (3, .var 66 (.d 66 b3) true)], [2, 3], [], []⟩
   (blockK 0 (seqK (joinE Tryz.prog md (joinAt ref08_SameCell_orc (cAt (bodyOf Tryz.prog 101) [1, 1, 1])) (ev Tryz.prog md n ref08_SameCell_orc (cAt (bodyOf Tryz.prog 101) [1, 1, 1]))) (retK Tryz.prog md (md 101) ref08_SameCell_ps ref08_SameCell_rs ref08_SameCell_ts)))
theorem ref08_SameCell_l4_succ (n m4 : Nat) (i5 : Int) (a2 : D) (b3 : D) : ref08_SameCell_l4 n (m4 + 1) i5 a2 b3 =
 .br (decide (i5 < (((a2.fld 4).els).length : Int))) (.br (decide (0 ≤ i5)) (.br (decide (i5 < (((a2.fld 4).els).length : Int))) (.br (decide (0 ≤ i5)) (.br (decide (i5 < (((b3.fld 4).els).length : Int))) (.call 49 [] [((a2.fld 4).els).getD (Int.toNat i5) D.nil, ((b3.fld 4).els).getD (Int.toNat i5) D.nil] fun yy2 =>
 .br (!((yy2.getD 0 D.nil).toBool)) (.ret [D.bool false])
 (ref08_SameCell_l4 n m4 (IntKind.wrap .i64 (i5 + 1)) a2 b3)) .fail) .fail) .fail) .fail)
 (.ret [D.bool true]) := by kernel_rfl
theorem ref08_SameCell_tree (n : Nat) (a0 : D) (b1 : D) : evFun Tryz.prog md ref08_SameCell_orc n 101 [] [a0, b1] =
 .br (((a0.fld 0).toInt) != ((b1.fld 0).toInt)) (.ret [D.bool false])
 (.br (((a0.fld 1).toInt) != ((b1.fld 1).toInt)) (.ret [D.bool false])
 (.br (((a0.fld 3).toInt) != ((b1.fld 3).toInt)) (.ret [D.bool false])
 (.call 30 [] [a0.fld 2, b1.fld 2] fun yy1 =>
 .br (!((yy1.getD 0 D.nil).toBool)) (.ret [D.bool false])
 (.br ((((a0.fld 4).els).length : Int) != (((b1.fld 4).els).length : Int)) (.ret [D.bool false])
 (ref08_SameCell_l4 n n 0 a0 b1))))) := by kernel_rfl

/-! scrim/scrimref08.zero -/
def ref08_zero_orc : List (Nat × Orc) := []
theorem ref08_zero_tree (n : Nat) (n0 : D) : evFun Tryz.prog md ref08_zero_orc n 102 [] [n0] =
 .br (!((n0.fld 0).toBool)) (.br ((((n0.fld 1).els).length : Int) == 0) (.ret [D.bool ((((n0.fld 2).els).length : Int) == 0)])
 (.ret [D.bool false]))
 (.ret [D.bool false]) := by kernel_rfl

/-! scrim/scrimref08.Simple -/
def ref08_Simple_orc : List (Nat × Orc) := []
theorem ref08_Simple_tree (n : Nat) (a0 : D) : evFun Tryz.prog md ref08_Simple_orc n 104 [] [a0] =
 .br ((((a0.fld 1).els).length : Int) == 0) (.br ((((a0.fld 2).els).length : Int) == 1) (.br (decide (0 ≤ 0)) (.br (decide (0 < (((a0.fld 2).els).length : Int))) (.ret [D.bool ((((((a0.fld 2).els).getD (Int.toNat 0) D.nil).fld 1).toInt) != 2)]) .fail) .fail)
 (.ret [D.bool false]))
 (.ret [D.bool false]) := by kernel_rfl

end Go.Proofs.YtjmddikeadbmjaaGreat
set_option maxRecDepth 100000
namespace Go.Proofs.YtjmddikeadbmjaaGreat
/-! scrim/scrimref06.In -/
def ref06_In_orc : List (Nat × Orc) := [(2, ⟨[(0, some 23), (1, none), (5, none)], [], []⟩)]
def ref06_In_ps : List Nat := [23, 3]
def ref06_In_rs : List ResultVar := [.tmp 4]
def ref06_In_ts : List Nat := [4]
noncomputable def ref06_In_l2 (n m2 : Nat) (l0 : D) (n1 : Int) (i5 : Int) : Tree :=
  evLoop Tryz.prog md (ev Tryz.prog md n ref06_In_orc (cAt (bodyOf Tryz.prog 19) [1, 0, 1, 0, 0])) (orcAt ref06_In_orc 2) m2 ⟨[.d 23 l0, .i .i64 n1, .undef, .undef, .undef, .i .i64 i5, .undef, .undef, .undef, .undef, .undef, .undef, .undef, .undef, .undef, .undef, .undef, .undef], [], [], [], []⟩
   (blockK 0 (seqK (joinE Tryz.prog md (joinAt ref06_In_orc (cAt (bodyOf Tryz.prog 19) [1, 1])) (ev Tryz.prog md n ref06_In_orc (cAt (bodyOf Tryz.prog 19) [1, 1]))) (retK Tryz.prog md (md 19) ref06_In_ps ref06_In_rs ref06_In_ts)))
theorem ref06_In_l2_succ (n m2 : Nat) (l0 : D) (n1 : Int) (i5 : Int) : ref06_In_l2 n (m2 + 1) l0 n1 i5 =
 .br (decide (i5 < (l0.els.length : Int))) (.br (decide (0 ≤ i5)) (.br (decide (i5 < (l0.els.length : Int))) (.br (((l0.els.getD (Int.toNat i5) D.nil).toInt) == n1) (.ret [D.bool true])
 (ref06_In_l2 n m2 l0 n1 (IntKind.wrap .i64 (i5 + 1)))) .fail) .fail)
 (.ret [D.bool false]) := by kernel_rfl
theorem ref06_In_tree (n : Nat) (l0 : D) (n1 : D) : evFun Tryz.prog md ref06_In_orc n 19 [] [l0, n1] =
 ref06_In_l2 n n l0 n1.toInt 0 := by kernel_rfl

/-! scrim/scrimref06.May -/
def ref06_May_orc : List (Nat × Orc) := []
theorem ref06_May_tree (n : Nat) (c0 : D) : evFun Tryz.prog md ref06_May_orc n 103 [] [c0] =
 .br (decide (0 ≤ c0.toInt)) (.br (decide (c0.toInt ≤ 1114111)) (.br (decide (c0.toInt < 55296)) (.ret [D.bool true])
 (.ret [D.bool (decide (57343 < c0.toInt))]))
 (.ret [D.bool false]))
 (.ret [D.bool false]) := by kernel_rfl

end Go.Proofs.YtjmddikeadbmjaaGreat
set_option maxRecDepth 100000
namespace Go.Proofs.YtjmddikeadbmjaaGreat

theorem bigFuel : ∃ N : Nat, 9223372036854775808 < N := ⟨9223372036854775809, by decide⟩
/-- A loop along a list, whatever is told at its end. -/
theorem loop_any {α σ : Type} {P : Program} {md : Nat → FMode} {Q : List D → Prop} (xs : List α) (L : Nat → Nat → σ → Tree) (I : List α → σ → Prop)
    (hnil : ∀ m k s, k = xs.length → I [] s → (L (m + 1) k s).wp P md Q)
    (hcons : ∀ m k s x rest, xs.drop k = x :: rest → I (x :: rest) s → (∀ s', I rest s' → (L m (k + 1) s').wp P md Q) → (L (m + 1) k s).wp P md Q) :
    ∀ m k s, xs.length - k < m → k ≤ xs.length → I (xs.drop k) s → (L m k s).wp P md Q := by
  intro m
  induction m with
  | zero => intro k s h; omega
  | succ m ih =>
    intro k s h1 h2 hI
    cases hd : xs.drop k with
    | nil => rw [hd] at hI; exact hnil m k s (by have := drop_nil hd; omega) hI
    | cons x rest =>
      rw [hd] at hI
      obtain ⟨a1, a2, a3⟩ := drop_cons hd
      exact hcons m k s x rest hd hI (fun s' hI' => ih (k + 1) s' (by omega) (by omega) (by rw [a3]; exact hI'))
/-- The product of lengths; 0 if it is too great. -/
def prodS : List Int → Int → Int
  | [], p => p
  | x :: xs, p => if 2048 < p * x then 0 else prodS xs (p * x)
/-- How many cells; an error. -/
def countS (l : List Int) : Int × Int :=
  if 6 < l.length then (0, 7) else if l.any (fun x => decide (x < 0)) then (0, 3) else if l.any (fun x => decide (2048 < x)) then (0, 7)
  else if l.any (fun x => decide (x = 0)) then (0, 0) else if prodS l 1 = 0 then (0, 7) else (prodS l 1, 0)
theorem prod_le {x y : Int} (h1 : 1 ≤ x) (h2 : x ≤ 2048) (h3 : 1 ≤ y) (h4 : y ≤ 2048) : 1 ≤ x * y ∧ x * y ≤ 4194304 := by
  constructor
  · have := Int.mul_le_mul h1 h3 (by omega) (by omega); omega
  · have := Int.mul_le_mul h2 h4 (by omega) (by omega); omega
theorem prodS_pos : ∀ (l : List Int) (p : Int), 1 ≤ p → p ≤ 2048 → (∀ x ∈ l, 1 ≤ x ∧ x ≤ 2048) → 0 ≤ prodS l p ∧ prodS l p ≤ 2048
  | [], p, h1, h2, _ => by simp only [prodS]; omega
  | x :: xs, p, h1, h2, h => by
    simp only [prodS]
    have hx := h x (by simp)
    have := prod_le h1 h2 hx.1 hx.2
    split
    · omega
    · exact prodS_pos xs (p * x) this.1 (by omega) (fun y hy => h y (by simp [hy]))
theorem any_false {l : List Int} {p : Int → Bool} (h : ¬ l.any p = true) : ∀ x ∈ l, p x = false := fun x hx => by
  cases hp : p x with
  | false => rfl
  | true => exact absurd (List.any_eq_true.2 ⟨x, hx, hp⟩) h
theorem count_pos {l : List Int} (h1 : ¬ l.any (fun x => decide (x < 0)) = true) (h2 : ¬ l.any (fun x => decide (2048 < x)) = true) (h3 : ¬ l.any (fun x => decide (x = 0)) = true) : ∀ x ∈ l, 1 ≤ x ∧ x ≤ 2048 := fun x hx => by
  have a := of_decide_eq_false (any_false h1 x hx)
  have b := of_decide_eq_false (any_false h2 x hx)
  have c := of_decide_eq_false (any_false h3 x hx)
  omega
theorem countS_le (l : List Int) : 0 ≤ (countS l).1 ∧ (countS l).1 ≤ 2048 := by
  unfold countS
  split
  · decide
  split
  · decide
  split
  · decide
  split
  · decide
  split
  · decide
  · rename_i h1 h2 h3 h4 _; exact prodS_pos l 1 (by decide) (by decide) (count_pos h2 h3 h4)
theorem countS_len {l : List Int} (h : (countS l).2 = 0) : l.length ≤ 6 ∧ ∀ x ∈ l, 0 ≤ x ∧ x ≤ 2048 := by
  unfold countS at h
  split at h
  · cases h
  split at h
  · cases h
  split at h
  · cases h
  · rename_i h1 h2 h3
    refine ⟨by omega, fun x hx => ?_⟩
    have a := of_decide_eq_false (any_false h2 x hx)
    have b := of_decide_eq_false (any_false h3 x hx)
    omega
/-- The first place of one that is asked for. -/
def idxD (p : Int → Bool) : Nat → List Int → Int
  | _, [] => -1
  | k, x :: xs => if p x then (k : Int) else idxD p (k + 1) xs
def cpD (p : Int) : List D := if p = 0 then [.int 0, .int 7] else [.int p, .int 0]
theorem prodS_cons (x : Int) (xs : List Int) (p : Int) : prodS (x :: xs) p = if 2048 < p * x then 0 else prodS xs (p * x) := rfl
theorem idxD_cons (p : Int → Bool) (k : Nat) (x : Int) (xs : List Int) : idxD p k (x :: xs) = if p x then (k : Int) else idxD p (k + 1) xs := rfl
theorem ref07_Count2 (N : Nat) (l : List Int) (hl : l.length < N) (hb : l.length ≤ 6) (hx : ∀ x ∈ l, 1 ≤ x ∧ x ≤ 2048) : Tw (ref07_Count_l17 N N (dI l) 1 0) (cpD (prodS l 1)) := by
  have key := loop_list (P := Tryz.prog) (md := md) l (fun m k (p : Int) => ref07_Count_l17 N m (dI l) p (k : Int)) (fun rest p => cpD (prodS rest p)) (fun _ p => 1 ≤ p ∧ p ≤ 2048)
    (fun m k p hk hI => by
      simp only [ref07_Count_l17_succ, els_dI, List.length_map]
      refine wp_ndec (by omega) (wp_ret ?_)
      show _ = cpD p
      rw [cpD, if_neg (by omega)])
    (fun m k p x rest hd hI ih => by
      obtain ⟨h1, h2, h3⟩ := drop_cons hd
      have hxx := hx x (List.mem_of_getElem? h2)
      have hp := prod_le hI.1 hI.2 hxx.1 hxx.2
      simp only [ref07_Count_l17_succ, els_dI, List.length_map, Int.toNat_natCast, getD_map h2, toInt_int, wrap_succ (show k < 9223372036854775807 by omega), wrap64 (x := p * x) (by omega) (by omega)]
      repeat (refine wp_dec (by omega) ?_)
      rw [prodS_cons]
      refine wp_decs (fun h => wp_ret ?_) (fun h => ?_)
      · rw [if_pos h]; rfl
      · rw [if_neg h]; exact ih _ ⟨hp.1, by omega⟩)
    N 0 1 (by omega) (by omega) (by decide)
  exact key
theorem ref07_Count_sp (l : List Int) : Sp 43 [dI l] [.int (countS l).1, .int (countS l).2] := by
  refine sound_ (l.length + 1) (ref07_Count_tree _ _) ?_
  simp only [els_dI, List.length_map]
  unfold countS
  refine wp_decs (fun h => wp_ret ?_) (fun h => ?_)
  · rw [if_pos (by omega)]
  · rw [if_neg (by omega)]
    have key := loop_list (P := Tryz.prog) (md := md) l (fun m k (s : Bool × Bool) => ref07_Count_l5 (l.length + 1) m (dI l) s.1 s.2 (k : Int))
      (fun rest s => if rest.any (fun x => decide (x < 0)) then [.int 0, .int 3] else if s.1 || rest.any (fun x => decide (2048 < x)) then [.int 0, .int 7] else if s.2 || rest.any (fun x => decide (x = 0)) then [.int 0, .int 0] else cpD (prodS l 1))
      (fun rest s => (∀ x ∈ l, (0 ≤ x ∧ (s.1 = true ∨ x ≤ 2048) ∧ (s.2 = true ∨ x ≠ 0)) ∨ x ∈ rest))
      (fun m k s hk hI => by
        simp only [ref07_Count_l5_succ, els_dI, List.length_map]
        refine wp_ndec (by omega) (wp_br (fun h1 => wp_ret ?_) (fun h1 => wp_br (fun h2 => wp_ret ?_) (fun h2 => ?_)))
        · simp [h1]
        · simp [h1, h2]
        · simp only [h1, h2, List.any_nil, Bool.or_self, Bool.false_eq_true, if_false]
          refine ref07_Count2 (l.length + 1) l (by omega) (by omega) (fun x hx => ?_)
          rcases hI x hx with ⟨a, b, c⟩ | b
          · rw [h1] at b; rw [h2] at c
            simp at b c
            omega
          · cases b)
      (fun m k s x rest hd hI ih => by
        obtain ⟨h1, h2, h3⟩ := drop_cons hd
        simp only [ref07_Count_l5_succ, els_dI, List.length_map, Int.toNat_natCast, getD_map h2, toInt_int, wrap_succ (show k < 9223372036854775807 by omega), int_beq]
        repeat (refine wp_dec (by omega) ?_)
        refine wp_decs (fun h => wp_ret ?_) (fun h => ?_)
        · simp [h]
        · have hih : ∀ s' : Bool × Bool, s' = (s.1 || decide (2048 < x), s.2 || decide (x = 0)) → Tw (ref07_Count_l5 (l.length + 1) m (dI l) s'.1 s'.2 ((k + 1 : Nat) : Int)) (if (x :: rest).any (fun x => decide (x < 0)) then [.int 0, .int 3] else if s.1 || (x :: rest).any (fun x => decide (2048 < x)) then [.int 0, .int 7] else if s.2 || (x :: rest).any (fun x => decide (x = 0)) then [.int 0, .int 0] else cpD (prodS l 1)) := fun s' hs' => by
            have := ih s' (fun y hy => by
              subst hs'
              rcases hI y hy with ⟨a, b, c⟩ | b
              · refine .inl ⟨a, ?_, ?_⟩
                · rcases b with b | b
                  · left; simp [b]
                  · right; exact b
                · rcases c with b | b
                  · left; simp [b]
                  · right; exact b
              · rcases List.mem_cons.1 b with rfl | b
                · left
                  refine ⟨by omega, ?_, ?_⟩
                  · by_cases hh : 2048 < y
                    · left; simp [hh]
                    · right; omega
                  · by_cases hh : y = 0
                    · left; simp [hh]
                    · right; exact hh
                · exact .inr b)
            subst hs'
            rw [List.any_cons, List.any_cons, List.any_cons, decide_eq_false h, Bool.false_or, ← Bool.or_assoc, ← Bool.or_assoc]
            exact this
          refine wp_br (fun b1 => wp_br (fun b2 => ?_) (fun b2 => ?_)) (fun b1 => ?_)
          · exact hih (true, true) (by simp [b1, b2])
          · repeat (refine wp_dec (by omega) ?_)
            exact hih (true, decide (x = 0)) (by simp [b1, b2])
          · repeat (refine wp_dec (by omega) ?_)
            refine wp_br (fun b2 => ?_) (fun b2 => ?_)
            · exact hih (decide (2048 < x), true) (by simp [b1, b2])
            · repeat (refine wp_dec (by omega) ?_)
              exact hih (decide (2048 < x), decide (x = 0)) (by simp [b1, b2]))
      (l.length + 1) 0 (false, false) (by omega) (by omega) (fun x hx => .inr hx)
    have e : (fun (c : Int × Int) => [D.int c.1, D.int c.2]) (if l.any (fun x => decide (x < 0)) then (0, 3) else if l.any (fun x => decide (2048 < x)) then (0, 7)
      else if l.any (fun x => decide (x = 0)) then (0, 0) else if prodS l 1 = 0 then (0, 7) else (prodS l 1, 0)) = (if l.any (fun x => decide (x < 0)) then [.int 0, .int 3] else if false || l.any (fun x => decide (2048 < x)) then [.int 0, .int 7] else if false || l.any (fun x => decide (x = 0)) then [.int 0, .int 0] else cpD (prodS l 1)) := by
      simp only [Bool.false_or]
      split
      · rfl
      split
      · rfl
      split
      · rfl
      show _ = cpD _
      unfold cpD
      split <;> rfl
    show Tw _ ((fun (c : Int × Int) => [D.int c.1, D.int c.2]) _)
    rw [e]
    exact key
theorem idxD_any (p : Int → Bool) : ∀ (l : List Int) (k : Nat), decide (0 ≤ idxD p k l) = l.any p
  | [], k => by simp [idxD]
  | x :: xs, k => by
    rw [idxD_cons, List.any_cons]
    by_cases hp : p x = true
    · rw [if_pos hp]; simp [hp]
    · rw [if_neg hp, idxD_any p xs (k + 1)]; simp [hp]
theorem ref07_Ints_sp (a b : List Int) (ha : a.length ≤ 9223372036854775807) : Sp 17 [dI a, dI b] [.bool (decide (a = b))] := by
  refine sound_ (a.length + 1) (ref07_Ints_tree _ _ _) ?_
  simp only [els_dI, List.length_map, int_bne]
  refine wp_decs (fun h => wp_ret ?_) (fun h => ?_)
  · rw [decide_eq_false]; rintro rfl; exact h rfl
  · exact eq_loop D.int dint_inj a b (by omega) ha (fun m i => ref07_Ints_l4 (a.length + 1) m (dI a) (dI b) i) (fun m i => ref07_Ints_l4_succ _ _ _ _ _)
def mayC (c : Int) : Bool := decide (0 ≤ c ∧ c ≤ 1114111 ∧ (c < 55296 ∨ 57343 < c))
theorem may_tree (c : Int) : Tw (.br (decide (0 ≤ c)) (.br (decide (c ≤ 1114111)) (.br (decide (c < 55296)) (.ret [D.bool true]) (.ret [D.bool (decide (57343 < c))])) (.ret [D.bool false])) (.ret [D.bool false])) [.bool (mayC c)] := by
  unfold mayC
  refine wp_decs (fun h1 => wp_decs (fun h2 => wp_decs (fun h3 => wp_ret ?_) (fun h3 => wp_ret ?_)) (fun h2 => wp_ret ?_)) (fun h1 => wp_ret ?_)
  · rw [decide_eq_true (by omega)]
  · congr 2; rw [decide_eq_decide]; omega
  · rw [decide_eq_false (by omega)]
  · rw [decide_eq_false (by omega)]
theorem ref06_May_sp (c : Int) : Sp 103 [.int c] [.bool (mayC c)] := sound_ 0 (ref06_May_tree _ _) (may_tree c)
end Go.Proofs.YtjmddikeadbmjaaGreat
set_option maxRecDepth 100000
namespace Go.Proofs.YtjmddikeadbmjaaGreat
open Go.ChangeShapes Go.WideShapes Go.ChangeAt Go.RowKit

theorem len3 {α : Type} {l : List α} (h : l.length = 3) : ∃ a b c, l = [a, b, c] := by
  match l, h with
  | [a, b, c], _ => exact ⟨a, b, c, rfl⟩
theorem len5 {α : Type} {l : List α} (h : l.length = 5) : ∃ a b c d e, l = [a, b, c, d, e] := by
  match l, h with
  | [a, b, c, d, e], _ => exact ⟨a, b, c, d, e, rfl⟩
/-- No list of an array is longer than it can be; lengths of axes are ints. -/
inductive Fits : Arr → Prop where
  | mk {s : Lab} {sh : List Int} {cs : List Cell} (h1 : sh.length ≤ maxLen) (h2 : cs.length ≤ maxLen) (h3 : ∀ c ∈ cs, c.n.top.length ≤ maxLen ∧ c.n.bot.length ≤ maxLen ∧ c.inn.length ≤ maxLen) (h5 : ∀ x ∈ sh, -9223372036854775808 ≤ x ∧ x ≤ 9223372036854775807)
      (h4 : ∀ c ∈ cs, ∀ x ∈ c.inn, Fits x) : Fits (.mk s sh cs)
theorem fields_Num : (fieldsOf Tryz.prog 44).map (fun fs => fs.map (·.type)) = some [4, 42, 42] := by kernel_rfl
theorem fields_Cell : (fieldsOf Tryz.prog 66).map (fun fs => fs.map (·.type)) = some [22, 3, 44, 3, 64] := by kernel_rfl
theorem fields_Array : (fieldsOf Tryz.prog 26).map (fun fs => fs.map (·.type)) = some [22, 23, 24] := by kernel_rfl
theorem types_at {fs : List Field} {ts : List Nat} (h : fs.map (·.type) = ts) {i t : Nat} (ht : ts[i]? = some t) : ∃ f, fs[i]? = some f ∧ f.type = t := by
  subst h
  simpa [List.getElem?_map, Option.map_eq_some_iff] using ht
theorem rd_num {w : World} {M : Nat → Prop} {y : D} {c : Nat → Option Value} (h : RdC Tryz.prog md w M (.ty 44) y c) : ∃ n, y = dN n ∧ n.top.length ≤ maxLen ∧ n.bot.length ≤ maxLen := by
  obtain ⟨fs, hf, ht⟩ := Option.map_eq_some_iff.1 fields_Num
  obtain ⟨ds, rfl, hl, hh⟩ := rd_struct h hf
  have : fs.length = 3 := by rw [← List.length_map (f := (·.type)), ht]; rfl
  obtain ⟨a, b, c, rfl⟩ := len3 (by rw [hl, this])
  obtain ⟨f0, hf0, e0⟩ := types_at ht (i := 0) rfl
  obtain ⟨f1, hf1, e1⟩ := types_at ht (i := 1) rfl
  obtain ⟨f2, hf2, e2⟩ := types_at ht (i := 2) rfl
  obtain ⟨_, h0⟩ := hh 0 f0 a hf0 rfl
  obtain ⟨_, h1⟩ := hh 1 f1 b hf1 rfl
  obtain ⟨_, h2⟩ := hh 2 f2 c hf2 rfl
  rw [e0] at h0; rw [e1] at h1; rw [e2] at h2
  obtain ⟨n, rfl⟩ := rd_bool h0 (by kernel_rfl)
  obtain ⟨t, rfl, l1⟩ := rd_limbs h1 (e := 110) (by kernel_rfl) (by kernel_rfl)
  obtain ⟨t', rfl, l2⟩ := rd_limbs h2 (e := 110) (by kernel_rfl) (by kernel_rfl)
  exact ⟨⟨n, t, t'⟩, rfl, l1, l2⟩
mutual
def D.sz : D → Nat
  | .agg fs => 1 + D.szL fs | .sl es => 1 + D.szL es | _ => 0
def D.szL : List D → Nat
  | [] => 0 | x :: xs => 1 + x.sz + D.szL xs
end
theorem szL_mem : ∀ {l : List D} {x : D}, x ∈ l → x.sz < D.szL l
  | y :: ys, x, h => by
    rcases List.mem_cons.1 h with rfl | h
    · simp only [D.szL]; omega
    · have := szL_mem h; simp only [D.szL]; omega
theorem rd_arr : ∀ (k : Nat) {w : World} {M : Nat → Prop} {y : D} {c : Nat → Option Value}, y.sz < k → RdC Tryz.prog md w M (.ty 26) y c → ∃ a, y = dA a ∧ Fits a
  | 0, _, _, _, _, hk, _ => by omega
  | k + 1, w, M, y, c, hk, h => by
    obtain ⟨fs, hf, ht⟩ := Option.map_eq_some_iff.1 fields_Array
    obtain ⟨ds, rfl, hl, hh⟩ := rd_struct h hf
    have : fs.length = 3 := by rw [← List.length_map (f := (·.type)), ht]; rfl
    obtain ⟨a, b, c, rfl⟩ := len3 (by rw [hl, this])
    obtain ⟨f0, hf0, e0⟩ := types_at ht (i := 0) rfl
    obtain ⟨f1, hf1, e1⟩ := types_at ht (i := 1) rfl
    obtain ⟨f2, hf2, e2⟩ := types_at ht (i := 2) rfl
    obtain ⟨_, h0⟩ := hh 0 f0 a hf0 rfl
    obtain ⟨_, h1⟩ := hh 1 f1 b hf1 rfl
    obtain ⟨_, h2⟩ := hh 2 f2 c hf2 rfl
    rw [e0] at h0; rw [e1] at h1; rw [e2] at h2
    obtain ⟨s, rfl⟩ := rd_lab h0 (by kernel_rfl)
    obtain ⟨sh, rfl, l1, l1'⟩ := rd_ints h1 (e := 3) (by kernel_rfl) (by kernel_rfl)
    obtain ⟨es, rfl, l2, hes⟩ := rd_slc h2 (e := 66) (by kernel_rfl)
    have hsz : D.szL es < k := by simp only [D.sz, D.szL] at hk; omega
    have key : ∃ cs : List Cell, es = cs.map dC ∧ (∀ c ∈ cs, c.n.top.length ≤ maxLen ∧ c.n.bot.length ≤ maxLen ∧ c.inn.length ≤ maxLen) ∧ ∀ c ∈ cs, ∀ x ∈ c.inn, Fits x := by
      clear l2 h2 h hh h0 h1 hf0 hf1 hf2 e0 e1 e2 hl hk
      induction es with
      | nil => exact ⟨[], rfl, (fun _ h => by cases h), (fun _ h => by cases h)⟩
      | cons x es ih =>
        simp only [D.szL] at hsz
        obtain ⟨cs, rfl, g1, g2⟩ := ih (fun y hy => hes y (by simp [hy])) (by omega)
        obtain ⟨_, hx⟩ := hes x (by simp)
        obtain ⟨fs, hf, ht⟩ := Option.map_eq_some_iff.1 fields_Cell
        obtain ⟨ds, rfl, hl, hh⟩ := rd_struct hx hf
        have : fs.length = 5 := by rw [← List.length_map (f := (·.type)), ht]; rfl
        obtain ⟨a, b, c, d, e, rfl⟩ := len5 (by rw [hl, this])
        obtain ⟨f0, hf0, e0⟩ := types_at ht (i := 0) rfl
        obtain ⟨f1, hf1, e1⟩ := types_at ht (i := 1) rfl
        obtain ⟨f2, hf2, e2⟩ := types_at ht (i := 2) rfl
        obtain ⟨f3, hf3, e3⟩ := types_at ht (i := 3) rfl
        obtain ⟨f4, hf4, e4⟩ := types_at ht (i := 4) rfl
        obtain ⟨_, h0⟩ := hh 0 f0 a hf0 rfl
        obtain ⟨_, h1⟩ := hh 1 f1 b hf1 rfl
        obtain ⟨_, h2⟩ := hh 2 f2 c hf2 rfl
        obtain ⟨_, h3⟩ := hh 3 f3 d hf3 rfl
        obtain ⟨_, h4⟩ := hh 4 f4 e hf4 rfl
        rw [e0] at h0; rw [e1] at h1; rw [e2] at h2; rw [e3] at h3; rw [e4] at h4
        obtain ⟨l, rfl⟩ := rd_lab h0 (by kernel_rfl)
        obtain ⟨kd, rfl, _⟩ := rd_int h1 (k := .i64) (by kernel_rfl)
        obtain ⟨n, rfl, n1, n2⟩ := rd_num h2
        obtain ⟨ch, rfl, _⟩ := rd_int h3 (k := .i64) (by kernel_rfl)
        obtain ⟨as_, rfl, l4, has⟩ := rd_slc h4 (e := 26) (by kernel_rfl)
        have hsz4 : D.szL as_ < k := by simp only [D.sz, D.szL] at hsz; omega
        have key2 : ∃ bs : List Arr, as_ = bs.map dA ∧ ∀ x ∈ bs, Fits x := by
          clear h4 hh hx hes ih l4 hsz hl
          induction as_ with
          | nil => exact ⟨[], rfl, fun _ h => by cases h⟩
          | cons z zs ihz =>
            simp only [D.szL] at hsz4
            obtain ⟨bs, rfl, hb⟩ := ihz (fun y hy => has y (by simp [hy])) (by omega)
            obtain ⟨_, hz⟩ := has z (by simp)
            obtain ⟨a, rfl, ha⟩ := rd_arr k (by omega) hz
            exact ⟨a :: bs, rfl, fun y hy => by rcases List.mem_cons.1 hy with rfl | hy; exact ha; exact hb y hy⟩
        obtain ⟨bs, rfl, hb⟩ := key2
        refine ⟨⟨l, kd, n, ch, bs⟩ :: cs, by simp [dC_eq], fun c hc => ?_, fun c hc => ?_⟩
        · rcases List.mem_cons.1 hc with rfl | hc
          · exact ⟨n1, n2, by simpa using l4⟩
          · exact g1 c hc
        · rcases List.mem_cons.1 hc with rfl | hc
          · exact hb
          · exact g2 c hc
    obtain ⟨cs, rfl, g1, g2⟩ := key
    exact ⟨.mk s sh cs, (dA_mk s sh cs), .mk l1 (by simpa using l2) g1 l1' g2⟩
/-- An argument that is an array. -/
def lawTs : List Nat := [4, 3, 22, 110, 42, 23, 44, 66, 26, 64, 24]
theorem lawTs_plain : plainTs Tryz.prog lawTs = true := by kernel_rfl
section
variable {H : Type} {enc : TypeId × Value → H} {W : World} {sp : Nat → Bool} {held : Bool} {r : Reach} {b0 : Nat} {v : Value} {d : DataW H} {ps : List MemPlace}
theorem arg_arr (hval : Value.okWide Tryz.prog W r b0 26 v) (h : DataW.Trod enc Tryz.prog W 0 sp held 26 v d ps) : ∃ a, Fits a ∧ Rd Tryz.prog md W (fun _ => False) (.ty 26) (dA a) v := by
  obtain ⟨y, hy, hyw⟩ := arg_rd (md := md) wfP lawTs_plain (by decide) hval h
  obtain ⟨a, rfl, ha⟩ := rd_arr _ (Nat.lt_succ_self _) hy.rd
  exact ⟨a, ha, hy⟩
theorem arg_bool (hval : Value.okWide Tryz.prog W r b0 4 v) (h : DataW.Trod enc Tryz.prog W 0 sp held 4 v d ps) : ∃ a, Rd Tryz.prog md W (fun _ => False) (.ty 4) (.bool a) v := by
  obtain ⟨y, hy, hyw⟩ := arg_rd (md := md) wfP lawTs_plain (by decide) hval h
  obtain ⟨a, rfl⟩ := rd_bool hy.rd (by kernel_rfl)
  exact ⟨a, hy⟩
theorem arg_lab (hval : Value.okWide Tryz.prog W r b0 22 v) (h : DataW.Trod enc Tryz.prog W 0 sp held 22 v d ps) : ∃ a : Lab, Rd Tryz.prog md W (fun _ => False) (.ty 22) (dB a) v := by
  obtain ⟨y, hy, hyw⟩ := arg_rd (md := md) wfP lawTs_plain (by decide) hval h
  obtain ⟨a, rfl⟩ := rd_lab hy.rd (by kernel_rfl)
  exact ⟨a, hy⟩
theorem arg_int (hval : Value.okWide Tryz.prog W r b0 3 v) (h : DataW.Trod enc Tryz.prog W 0 sp held 3 v d ps) : ∃ a : Int, (-9223372036854775808 ≤ a ∧ a ≤ 9223372036854775807) ∧ Rd Tryz.prog md W (fun _ => False) (.ty 3) (.int a) v := by
  obtain ⟨y, hy, hyw⟩ := arg_rd (md := md) wfP lawTs_plain (by decide) hval h
  obtain ⟨a, rfl, h1, h2⟩ := rd_int hy.rd (k := .i64) (by kernel_rfl)
  exact ⟨a, ⟨h1, h2⟩, hy⟩
theorem arg_num (hval : Value.okWide Tryz.prog W r b0 44 v) (h : DataW.Trod enc Tryz.prog W 0 sp held 44 v d ps) : ∃ n : Num, (n.top.length ≤ maxLen ∧ n.bot.length ≤ maxLen) ∧ Rd Tryz.prog md W (fun _ => False) (.ty 44) (dN n) v := by
  obtain ⟨y, hy, hyw⟩ := arg_rd (md := md) wfP lawTs_plain (by decide) hval h
  obtain ⟨n, rfl, h1, h2⟩ := rd_num hy.rd
  exact ⟨n, ⟨h1, h2⟩, hy⟩
/-- An array that memory has room for. -/
def WFits (a : Arr) : Prop := Fits a ∧ (dA a).wok
theorem arg_arrw (hval : Value.okWide Tryz.prog W r b0 26 v) (h : DataW.Trod enc Tryz.prog W 0 sp held 26 v d ps) (hw : ∀ z ∈ d.weights Tryz.prog 26, z ≤ reachBytes) : ∃ a, WFits a ∧ Rd Tryz.prog md W (fun _ => False) (.ty 26) (dA a) v := by
  obtain ⟨y, hy, hyw⟩ := arg_rd (md := md) wfP lawTs_plain (by decide) hval h
  obtain ⟨a, rfl, ha⟩ := rd_arr _ (Nat.lt_succ_self _) hy.rd
  exact ⟨a, ⟨ha, hyw hw⟩, hy⟩
end
end Go.Proofs.YtjmddikeadbmjaaGreat
set_option maxRecDepth 100000
namespace Go.Proofs.YtjmddikeadbmjaaGreat

theorem Fits.len {a : Arr} (h : Fits a) : a.cells.length ≤ 9223372036854775807 := by cases h; assumption
theorem Fits.sh {a : Arr} (h : Fits a) : a.shape.length ≤ 9223372036854775807 := by cases h; assumption
theorem Fits.shR {a : Arr} (h : Fits a) : ∀ x ∈ a.shape, inR x := by cases h; assumption
/-- What a cell's lists may be. -/
def FitsC (c : Cell) : Prop := c.n.top.length ≤ 9223372036854775807 ∧ c.n.bot.length ≤ 9223372036854775807 ∧ c.inn.length ≤ 9223372036854775807 ∧ ∀ x ∈ c.inn, Fits x
theorem Fits.cell {a : Arr} (h : Fits a) : ∀ c ∈ a.cells, FitsC c := by
  cases h with
  | mk h1 h2 h3 h5 h4 => exact fun c hc => ⟨(h3 c hc).1, (h3 c hc).2.1, (h3 c hc).2.2, h4 c hc⟩
theorem Fits.of {s : Lab} {sh : List Int} {cs : List Cell} (h1 : sh.length ≤ 9223372036854775807) (h2 : cs.length ≤ 9223372036854775807) (h3 : ∀ x ∈ sh, inR x) (h4 : ∀ c ∈ cs, FitsC c) : Fits (.mk s sh cs) :=
  .mk h1 h2 (fun c hc => ⟨(h4 c hc).1, (h4 c hc).2.1, (h4 c hc).2.2.1⟩) h3 (fun c hc => (h4 c hc).2.2.2)

mutual
def totA : Arr → Lab
  | .mk s _ cs => totCs s cs
def totCs : Lab → List (CellF Arr) → Lab
  | l, [] => l
  | l, c :: cs => totCs (totC l c) cs
def totC : Lab → CellF Arr → Lab
  | l, ⟨cl, _, _, _, inn⟩ => totAs (l ||| cl) inn
def totAs : Lab → List Arr → Lab
  | l, [] => l
  | l, a :: as_ => totAs (l ||| totA a) as_
end
theorem totAs_fold : ∀ (as_ : List Arr) (l : Lab), totAs l as_ = as_.foldl (fun l x => l ||| totA x) l
  | [], l => by simp [totAs]
  | a :: as_, l => by simp [totAs, totAs_fold as_]
theorem totC_eq (l : Lab) (c : Cell) : totC l c = c.inn.foldl (fun l x => l ||| totA x) (l ||| c.l) := by cases c; rw [totC, totAs_fold]
theorem totCs_fold : ∀ (cs : List Cell) (l : Lab), totCs l cs = cs.foldl totC l
  | [], l => by simp [totCs]
  | c :: cs, l => by simp [totCs, totCs_fold cs]
theorem totA_eq (a : Arr) : totA a = a.cells.foldl totC a.s := by cases a; rw [totA, totCs_fold]; rfl

/-- One cell without axes that is no box. -/
def simpleA (a : Arr) : Bool := match a.shape, a.cells with
  | [], [c] => decide (¬ c.kind = 2)
  | _, _ => false
def boxOK (c : Cell) (r : Arr → Bool) : Bool := match c.inn with
  | [x] => !simpleA x && r x
  | _ => false
def cellR (k : Bool) (r : Arr → Bool) (c : Cell) : Bool :=
  if c.kind = 0 then decide (c.c = 0 ∧ c.inn.length = 0) && rightN c.n
  else if c.kind = 1 then decide (c.n = .zero ∧ c.inn.length = 0) && mayC c.c
  else decide (c.kind = 2 ∧ c.n = .zero ∧ c.c = 0) && (k && boxOK c r)
def rightA : Nat → Arr → Bool
  | 0, a => decide (countS a.shape = ((a.cells.length : Int), 0)) && a.cells.all (cellR false (fun _ => false))
  | d + 1, a => decide (countS a.shape = ((a.cells.length : Int), 0)) && a.cells.all (cellR true (rightA d))
def rightC : Nat → Cell → Bool
  | 0 => cellR false (fun _ => false)
  | d + 1 => cellR true (rightA d)
theorem rightA_eq (d : Nat) (a : Arr) : rightA d a = (decide (countS a.shape = ((a.cells.length : Int), 0)) && a.cells.all (rightC d)) := by cases d <;> rfl

theorem simple_tree {Q : List D → Prop} (a : Arr) (hq : Q [.bool (simpleA a)]) : (Tree.br (decide ((a.shape.length : Int) = 0)) (.br (decide ((a.cells.length : Int) = 1)) (.br (decide (0 ≤ (0 : Int))) (.br (decide (0 < (a.cells.length : Int))) (.ret [D.bool (decide (¬ (((((a.cells.map dC).getD (Int.toNat 0) D.nil).fld 1).toInt) = 2)))]) .fail) .fail) (.ret [D.bool false])) (.ret [D.bool false])).wp Tryz.prog md Q := by
  unfold simpleA at hq
  refine wp_decs (fun h1 => wp_decs (fun h2 => ?_) (fun h2 => wp_ret ?_)) (fun h1 => wp_ret ?_)
  · match hs : a.shape, hc : a.cells with
    | [], [c] =>
      rw [hs, hc] at hq
      exact wp_dec (by omega) (wp_dec (by simp) (wp_ret (by simpa [Int.toNat] using hq)))
    | x :: xs, _ => rw [hs] at h1; simp at h1; omega
    | _, [] => rw [hc] at h2; simp at h2
    | _, x :: y :: xs => rw [hc] at h2; simp at h2; omega
  · match hs : a.shape, hc : a.cells with
    | [], [c] => rw [hc] at h2; simp at h2
    | x :: xs, _ => rw [hs] at hq; exact hq
    | [], [] => rw [hs, hc] at hq; exact hq
    | [], x :: y :: xs => rw [hs, hc] at hq; exact hq
  · match hs : a.shape, hc : a.cells with
    | [], _ => rw [hs] at h1; simp at h1
    | x :: xs, _ => rw [hs] at hq; exact hq
theorem ref08_Simple_sp (a : Arr) : Sp 104 [dA a] [.bool (simpleA a)] := by
  refine sound_ 0 (ref08_Simple_tree _ _) ?_
  simp only [dA_0, dA_1, dA_2, dC_0, dC_1, dC_2, dC_3, dC_4, dN_0, dN_1, dN_2, els_sl, els_dI, els_dL, List.length_map, Int.toNat_natCast, toInt_int, toInt_dB, toBool_bool, getD_c0, getD_c1, int_beq, int_bne, not_dec, dInt_dB, Int.toNat_zero]
  exact simple_tree a rfl
theorem ref08_zero_sp (n : Num) : Sp 102 [dN n] [.bool (decide (n = .zero))] := by
  refine sound_ 0 (ref08_zero_tree _ _) ?_
  simp only [dN_0, dN_1, dN_2, els_dL, List.length_map, toBool_bool, int_beq]
  have e : (n = Num.zero) ↔ (n.neg = false ∧ n.top.length = 0 ∧ n.bot.length = 0) := by
    rw [num_eq, List.length_eq_zero_iff, List.length_eq_zero_iff]; rfl
  refine wp_br (fun h1 => wp_decs (fun h2 => wp_ret ?_) (fun h2 => wp_ret ?_)) (fun h1 => wp_ret ?_)
  · congr 2; rw [decide_eq_decide, e]; exact ⟨fun h => ⟨by simpa using h1, by omega, by omega⟩, fun h => by omega⟩
  · rw [decide_eq_false]; rw [e]; omega
  · rw [decide_eq_false]; rw [e]; simp at h1; simp [h1]
theorem ref08_Cell_step (d : Nat) (c : Cell) (hc : FitsC c) (hd : d ≤ 100) (ih : ∀ e, e + 1 = d → ∀ a, Fits a → Sp 16 [dA a, .int (e : Int)] [.bool (rightA e a)]) : Sp 50 [dC c, .int (d : Int)] [.bool (rightC d c)] := by
  suffices key : ∀ (k : Bool) (r : Arr → Bool), (k = true ↔ 0 < d) → (∀ a, k = true → Fits a → Sp 16 [dA a, .int ((d : Int) - 1)] [.bool (r a)]) → Sp 50 [dC c, .int (d : Int)] [.bool (cellR k r c)] by
    cases d with
    | zero => exact key false (fun _ => false) (by simp) (by simp)
    | succ e => exact key true (rightA e) (by simp) (fun a _ ha => by have := ih e rfl a ha; simpa using this)
  intro k r hk hr
  refine sound_ 0 (ref08_Cell_tree _ _ _) ?_
  simp only [dA_0, dA_1, dA_2, dC_0, dC_1, dC_2, dC_3, dC_4, dN_0, dN_1, dN_2, els_sl, els_dI, els_dL, List.length_map, Int.toNat_natCast, toInt_int, toInt_dB, toBool_bool, getD_c0, getD_c1, int_beq, int_bne, not_dec, dInt_dB, Int.toNat_zero]
  unfold cellR
  refine wp_decs (fun h0 => ?_) (fun h0 => ?_)
  · rw [if_pos h0]
    refine wp_decs (fun h1 => wp_decs (fun h2 => wp_call (ref04_Right_sp c.n) (wp_ret ?_)) (fun h2 => wp_ret ?_)) (fun h1 => wp_ret ?_)
    · rw [decide_eq_true ⟨h1, by omega⟩]; rfl
    · rw [decide_eq_false (by omega)]; rfl
    · rw [decide_eq_false (by omega)]; rfl
  rw [if_neg h0]
  refine wp_decs (fun h0 => wp_call (ref08_zero_sp c.n) ?_) (fun h0 => ?_)
  · rw [if_pos h0]
    simp only [getD_c0, toBool_bool]
    refine wp_decs (fun h1 => wp_decs (fun h2 => wp_call (ref06_May_sp c.c) (wp_ret ?_)) (fun h2 => wp_ret ?_)) (fun h1 => wp_ret ?_)
    · rw [decide_eq_true ⟨h1, by omega⟩]; rfl
    · rw [decide_eq_false (fun hh => h2 (by omega))]; rfl
    · rw [decide_eq_false (fun hh => h1 hh.1)]; rfl
  rw [if_neg h0]
  refine wp_decs (fun h0 => wp_call (ref08_zero_sp c.n) ?_) (fun h0 => wp_ret (by rw [decide_eq_false (fun hh => h0 hh.1)]; rfl))
  simp only [getD_c0, toBool_bool]
  refine wp_decs (fun h1 => wp_decs (fun h2 => wp_decs (fun h3 => wp_decs (fun h4 => ?_) (fun h4 => wp_ret ?_)) (fun h3 => wp_ret ?_)) (fun h2 => wp_ret ?_)) (fun h1 => wp_ret ?_)
  · have hkt := hk.2 (by omega)
    rw [show decide (c.kind = 2 ∧ c.n = .zero ∧ c.c = 0) = true from decide_eq_true ⟨h0, h1, h2⟩, hkt, Bool.true_and, Bool.true_and]
    unfold boxOK
    match hi : c.inn with
    | [] => rw [hi] at h3; simp at h3
    | x :: y :: xs => rw [hi] at h3; simp at h3; omega
    | [x] =>
      simp only [List.map_cons, List.map_nil, Int.toNat_zero, getD_c0, List.length_cons, List.length_nil]
      refine wp_dec (by omega) (wp_dec (by omega) (wp_call (ref08_Simple_sp x) ?_))
      simp only [getD_c0, toBool_bool]
      refine wp_br (fun h5 => wp_dec (by omega) (wp_dec (by omega) ?_)) (fun h5 => wp_ret (by rw [h5]; rfl))
      rw [wrap64 (by omega) (by omega)]
      refine wp_call (hr x hkt (hc.2.2.2 x (by rw [hi]; simp))) (wp_ret ?_)
      rw [h5]; rfl
  · have : k = false := by cases k with
      | false => rfl
      | true => exact absurd (hk.1 rfl) (by omega)
    rw [this, Bool.false_and, Bool.and_false]
  · have : boxOK c r = false := by
      unfold boxOK
      match hi : c.inn with
      | [] => rfl
      | x :: y :: xs => rfl
      | [x] => rw [hi] at h3; simp at h3
    rw [this, Bool.and_false, Bool.and_false]
  · rw [decide_eq_false (fun hh => h2 hh.2.2)]; rfl
  · rw [decide_eq_false (fun hh => h1 hh.2.1)]; rfl
theorem ref08_Right_step (d : Nat) (a : Arr) (ha : Fits a) (ih : ∀ c, FitsC c → Sp 50 [dC c, .int (d : Int)] [.bool (rightC d c)]) : Sp 16 [dA a, .int (d : Int)] [.bool (rightA d a)] := by
  have hl := ha.len
  refine sound_ (a.cells.length + 1) (ref08_Right_tree _ _ _) ?_
  simp only [dA_0, dA_1, dA_2, dC_0, dC_1, dC_2, dC_3, dC_4, dN_0, dN_1, dN_2, els_sl, els_dI, els_dL, List.length_map, Int.toNat_natCast, toInt_int, toInt_dB, toBool_bool, getD_c0, getD_c1, int_beq, int_bne, not_dec, dInt_dB, Int.toNat_zero]
  refine wp_call (ref07_Count_sp a.shape) ?_
  rw [rightA_eq]
  simp only [getD_c0, getD_c1, toInt_int]
  refine wp_decs (fun h => wp_ret ?_) (fun h => wp_decs (fun h' => wp_ret ?_) (fun h' => ?_))
  · rw [decide_eq_false]; rfl
    intro hh; rw [hh] at h; exact h rfl
  · rw [decide_eq_false]; rfl
    intro hh; rw [hh] at h'; exact h' rfl
  · have hc : countS a.shape = ((a.cells.length : Int), 0) := Prod.ext (by simpa using h') (by simpa using h)
    rw [hc, decide_eq_true rfl, Bool.true_and]
    have key := loop_list (P := Tryz.prog) (md := md) a.cells (fun m k (_ : Unit) => ref08_Right_l5 (a.cells.length + 1) m (d : Int) (a.cells.length : Int) (k : Int) (dA a)) (fun rest _ => [.bool (rest.all (rightC d))]) (fun _ _ => True)
      (fun m k s hk _ => by
        simp only [ref08_Right_l5_succ]
        exact wp_ndec (by omega) (wp_ret rfl))
      (fun m k s x rest hd _ ih' => by
        obtain ⟨h1, h2, h3⟩ := drop_cons hd
        simp only [ref08_Right_l5_succ, dA_0, dA_1, dA_2, dC_0, dC_1, dC_2, dC_3, dC_4, dN_0, dN_1, dN_2, els_sl, els_dI, els_dL, List.length_map, Int.toNat_natCast, toInt_int, toInt_dB, toBool_bool, getD_c0, getD_c1, int_beq, int_bne, not_dec, dInt_dB, Int.toNat_zero, getD_map h2, wrap_succ (show k < 9223372036854775807 by omega)]
        repeat (refine wp_dec (by omega) ?_)
        refine wp_call (ih x (ha.cell x (List.mem_of_getElem? h2))) ?_
        simp only [getD_c0, toBool_bool, List.all_cons]
        refine wp_br (fun h4 => wp_ret ?_) (fun h4 => ?_)
        · simp at h4; rw [h4]; rfl
        · simp at h4; rw [h4, Bool.true_and]; exact ih' () trivial)
      (a.cells.length + 1) 0 () (by omega) (by omega) trivial
    exact key
theorem ref08_Right_all : ∀ d : Nat, d ≤ 100 → (∀ c, FitsC c → Sp 50 [dC c, .int (d : Int)] [.bool (rightC d c)]) ∧ ∀ a, Fits a → Sp 16 [dA a, .int (d : Int)] [.bool (rightA d a)]
  | 0, hd => by
    have hc : ∀ c, FitsC c → Sp 50 [dC c, .int ((0 : Nat) : Int)] [.bool (rightC 0 c)] := fun c hc => ref08_Cell_step 0 c hc hd (fun e he => by omega)
    exact ⟨hc, fun a ha => ref08_Right_step 0 a ha hc⟩
  | d + 1, hd => by
    have ih := ref08_Right_all d (by omega)
    have hc : ∀ c, FitsC c → Sp 50 [dC c, .int ((d + 1 : Nat) : Int)] [.bool (rightC (d + 1) c)] := fun c hc => ref08_Cell_step (d + 1) c hc hd (fun e he => by
      have : e = d := by omega
      subst this; exact ih.2)
    exact ⟨hc, fun a ha => ref08_Right_step (d + 1) a ha hc⟩
theorem ref08_Right_sp (a : Arr) (ha : Fits a) : Sp 16 [dA a, .int 8] [.bool (rightA 8 a)] := (ref08_Right_all 8 (by decide)).2 a ha
/-- How many of so many parts are left behind an array. -/
def w64 (x : Int) : Int := IntKind.wrap .i64 x
def leftAs (r : Arr → Int → Int) : List Arr → Int → Int
  | [], n => n
  | a :: as_, n => if 0 ≤ n then leftAs r as_ (r a n) else n
def leftCs (r : Arr → Int → Int) : List Cell → Int → Int
  | [], n => n
  | c :: cs, n => if 0 ≤ n then leftCs r cs (leftAs r c.inn (w64 (w64 (w64 (n - 1) - (c.n.top.length : Int)) - (c.n.bot.length : Int)))) else n
def leftA : Nat → Arr → Int → Int
  | 0, _, _ => -1
  | d + 1, a, n => leftCs (leftA d) a.cells (w64 (w64 (n - 1) - (a.shape.length : Int)))
def fewA (a : Arr) : Bool := decide (0 ≤ leftA 12 a 4000)
theorem ref08_left_sp : ∀ (d : Nat), d ≤ 100 → ∀ (a : Arr), Fits a → ∀ n : Int, Sp 92 [dA a, .int (d : Int), .int n] [.int (leftA d a n)]
  | 0, _, a, ha, n => sound_ 0 (ref08_left_tree _ _ _ _) (wp_tt rfl (wp_ret rfl))
  | d + 1, hd, a, ha, n => by
    obtain ⟨N, hN⟩ := bigFuel
    have hl := ha.len
    refine sound_ N (ref08_left_tree _ _ _ _) ?_
    simp only [dA_0, dA_1, dA_2, dC_0, dC_1, dC_2, dC_3, dC_4, dN_0, dN_1, dN_2, els_sl, els_dI, els_dL, List.length_map, Int.toNat_natCast, toInt_int, toInt_dB, toBool_bool, getD_c0, getD_c1, int_beq, int_bne, not_dec, dInt_dB, Int.toNat_zero]
    refine wp_ndec (by omega) ?_
    have key := loop_list (P := Tryz.prog) (md := md) a.cells (fun m k (n : Int) => ref08_left_l5 N m ((d + 1 : Nat) : Int) n (k : Int) (dA a)) (fun rest n => [.int (leftCs (leftA d) rest n)]) (fun _ _ => True)
      (fun m k n hk _ => by
        simp only [ref08_left_l5_succ, dA_0, dA_1, dA_2, dC_0, dC_1, dC_2, dC_3, dC_4, dN_0, dN_1, dN_2, els_sl, els_dI, els_dL, List.length_map, Int.toNat_natCast, toInt_int, toInt_dB, toBool_bool, getD_c0, getD_c1, int_beq, int_bne, not_dec, dInt_dB, Int.toNat_zero]
        exact wp_ndec (by omega) (wp_ret rfl))
      (fun m k n c rest hdr _ ih => by
        obtain ⟨h1, h2, h3⟩ := drop_cons hdr
        have hc := ha.cell c (List.mem_of_getElem? h2)
        have hlc := hc.2.2.1
        simp only [ref08_left_l5_succ, dA_0, dA_1, dA_2, dC_0, dC_1, dC_2, dC_3, dC_4, dN_0, dN_1, dN_2, els_sl, els_dI, els_dL, List.length_map, Int.toNat_natCast, toInt_int, toInt_dB, toBool_bool, getD_c0, getD_c1, int_beq, int_bne, not_dec, dInt_dB, Int.toNat_zero, getD_map h2, leftCs]
        refine wp_dec (by omega) (wp_decs (fun hn => ?_) (fun hn => wp_ret (by rw [if_neg hn])))
        rw [if_pos hn]
        repeat (refine wp_dec (by omega) ?_)
        have key := loop_list (P := Tryz.prog) (md := md) c.inn (fun m' j (n : Int) => ref08_left_l9 N m m' ((d + 1 : Nat) : Int) n (k : Int) (j : Int) (dA a)) (fun rest' n => [.int (leftCs (leftA d) rest (leftAs (leftA d) rest' n))]) (fun _ _ => True)
          (fun m' j n hj _ => by
            simp only [ref08_left_l9_succ, dA_0, dA_1, dA_2, dC_0, dC_1, dC_2, dC_3, dC_4, dN_0, dN_1, dN_2, els_sl, els_dI, els_dL, List.length_map, Int.toNat_natCast, toInt_int, toInt_dB, toBool_bool, getD_c0, getD_c1, int_beq, int_bne, not_dec, dInt_dB, Int.toNat_zero, getD_map h2, wrap_succ (show k < 9223372036854775807 by omega), leftAs]
            repeat (refine wp_dec (by omega) ?_)
            exact wp_ndec (by omega) (ih _ trivial))
          (fun m' j n x rest' hdr' _ ih' => by
            obtain ⟨g1, g2, g3⟩ := drop_cons hdr'
            simp only [ref08_left_l9_succ, dA_0, dA_1, dA_2, dC_0, dC_1, dC_2, dC_3, dC_4, dN_0, dN_1, dN_2, els_sl, els_dI, els_dL, List.length_map, Int.toNat_natCast, toInt_int, toInt_dB, toBool_bool, getD_c0, getD_c1, int_beq, int_bne, not_dec, dInt_dB, Int.toNat_zero, getD_map h2, getD_map g2, wrap_succ (show k < 9223372036854775807 by omega), wrap_succ (show j < 9223372036854775807 by omega), leftAs]
            refine wp_dec (by omega) (wp_dec (by omega) (wp_dec (by omega) (wp_decs (fun hn => ?_) (fun hn => by rw [if_neg hn]; exact ih _ trivial))))
            rw [if_pos hn]
            repeat (refine wp_dec (by omega) ?_)
            rw [wrap64 (by omega) (by omega), show ((d + 1 : Nat) : Int) - 1 = (d : Int) by omega]
            exact wp_call (ref08_left_sp d (by omega) x (hc.2.2.2 x (List.mem_of_getElem? g2)) n) (ih' _ trivial))
          N 0 (w64 (w64 (w64 (n - 1) - (c.n.top.length : Int)) - (c.n.bot.length : Int))) (by omega) (by omega) trivial
        exact key)
      N 0 (w64 (w64 (n - 1) - (a.shape.length : Int))) (by omega) (by omega) trivial
    exact key
theorem ref08_Few_sp (a : Arr) (ha : Fits a) : Sp 34 [dA a] [.bool (fewA a)] := sound_ 0 (ref08_Few_tree _ _) (wp_call (ref08_left_sp 12 (by decide) a ha 4000) (wp_ret rfl))
/-- Axes that make few places. -/
def thinS : List Int → Int → Int
  | [], n => n
  | x :: xs, n => if n ≤ 100000 then thinS xs (if 0 < x then w64 (n * x) else n) else n
def okT (n : Int) : Bool := decide (¬ 100000 < n)
mutual
def thinA : Arr → Bool
  | .mk _ sh cs => okT (thinS sh 1) && thinCs cs
def thinCs : List (CellF Arr) → Bool
  | [] => true
  | c :: cs => thinC c && thinCs cs
def thinC : CellF Arr → Bool
  | ⟨_, _, _, _, inn⟩ => thinAs inn
def thinAs : List Arr → Bool
  | [] => true
  | a :: as_ => thinA a && thinAs as_
end
theorem thinA_eq (a : Arr) : thinA a = (okT (thinS a.shape 1) && thinCs a.cells) := by cases a; rw [thinA]; rfl
theorem thinC_eq (c : Cell) : thinC c = thinAs c.inn := by cases c; rw [thinC]
theorem ref08_thin_sp (a : Arr) : Fits a → Sp 35 [dA a] [.bool (thinA a)] := by
  induction a using Arr.ind with
  | h s sh cs IH =>
    intro ha
    have hl := ha.len
    have hs := ha.sh
    have IH' : ∀ c ∈ (Arr.mk s sh cs).cells, ∀ x ∈ c.inn, Fits x → Sp 35 [dA x] [.bool (thinA x)] := IH
    generalize Arr.mk s sh cs = a at *
    obtain ⟨N, hN⟩ := bigFuel
    refine sound_ N (ref08_thin_tree _ _) ?_
    rw [thinA_eq]
    have inner : Tw (ref08_thin_l10 N N 0 (dA a)) [.bool (thinCs a.cells)] := by
      have key := loop_list (P := Tryz.prog) (md := md) a.cells (fun m k (_ : Unit) => ref08_thin_l10 N m (k : Int) (dA a)) (fun rest _ => [.bool (thinCs rest)]) (fun _ _ => True)
        (fun m k n hk _ => by
          simp only [ref08_thin_l10_succ, dA_0, dA_1, dA_2, dC_0, dC_1, dC_2, dC_3, dC_4, dN_0, dN_1, dN_2, els_sl, els_dI, els_dL, List.length_map, Int.toNat_natCast, toInt_int, toInt_dB, toBool_bool, getD_c0, getD_c1, int_beq, int_bne, not_dec, dInt_dB, Int.toNat_zero]
          exact wp_ndec (by omega) (wp_ret (by rw [thinCs])))
        (fun m k n c rest hdr _ ih => by
          obtain ⟨h1, h2, h3⟩ := drop_cons hdr
          have hc := ha.cell c (List.mem_of_getElem? h2)
          have hlc := hc.2.2.1
          simp only [ref08_thin_l10_succ, dA_0, dA_1, dA_2, dC_0, dC_1, dC_2, dC_3, dC_4, dN_0, dN_1, dN_2, els_sl, els_dI, els_dL, List.length_map, Int.toNat_natCast, toInt_int, toInt_dB, toBool_bool, getD_c0, getD_c1, int_beq, int_bne, not_dec, dInt_dB, Int.toNat_zero, getD_map h2]
          repeat (refine wp_dec (by omega) ?_)
          rw [thinCs, thinC_eq]
          have key := loop_list (P := Tryz.prog) (md := md) c.inn (fun m' j (_ : Unit) => ref08_thin_l13 N m m' (k : Int) (j : Int) (dA a)) (fun rest' _ => [.bool (thinAs rest' && thinCs rest)]) (fun _ _ => True)
            (fun m' j n hj _ => by
              simp only [ref08_thin_l13_succ, dA_0, dA_1, dA_2, dC_0, dC_1, dC_2, dC_3, dC_4, dN_0, dN_1, dN_2, els_sl, els_dI, els_dL, List.length_map, Int.toNat_natCast, toInt_int, toInt_dB, toBool_bool, getD_c0, getD_c1, int_beq, int_bne, not_dec, dInt_dB, Int.toNat_zero, getD_map h2, wrap_succ (show k < 9223372036854775807 by omega)]
              repeat (refine wp_dec (by omega) ?_)
              rw [thinAs, Bool.true_and]
              exact wp_ndec (by omega) (ih () trivial))
            (fun m' j n x rest' hdr' _ ih' => by
              obtain ⟨g1, g2, g3⟩ := drop_cons hdr'
              simp only [ref08_thin_l13_succ, dA_0, dA_1, dA_2, dC_0, dC_1, dC_2, dC_3, dC_4, dN_0, dN_1, dN_2, els_sl, els_dI, els_dL, List.length_map, Int.toNat_natCast, toInt_int, toInt_dB, toBool_bool, getD_c0, getD_c1, int_beq, int_bne, not_dec, dInt_dB, Int.toNat_zero, getD_map h2, getD_map g2, wrap_succ (show j < 9223372036854775807 by omega)]
              repeat (refine wp_dec (by omega) ?_)
              refine wp_call (IH' c (List.mem_of_getElem? h2) x (List.mem_of_getElem? g2) (hc.2.2.2 x (List.mem_of_getElem? g2))) ?_
              simp only [getD_c0, toBool_bool]
              rw [thinAs]
              refine wp_br (fun e => wp_ret ?_) (fun e => ?_)
              · simp at e; rw [e]; rfl
              · simp at e; rw [e, Bool.true_and]; exact ih' () trivial)
            N 0 () (by omega) (by omega) trivial
          exact key)
        N 0 () (by omega) (by omega) trivial
      exact key
    have fin : ∀ n : Int, Tw (.br (decide (100000 < n)) (.ret [D.bool false]) (ref08_thin_l10 N N 0 (dA a))) [.bool (okT n && thinCs a.cells)] := fun n => by
      unfold okT
      refine wp_decs (fun h => wp_ret ?_) (fun h => ?_)
      · rw [decide_eq_false (fun hh => hh h)]; rfl
      · rw [decide_eq_true h, Bool.true_and]; exact inner
    have key := loop_list (P := Tryz.prog) (md := md) a.shape (fun m k (n : Int) => ref08_thin_l3 N m n (k : Int) (dA a)) (fun rest n => [.bool (okT (thinS rest n) && thinCs a.cells)]) (fun _ _ => True)
      (fun m k n hk _ => by
        simp only [ref08_thin_l3_succ, dA_0, dA_1, dA_2, dC_0, dC_1, dC_2, dC_3, dC_4, dN_0, dN_1, dN_2, els_sl, els_dI, els_dL, List.length_map, Int.toNat_natCast, toInt_int, toInt_dB, toBool_bool, getD_c0, getD_c1, int_beq, int_bne, not_dec, dInt_dB, Int.toNat_zero]
        exact wp_ndec (by omega) (fin n))
      (fun m k n x rest hdr _ ih => by
        obtain ⟨h1, h2, h3⟩ := drop_cons hdr
        simp only [ref08_thin_l3_succ, dA_0, dA_1, dA_2, dC_0, dC_1, dC_2, dC_3, dC_4, dN_0, dN_1, dN_2, els_sl, els_dI, els_dL, List.length_map, Int.toNat_natCast, toInt_int, toInt_dB, toBool_bool, getD_c0, getD_c1, int_beq, int_bne, not_dec, dInt_dB, Int.toNat_zero, getD_map h2, wrap_succ (show k < 9223372036854775807 by omega), thinS]
        refine wp_dec (by omega) (wp_decs (fun hn => wp_dec (by omega) (wp_dec (by omega) (wp_decs (fun hx => wp_dec (by omega) (wp_dec (by omega) ?_)) (fun hx => ?_)))) (fun hn => ?_))
        · rw [if_pos hn, if_pos hx]; exact ih _ trivial
        · rw [if_pos hn, if_neg hx]; exact ih _ trivial
        · rw [if_neg hn]; exact fin n)
      N 0 1 (by omega) (by omega) trivial
    exact key
def goodA (a : Arr) : Bool := fewA a && rightA 8 a && thinA a
theorem goodA_right {a : Arr} (h : goodA a = true) : rightA 8 a = true := by unfold goodA at h; simp at h; exact h.1.2
theorem ref08_Good_sp (a : Arr) (ha : Fits a) : Sp 7 [dA a] [.bool (goodA a)] := by
  refine sound_ 0 (ref08_Good_tree _ _) (wp_call (ref08_Few_sp a ha) ?_)
  unfold goodA
  simp only [getD_c0, toBool_bool]
  refine wp_br (fun e1 => wp_call (ref08_Right_sp a ha) ?_) (fun e1 => wp_ret (by rw [e1]; rfl))
  simp only [getD_c0, toBool_bool]
  refine wp_br (fun e2 => wp_call (ref08_thin_sp a ha) (wp_ret ?_)) (fun e2 => wp_ret (by rw [e2, Bool.and_false]; rfl))
  rw [e1, e2]; rfl
theorem ref08_Good_ex (a : Arr) (ha : Fits a) : ∃ b, (b = true → rightA 8 a = true) ∧ Sp 7 [dA a] [.bool b] := ⟨goodA a, goodA_right, ref08_Good_sp a ha⟩
/-- The same, with labels. -/
noncomputable def eqA (a b : Arr) : Bool := @decide (a = b) (Classical.propDecidable _)
noncomputable def eqC (a b : Cell) : Bool := @decide (a = b) (Classical.propDecidable _)
theorem eqA_iff {a b : Arr} : eqA a b = true ↔ a = b := by unfold eqA; exact @decide_eq_true_iff _ (Classical.propDecidable _)
theorem eqA_false {a b : Arr} (h : a ≠ b) : eqA a b = false := by cases e : eqA a b with
  | false => rfl
  | true => exact absurd (eqA_iff.1 e) h
theorem eqC_iff {a b : Cell} : eqC a b = true ↔ a = b := by unfold eqC; exact @decide_eq_true_iff _ (Classical.propDecidable _)
theorem eqC_false {a b : Cell} (h : a ≠ b) : eqC a b = false := by cases e : eqC a b with
  | false => rfl
  | true => exact absurd (eqC_iff.1 e) h
theorem eqA_self (a : Arr) : eqA a a = true := eqA_iff.2 rfl
theorem eqC_self (a : Cell) : eqC a a = true := eqC_iff.2 rfl
theorem cell_eq (a b : Cell) : (a = b) ↔ (a.l = b.l ∧ a.kind = b.kind ∧ a.c = b.c ∧ a.n = b.n ∧ a.inn = b.inn) := by
  cases a; cases b
  constructor
  · rintro ⟨⟩; exact ⟨rfl, rfl, rfl, rfl, rfl⟩
  · rintro ⟨h1, h2, h3, h4, h5⟩; dsimp only at h1 h2 h3 h4 h5; subst h1; subst h2; subst h3; subst h4; subst h5; rfl
theorem arr_eq (a b : Arr) : (a = b) ↔ (a.s = b.s ∧ a.shape = b.shape ∧ a.cells = b.cells) := by
  cases a; cases b; simp
/-- A loop that asks whether two lists are the same. -/
theorem same_loop {α : Type} {P : Program} {md : Nat → FMode} (a b : List α) (e : α → α → Bool) (he : ∀ x ∈ a, ∀ y, e x y = true ↔ x = y) (hlen : a.length = b.length) (r : Bool) (hr : r = true ↔ a = b) (L : Nat → Nat → Tree)
    (hend : ∀ m, ∀ Q : List D → Prop, Q [.bool true] → (L (m + 1) a.length).wp P md Q)
    (hstep : ∀ m k x y, ∀ Q : List D → Prop, a[k]? = some x → b[k]? = some y → (e x y = false → Q [.bool false]) → (e x y = true → (L m (k + 1)).wp P md Q) → (L (m + 1) k).wp P md Q) (N : Nat) (hN : a.length < N) : (L N 0).wp P md (fun zs => zs = [.bool r]) := by
  have key := loop_up (P := P) (md := md) a.length (fun m k (_ : Unit) => L m k) (fun _ _ => [.bool r]) (fun k _ => a.take k = b.take k)
    (fun m s h => by
      refine hend m _ ?_
      rw [List.take_of_length_le (Nat.le_refl _), List.take_of_length_le (by omega)] at h
      rw [hr.2 h])
    (fun m k s hk h ih => by
      have ha : a[k]? = some a[k] := List.getElem?_eq_getElem _
      have hb : b[k]? = some (b[k]'(by omega)) := List.getElem?_eq_getElem _
      refine hstep m k _ _ _ ha hb (fun hf => ?_) (fun ht => ih () ?_)
      · have : r = false := by
          cases hrr : r with
          | false => rfl
          | true =>
            have := hr.1 hrr
            subst this
            rw [(he a[k] (List.getElem_mem _) a[k]).2 rfl] at hf; cases hf
        rw [this]
      · have : a[k] = b[k] := (he a[k] (List.getElem_mem _) _).1 ht
        rw [List.take_succ_eq_append_getElem hk, List.take_succ_eq_append_getElem (by omega), h, this])
    N 0 () (by omega) (by omega) (by simp)
  exact key
theorem ref08_SameCell_step (a : Cell) (hf : FitsC a) (ih : ∀ x ∈ a.inn, Fits x → ∀ y, Sp 49 [dA x, dA y] [.bool (eqA x y)]) (b : Cell) : Sp 101 [dC a, dC b] [.bool (eqC a b)] := by
  refine sound_ (a.inn.length + 1) (ref08_SameCell_tree _ _ _) ?_
  have hl := hf.2.2.1
  simp only [dA_0, dA_1, dA_2, dC_0, dC_1, dC_2, dC_3, dC_4, dN_0, dN_1, dN_2, els_sl, els_dI, els_dL, List.length_map, Int.toNat_natCast, toInt_int, toInt_dB, toBool_bool, getD_c0, getD_c1, int_beq, int_bne, not_dec, dInt_dB, Int.toNat_zero]
  refine wp_decs (fun h => wp_ret ?_) (fun h1 => wp_decs (fun h => wp_ret ?_) (fun h2 => wp_decs (fun h => wp_ret ?_) (fun h3 => wp_call (ref04_Same_sp a.n b.n hf.1 hf.2.1) ?_)))
  · rw [eqC_false]; rintro rfl; exact h rfl
  · rw [eqC_false]; rintro rfl; exact h rfl
  · rw [eqC_false]; rintro rfl; exact h rfl
  simp only [getD_c0, toBool_bool, not_dec]
  refine wp_decs (fun h => wp_ret ?_) (fun h4 => wp_decs (fun h => wp_ret ?_) (fun h5 => ?_))
  · rw [eqC_false]; rintro rfl; exact h rfl
  · rw [eqC_false]; rintro rfl; exact h rfl
  have e1 : a.l = b.l := BitVec.eq_of_toNat_eq (by omega)
  refine same_loop (P := Tryz.prog) (md := md) a.inn b.inn eqA (fun x _ y => eqA_iff) (by omega) (eqC a b) ?_ (fun m k => ref08_SameCell_l4 (a.inn.length + 1) m (k : Int) (dC a) (dC b)) ?_ ?_ (a.inn.length + 1) (by omega)
  · rw [eqC_iff, cell_eq]
    have h2' := Classical.not_not.1 h2
    have h3' := Classical.not_not.1 h3
    have h4' := Classical.not_not.1 h4
    simp [e1, h2', h3', h4']
  · intro m Q hQ
    simp only [ref08_SameCell_l4_succ, dA_0, dA_1, dA_2, dC_0, dC_1, dC_2, dC_3, dC_4, dN_0, dN_1, dN_2, els_sl, els_dI, els_dL, List.length_map, Int.toNat_natCast, toInt_int, toInt_dB, toBool_bool, getD_c0, getD_c1, int_beq, int_bne, not_dec, dInt_dB, Int.toNat_zero]
    exact wp_ndec (by omega) (wp_ret hQ)
  · intro m k x y Q hx hy hF hT
    have hk : k < a.inn.length := (List.getElem?_eq_some_iff.1 hx).1
    simp only [ref08_SameCell_l4_succ, dA_0, dA_1, dA_2, dC_0, dC_1, dC_2, dC_3, dC_4, dN_0, dN_1, dN_2, els_sl, els_dI, els_dL, List.length_map, Int.toNat_natCast, toInt_int, toInt_dB, toBool_bool, getD_c0, getD_c1, int_beq, int_bne, not_dec, dInt_dB, Int.toNat_zero, getD_map hx, getD_map hy, wrap_succ (show k < 9223372036854775807 by omega)]
    repeat (refine wp_dec (by omega) ?_)
    refine wp_call (ih x (List.mem_of_getElem? hx) (hf.2.2.2 x (List.mem_of_getElem? hx)) y) ?_
    simp only [getD_c0, toBool_bool]
    refine wp_br (fun h => wp_ret (hF (by simpa using h))) (fun h => hT (by simpa using h))
theorem ref08_Same_sp (a : Arr) : Fits a → ∀ b, Sp 49 [dA a, dA b] [.bool (eqA a b)] := by
  induction a using Arr.ind with
  | h s sh cs IH =>
    intro ha b
    have hl := ha.len
    have IH' : ∀ c ∈ (Arr.mk s sh cs).cells, ∀ x ∈ c.inn, Fits x → ∀ y, Sp 49 [dA x, dA y] [.bool (eqA x y)] := IH
    generalize Arr.mk s sh cs = a at *
    refine sound_ (a.cells.length + 1) (ref08_Same_tree _ _ _) ?_
    simp only [dA_0, dA_1, dA_2, dC_0, dC_1, dC_2, dC_3, dC_4, dN_0, dN_1, dN_2, els_sl, els_dI, els_dL, List.length_map, Int.toNat_natCast, toInt_int, toInt_dB, toBool_bool, getD_c0, getD_c1, int_beq, int_bne, not_dec, dInt_dB, Int.toNat_zero]
    refine wp_decs (fun h => wp_ret ?_) (fun h1 => wp_call (ref07_Ints_sp a.shape b.shape ha.sh) ?_)
    · rw [eqA_false]; rintro rfl; exact h rfl
    simp only [getD_c0, toBool_bool, not_dec]
    refine wp_decs (fun h => wp_ret ?_) (fun h4 => wp_decs (fun h => wp_ret ?_) (fun h5 => ?_))
    · rw [eqA_false]; rintro rfl; exact h rfl
    · rw [eqA_false]; rintro rfl; exact h rfl
    have e1 : a.s = b.s := BitVec.eq_of_toNat_eq (by omega)
    refine same_loop (P := Tryz.prog) (md := md) a.cells b.cells eqC (fun x _ y => eqC_iff) (by omega) (eqA a b) ?_ (fun m k => ref08_Same_l4 (a.cells.length + 1) m (k : Int) (dA a) (dA b)) ?_ ?_ (a.cells.length + 1) (by omega)
    · rw [eqA_iff, arr_eq]
      have h4' := Classical.not_not.1 h4
      simp [e1, h4']
    · intro m Q hQ
      simp only [ref08_Same_l4_succ, dA_0, dA_1, dA_2, dC_0, dC_1, dC_2, dC_3, dC_4, dN_0, dN_1, dN_2, els_sl, els_dI, els_dL, List.length_map, Int.toNat_natCast, toInt_int, toInt_dB, toBool_bool, getD_c0, getD_c1, int_beq, int_bne, not_dec, dInt_dB, Int.toNat_zero]
      exact wp_ndec (by omega) (wp_ret hQ)
    · intro m k x y Q hx hy hF hT
      have hk : k < a.cells.length := (List.getElem?_eq_some_iff.1 hx).1
      simp only [ref08_Same_l4_succ, dA_0, dA_1, dA_2, dC_0, dC_1, dC_2, dC_3, dC_4, dN_0, dN_1, dN_2, els_sl, els_dI, els_dL, List.length_map, Int.toNat_natCast, toInt_int, toInt_dB, toBool_bool, getD_c0, getD_c1, int_beq, int_bne, not_dec, dInt_dB, Int.toNat_zero, getD_map hx, getD_map hy, wrap_succ (show k < 9223372036854775807 by omega)]
      repeat (refine wp_dec (by omega) ?_)
      refine wp_call (ref08_SameCell_step x (ha.cell x (List.mem_of_getElem? hx)) (IH' x (List.mem_of_getElem? hx)) y) ?_
      simp only [getD_c0, toBool_bool]
      refine wp_br (fun h => wp_ret (hF (by simpa using h))) (fun h => hT (by simpa using h))
theorem ref08_SameCell_sp (a b : Cell) (hf : FitsC a) : Sp 101 [dC a, dC b] [.bool (eqC a b)] := ref08_SameCell_step a hf (fun x _ hx y => ref08_Same_sp x hx y) b
/-- Small whole numbers; an error. -/
def intsCs : List Cell → Option (List Int)
  | [] => some []
  | c :: cs => if c.kind = 0 then (smallN c.n).bind (fun z => (intsCs cs).map (z :: ·)) else none
def intsA (a : Arr) : List Int × Int := if 1 < a.shape.length then ([], 5) else match intsCs a.cells with
  | some l => (l, 0)
  | none => ([], 3)
def intC (z : Int) : Cell := ⟨0, 0, ofZ z, 0, []⟩
def fillC (a : Arr) : Cell := match a.cells with
  | [] => intC 0
  | c :: _ => if c.kind = 1 then ⟨c.l, 1, .zero, 32, []⟩ else ⟨c.l, 0, ofZ 0, 0, []⟩
theorem smallN_inR {n : Num} {z : Int} (h : smallN n = some z) : inR z := by
  unfold smallN smO at h
  split at h
  · split at h
    · injection h with h; subst h; assumption
    · cases h
  · cases h
theorem intsCs_inR : ∀ {cs : List Cell} {l : List Int}, intsCs cs = some l → l.length = cs.length ∧ ∀ x ∈ l, inR x
  | [], l, h => by simp [intsCs] at h; subst h; simp
  | c :: cs, l, h => by
    simp only [intsCs] at h
    split at h
    · cases hn : smallN c.n with
      | none => rw [hn] at h; cases h
      | some z =>
        rw [hn] at h
        cases hc : intsCs cs with
        | none => rw [hc] at h; cases h
        | some l' =>
          rw [hc] at h
          injection h with h; subst h
          have := intsCs_inR hc
          exact ⟨by simp [this.1], fun x hx => by rcases List.mem_cons.1 hx with rfl | hx; exact smallN_inR hn; exact this.2 x hx⟩
    · cases h
def insD (out : List Int) : Option (List Int) → List D
  | some l => [dI (out ++ l), .int 0]
  | none => [.sl [], .int 3]
theorem insD_intsA {a : Arr} (h : ¬ 1 < a.shape.length) : insD [] (intsCs a.cells) = [dI (intsA a).1, .int (intsA a).2] := by
  unfold intsA; rw [if_neg h]; cases intsCs a.cells <;> rfl
end Go.Proofs.YtjmddikeadbmjaaGreat
set_option maxRecDepth 100000
namespace Go.Proofs.YtjmddikeadbmjaaGreat

theorem array_Int_sp (z : Int) (hz : inR z) : Sp 36 [.int z] [dC (intC z)] := by
  refine sound_ 0 (array_Int_tree _ _) (wp_call (ratio_Of_sp z hz) (wp_ret ?_))
  rw [dC_eq]; rfl
def chrC (c : Int) : Cell := ⟨0, 1, .zero, c, []⟩
theorem inR0 : inR 0 := by unfold inR; decide
end Go.Proofs.YtjmddikeadbmjaaGreat
set_option maxRecDepth 100000
namespace Go.Proofs.YtjmddikeadbmjaaGreat

theorem lb_one : lb 1 = [1] := by rw [lb_pos (by decide), show 1 / B = 0 by decide, lb_zero]; rfl
theorem numT_ofZ (z : Int) : numT (ofZ z) = z := zv_wz z
theorem numB_ofZ (z : Int) : numB (ofZ z) = 1 := by simp [numB, ofZ, nv]
theorem lb_inR {z : Int} (h : inR z) : (lb z.natAbs).length ≤ 2 := lb_len.2 (by unfold inR at h; show z.natAbs < 18446744073709551616; omega)
theorem rightN_ofZ {z : Int} (h : inR z) : rightN (ofZ z) = true := by
  have hl := lb_inR h
  unfold rightN
  rw [numT_ofZ, numB_ofZ]
  refine decide_eq_true ⟨by simp only [ofZ]; omega, by simp [ofZ], ?_⟩
  unfold mkR
  simp only [Int.natAbs_one, Nat.gcd_one_right, Nat.div_one, lb_one]
  rw [if_neg (by decide), if_neg (by simp only [List.length_cons, List.length_nil]; omega)]
  unfold ofZ
  congr 2
  by_cases hz : z < 0
  · have : 0 < (lb z.natAbs).length := by
      rcases Nat.eq_zero_or_pos (lb z.natAbs).length with h0 | h0
      · have := lb_len0.1 h0; omega
      · exact h0
    simp [hz, this]
  · simp [hz]
theorem smallN_ofZ {z : Int} (h : inR z) : smallN (ofZ z) = some z := by
  unfold smallN smO
  rw [if_pos (show (ofZ z).bot = [1] from rfl), numT_ofZ, if_pos h]
theorem rightN_len {n : Num} (h : rightN n = true) : n.top.length ≤ 32 ∧ n.bot.length ≤ 32 := by
  have := of_decide_eq_true h
  exact ⟨this.1, this.2.1⟩
theorem rightC_len {d : Nat} {c : Cell} (h : rightC d c = true) : c.n.top.length ≤ 32 ∧ c.n.bot.length ≤ 32 ∧ c.inn.length ≤ 1 := by
  suffices key : ∀ k r, cellR k r c = true → c.n.top.length ≤ 32 ∧ c.n.bot.length ≤ 32 ∧ c.inn.length ≤ 1 by
    cases d with
    | zero => exact key _ _ h
    | succ d => exact key _ _ h
  intro k r h
  unfold cellR at h
  split at h
  · simp only [Bool.and_eq_true, decide_eq_true_eq] at h
    exact ⟨(rightN_len h.2).1, (rightN_len h.2).2, by omega⟩
  split at h
  · simp only [Bool.and_eq_true, decide_eq_true_eq] at h
    rw [h.1.1]; exact ⟨by decide, by decide, by omega⟩
  · simp only [Bool.and_eq_true, decide_eq_true_eq] at h
    rw [h.1.2.1]
    refine ⟨by decide, by decide, ?_⟩
    have hb := h.2.2
    unfold boxOK at hb
    split at hb
    · rename_i hi; rw [hi]; simp
    · cases hb
theorem rightA_cells {d : Nat} {a : Arr} (h : rightA d a = true) : countS a.shape = ((a.cells.length : Int), 0) ∧ ∀ c ∈ a.cells, rightC d c = true := by
  rw [rightA_eq] at h
  simp only [Bool.and_eq_true, decide_eq_true_eq, List.all_eq_true] at h
  exact h
theorem rightA_of {d : Nat} {a : Arr} (h1 : countS a.shape = ((a.cells.length : Int), 0)) (h2 : ∀ c ∈ a.cells, rightC d c = true) : rightA d a = true := by
  rw [rightA_eq]
  simp only [Bool.and_eq_true, decide_eq_true_eq, List.all_eq_true]
  exact ⟨h1, h2⟩
theorem rightA_len {d : Nat} {a : Arr} (h : rightA d a = true) : a.cells.length ≤ 2048 ∧ a.shape.length ≤ 6 ∧ ∀ x ∈ a.shape, 0 ≤ x ∧ x ≤ 2048 := by
  have h1 := (rightA_cells h).1
  have h2 := countS_le a.shape
  have h3 := countS_len (l := a.shape) (by rw [h1])
  rw [h1] at h2
  exact ⟨by simp only at h2; omega, h3⟩
theorem rightA_top {d : Nat} {a : Arr} (h : rightA d a = true) : ∀ c ∈ a.cells, c.n.top.length ≤ 32 := fun c hc => (rightC_len ((rightA_cells h).2 c hc)).1
theorem rightC_int {z : Int} (d : Nat) (h : inR z) : rightC d (intC z) = true := by
  have : ∀ k r, cellR k r (intC z) = true := by
    intro k r
    unfold cellR
    rw [if_pos (show (intC z).kind = 0 from rfl)]
    have := rightN_ofZ h
    simp only [intC, this]; rfl
  cases d <;> exact this _ _
theorem fitsC_int {z : Int} (h : inR z) : FitsC (intC z) := by
  have := lb_inR h
  refine ⟨?_, ?_, ?_, ?_⟩
  · simp only [intC, ofZ]; omega
  · simp [intC, ofZ]
  · simp [intC]
  · simp [intC]
theorem inR_small {z : Int} (h1 : -100000 ≤ z) (h2 : z ≤ 100000) : inR z := by unfold inR; omega
theorem fits_vec {l : List Int} {s : Lab} (hl : l.length ≤ 100000) (h : ∀ x ∈ l, inR x) : Fits (.mk s [(l.length : Int)] (l.map intC)) := by
  refine Fits.of (by simp) (by simp; omega) ?_ ?_
  · intro x hx; simp only [List.mem_singleton] at hx; subst hx; exact inR_small (by omega) (by omega)
  · intro c hc
    obtain ⟨z, hz, rfl⟩ := List.mem_map.1 hc
    exact fitsC_int (h z hz)
theorem fits_none : Fits .none := Fits.of (by simp) (by simp) (by simp) (by simp)
end Go.Proofs.YtjmddikeadbmjaaGreat
set_option maxRecDepth 100000
namespace Go.Proofs.YtjmddikeadbmjaaGreat

/-- No list is long, and there are not more than so many arrays within one another. -/
def Sml : Nat → Arr → Prop
  | 0, _ => False
  | d + 1, a => a.shape.length ≤ 1048576 ∧ a.cells.length ≤ 1048576 ∧ (∀ x ∈ a.shape, inR x) ∧ ∀ c ∈ a.cells, c.n.top.length ≤ 1048576 ∧ c.n.bot.length ≤ 1048576 ∧ c.inn.length ≤ 1048576 ∧ ∀ x ∈ c.inn, Sml d x
def SmlC (d : Nat) (c : Cell) : Prop := c.n.top.length ≤ 1048576 ∧ c.n.bot.length ≤ 1048576 ∧ c.inn.length ≤ 1048576 ∧ ∀ x ∈ c.inn, Sml d x
theorem Sml.succ {d : Nat} {a : Arr} (h : Sml d a) : ∃ e, d = e + 1 := by
  cases d with
  | zero => exact h.elim
  | succ e => exact ⟨e, rfl⟩
theorem Sml.cell {d : Nat} {a : Arr} (h : Sml (d + 1) a) : ∀ c ∈ a.cells, SmlC d c := h.2.2.2
theorem Sml.of {d : Nat} {a : Arr} (h1 : a.shape.length ≤ 1048576) (h2 : a.cells.length ≤ 1048576) (h3 : ∀ x ∈ a.shape, inR x) (h4 : ∀ c ∈ a.cells, SmlC d c) : Sml (d + 1) a := ⟨h1, h2, h3, h4⟩
theorem Sml.fits : ∀ {d : Nat} {a : Arr}, Sml d a → Fits a
  | 0, _, h => h.elim
  | d + 1, .mk s sh cs, ⟨h1, h2, h3, h4⟩ => by
    have h1' : sh.length ≤ 1048576 := h1
    have h2' : cs.length ≤ 1048576 := h2
    refine Fits.of (by omega) (by omega) h3 (fun c hc => ?_)
    obtain ⟨g1, g2, g3, g4⟩ := h4 c hc
    exact ⟨by omega, by omega, by omega, fun x hx => (g4 x hx).fits⟩
theorem SmlC.fits {d : Nat} {c : Cell} (h : SmlC d c) : FitsC c := ⟨by have := h.1; omega, by have := h.2.1; omega, by have := h.2.2.1; omega, fun x hx => (h.2.2.2 x hx).fits⟩
theorem Sml.mono : ∀ {d e : Nat} {a : Arr}, Sml d a → d ≤ e → Sml e a
  | 0, _, _, h, _ => h.elim
  | d + 1, 0, _, _, hle => by omega
  | d + 1, e + 1, a, ⟨h1, h2, h3, h4⟩, hle => ⟨h1, h2, h3, fun c hc => ⟨(h4 c hc).1, (h4 c hc).2.1, (h4 c hc).2.2.1, fun x hx => ((h4 c hc).2.2.2 x hx).mono (by omega)⟩⟩
theorem SmlC.mono {d e : Nat} {c : Cell} (h : SmlC d c) (hle : d ≤ e) : SmlC e c := ⟨h.1, h.2.1, h.2.2.1, fun x hx => (h.2.2.2 x hx).mono hle⟩

/-- What is in a right cell. -/
theorem rightC_inn {d : Nat} {c : Cell} (h : rightC d c = true) : ∀ x ∈ c.inn, ∃ e, d = e + 1 ∧ simpleA x = false ∧ rightA e x = true ∧ c.inn = [x] ∧ c.kind = 2 := by
  have key : ∀ k r, cellR k r c = true → ∀ x ∈ c.inn, k = true ∧ simpleA x = false ∧ r x = true ∧ c.inn = [x] ∧ c.kind = 2 := by
    intro k r h x hx
    unfold cellR at h
    split at h
    · simp only [Bool.and_eq_true, decide_eq_true_eq] at h
      rw [List.length_eq_zero_iff.1 h.1.2] at hx; cases hx
    split at h
    · simp only [Bool.and_eq_true, decide_eq_true_eq] at h
      rw [List.length_eq_zero_iff.1 h.1.2] at hx; cases hx
    · simp only [Bool.and_eq_true, decide_eq_true_eq] at h
      obtain ⟨h1, h2, h3⟩ := h
      unfold boxOK at h3
      split at h3
      · rename_i y hy
        rw [hy] at hx ⊢
        have : x = y := by simpa using hx
        subst this
        simp only [Bool.and_eq_true, Bool.not_eq_true'] at h3
        exact ⟨h2, h3.1, h3.2, rfl, h1.1⟩
      · cases h3
  cases d with
  | zero => intro x hx; exact absurd (key _ _ h x hx).1 (by simp)
  | succ e => intro x hx; exact ⟨e, rfl, (key _ _ h x hx).2⟩
theorem rightA_sml : ∀ {d : Nat} {a : Arr}, rightA d a = true → Sml (d + 1) a
  | 0, a, h => by
    have hl := rightA_len h
    refine ⟨by omega, by omega, fun x hx => inR_small (by have := hl.2.2 x hx; omega) (by have := hl.2.2 x hx; omega), fun c hc => ?_⟩
    have hc' := (rightA_cells h).2 c hc
    have := rightC_len hc'
    exact ⟨by omega, by omega, by omega, fun x hx => by obtain ⟨e, he, _⟩ := rightC_inn hc' x hx; omega⟩
  | d + 1, a, h => by
    have hl := rightA_len h
    refine ⟨by omega, by omega, fun x hx => inR_small (by have := hl.2.2 x hx; omega) (by have := hl.2.2 x hx; omega), fun c hc => ?_⟩
    have hc' := (rightA_cells h).2 c hc
    have := rightC_len hc'
    refine ⟨by omega, by omega, by omega, fun x hx => ?_⟩
    obtain ⟨e, he, _, hr, _⟩ := rightC_inn hc' x hx
    have : e = d := by omega
    subst this
    exact rightA_sml hr
theorem rightC_sml {d : Nat} {c : Cell} (h : rightC d c = true) : SmlC d c := by
  have := rightC_len h
  refine ⟨by omega, by omega, by omega, fun x hx => ?_⟩
  obtain ⟨e, rfl, _, hr, _⟩ := rightC_inn h x hx
  exact rightA_sml hr

theorem clone_tw (es : List D) (h : es.length ≤ 1048576) : Tw (.amb es.isEmpty (.ret [D.sl []]) (.br (decide (([] : List D).length + es.length ≤ bigN)) (.ret [D.sl ([] ++ es)]) .fail)) [D.sl es] := by
  refine wp_amb (fun h => wp_ret ?_) (wp_dec ?_ (wp_ret ?_))
  · rw [List.isEmpty_iff.1 h]
  · simp only [List.length_nil, bigN]; omega
  · rw [List.nil_append]
theorem clone_U_sp (l : List Limb) (h : l.length ≤ 1048576) : Sp 132 [dL l] [dL l] := sound_ 0 (slices_Clone_uint32_uint32_tree _ _) (by simp only [els_dL]; exact clone_tw _ (by simpa using h))
theorem clone_I_sp (l : List Int) (h : l.length ≤ 1048576) : Sp 47 [dI l] [dI l] := sound_ 0 (slices_Clone_int_int_tree _ _) (by simp only [els_dI]; exact clone_tw _ (by simpa using h))
theorem clone_A_sp (l : List Arr) (h : l.length ≤ 1048576) : Sp 133 [.sl (l.map dA)] [.sl (l.map dA)] := sound_ 0 (slices_Clone_api_Array_api_Array_tree _ _) (by simp only [els_sl]; exact clone_tw _ (by simpa using h))
theorem array_own_sp {d : Nat} (c : Cell) (h : SmlC d c) : Sp 93 [dC c] [dC c] := by
  refine sound_ 0 (array_own_tree _ _) ?_
  simp only [dA_0, dA_1, dA_2, dC_0, dC_1, dC_2, dC_3, dC_4, dN_0, dN_1, dN_2, els_sl, els_dI, els_dL, List.length_map, Int.toNat_natCast, toInt_int, toInt_dB, toBool_bool, getD_c0, getD_c1, int_beq, int_bne, not_dec, dInt_dB, Int.toNat_zero]
  refine wp_call (clone_U_sp _ h.1) (wp_call (clone_U_sp _ h.2.1) (wp_call (clone_A_sp _ h.2.2.1) (wp_ret ?_)))
  simp only [getD_c0, els_dL, els_sl, dsl_dL]
  rw [dC_eq]; rfl
def oneA (c : Cell) : Arr := .mk 0 [] [c]
def vectA (l : List Cell) : Arr := .mk 0 [(l.length : Int)] l
def raiseA (a : Arr) (l : Lab) : Arr := .mk (a.s ||| l) a.shape a.cells
theorem array_Scalar_sp {d : Nat} (c : Cell) (h : SmlC d c) : Sp 38 [dC c] [dA (oneA c)] := by
  refine sound_ 0 (array_Scalar_tree _ _) (wp_call (array_own_sp c h) (wp_ret ?_))
  rw [dA_eq]; rfl
theorem array_Num_sp (n : Num) (h1 : n.top.length ≤ 1048576) (h2 : n.bot.length ≤ 1048576) : Sp 56 [dN n] [dC ⟨0, 0, n, 0, []⟩] := by
  refine sound_ 0 (array_Num_tree _ _) (wp_call (ys := [dC ⟨0, 0, n, 0, []⟩]) ?_ (wp_ret rfl))
  have := array_own_sp (d := 0) ⟨0, 0, n, 0, []⟩ ⟨h1, h2, by simp, by simp⟩
  rw [dC_eq] at this ⊢
  exact this
theorem set_next {α : Type} {f : α → D} {z : D} (pre : List α) (x : α) (k : Nat) : ((pre.map f) ++ List.replicate (k + 1) z).set pre.length (f x) = ((pre ++ [x]).map f) ++ List.replicate k z := by
  rw [List.set_append_right _ _ (by simp), List.length_map, Nat.sub_self, List.replicate_succ, List.set_cons_zero]
  simp
theorem dA_none : D.agg [D.int 0, D.sl [], D.sl []] = dA .none := by rw [dA_eq]; rfl
theorem dC_none' : D.agg [D.int 0, D.int 0, D.agg [D.bool false, D.sl [], D.sl []], D.int 0, D.sl []] = dC Cell.none := by rw [dC_eq]; rfl
theorem array_Vector_sp {d : Nat} (l : List Cell) (h : ∀ c ∈ l, SmlC d c) (hl : l.length ≤ 1048576) : Sp 37 [.sl (l.map dC)] [dA (vectA l)] := by
  refine sound_ (l.length + 1) (array_Vector_tree _ _) ?_
  simp only [dA_0, dA_1, dA_2, dC_0, dC_1, dC_2, dC_3, dC_4, dN_0, dN_1, dN_2, els_sl, els_dI, els_dL, List.length_map, Int.toNat_natCast, toInt_int, toInt_dB, toBool_bool, getD_c0, getD_c1, int_beq, int_bne, not_dec, dInt_dB, Int.toNat_zero, dC_none']
  refine wp_dec (by omega) (wp_dec (by omega) (wp_dec (by simp only [bigN]; omega) ?_))
  have key := loop_list (P := Tryz.prog) (md := md) l (fun m k (cs : List D) => array_Vector_l3 (l.length + 1) m (.sl (l.map dC)) cs (.sl (l.map dC)) (l.length : Int) (k : Int) 0) (fun _ _ => [dA (vectA l)])
    (fun rest cs => ∃ pre, l = pre ++ rest ∧ cs = pre.map dC ++ List.replicate rest.length (dC Cell.none))
    (fun m k cs hk hI => by
      obtain ⟨pre, h1, rfl⟩ := hI
      simp only [array_Vector_l3_succ, dA_0, dA_1, dA_2, dC_0, dC_1, dC_2, dC_3, dC_4, dN_0, dN_1, dN_2, els_sl, els_dI, els_dL, List.length_map, Int.toNat_natCast, toInt_int, toInt_dB, toBool_bool, getD_c0, getD_c1, int_beq, int_bne, not_dec, dInt_dB, Int.toNat_zero]
      refine wp_ndec (by omega) (wp_ret ?_)
      rw [List.append_nil] at h1
      rw [dA_eq, vectA]; subst h1; simp [dI]; rfl)
    (fun m k cs c rest hdr hI ih => by
      obtain ⟨h1, h2, h3⟩ := drop_cons hdr
      obtain ⟨pre, hp, rfl⟩ := hI
      have hk : k = pre.length := by
        have := congrArg List.length hdr
        rw [hp] at this h1
        simp at this h1; omega
      simp only [array_Vector_l3_succ, dA_0, dA_1, dA_2, dC_0, dC_1, dC_2, dC_3, dC_4, dN_0, dN_1, dN_2, els_sl, els_dI, els_dL, List.length_map, Int.toNat_natCast, toInt_int, toInt_dB, toBool_bool, getD_c0, getD_c1, int_beq, int_bne, not_dec, dInt_dB, Int.toNat_zero, getD_map h2, wrap_succ (show k < 9223372036854775807 by omega)]
      repeat (refine wp_dec (by omega) ?_)
      refine wp_call (array_own_sp c (h c (List.mem_of_getElem? h2))) ?_
      have hlen : (pre.map dC ++ List.replicate (rest.length + 1) (dC Cell.none)).length = l.length := by rw [hp]; simp
      rw [List.length_cons, hlen]
      refine wp_dec (by omega) (wp_dec (by omega) ?_)
      rw [getD_c0, hk, set_next, ← hk]
      exact ih _ ⟨pre ++ [c], by rw [hp]; simp, rfl⟩)
    (l.length + 1) 0 (List.replicate l.length (dC Cell.none)) (by omega) (by omega) ⟨[], by simp, by simp⟩
  exact key
/-- A cell as an array. -/
def unpC (c : Cell) : Arr := match c.inn with
  | [x] => if c.kind = 2 then raiseA x c.l else .mk c.l [] [c]
  | _ => .mk c.l [] [c]
theorem raise_one (c : Cell) : raiseA (oneA c) c.l = .mk c.l [] [c] := by simp [raiseA, oneA]
theorem unpC_neg {c : Cell} (h : ¬ (c.kind = 2 ∧ c.inn.length = 1)) : unpC c = .mk c.l [] [c] := by
  unfold unpC
  split
  · rename_i x hx
    rw [if_neg (fun hk => h ⟨hk, by rw [hx]; rfl⟩)]
  · rfl
theorem unpC_pos {c : Cell} {x : Arr} (h : c.kind = 2) (hx : c.inn = [x]) : unpC c = raiseA x c.l := by unfold unpC; rw [hx]; simp [h]
theorem len_one {α : Type} {l : List α} (h : l.length = 1) : ∃ x, l = [x] := by
  match l, h with
  | [x], _ => exact ⟨x, rfl⟩
/-- An array as a cell. -/
def packC (a : Arr) : Cell := match a.shape, a.cells with
  | [], [c] => ⟨c.l ||| a.s, c.kind, c.n, c.c, c.inn⟩
  | _, _ => ⟨a.s, 2, .zero, 0, [a]⟩
theorem packC_pos {a : Arr} {c : Cell} (h : a.shape = []) (hc : a.cells = [c]) : packC a = ⟨c.l ||| a.s, c.kind, c.n, c.c, c.inn⟩ := by unfold packC; rw [h, hc]
theorem packC_neg {a : Arr} (h : ¬ (a.shape.length = 0 ∧ a.cells.length = 1)) : packC a = ⟨a.s, 2, .zero, 0, [a]⟩ := by
  unfold packC
  match hs : a.shape, hc : a.cells with
  | [], [c] => rw [hs, hc] at h; simp at h
  | x :: xs, _ => rfl
  | [], [] => rfl
  | [], x :: y :: xs => rfl
theorem dC_box (l : Lab) (a : Arr) : D.agg [dB l, D.int 2, D.agg [D.bool false, D.sl [], D.sl []], D.int 0, D.sl [dA a]] = dC ⟨l, 2, .zero, 0, [a]⟩ := by rw [dC_eq]; rfl
mutual
def relA (g : Lab → Lab) : Arr → Arr
  | .mk s sh cs => .mk (g s) sh (relCs g cs)
def relCs (g : Lab → Lab) : List (CellF Arr) → List (CellF Arr)
  | [] => []
  | c :: cs => relC g c :: relCs g cs
def relC (g : Lab → Lab) : CellF Arr → CellF Arr
  | ⟨l, k, n, c, inn⟩ => ⟨g l, k, n, c, relAs g inn⟩
def relAs (g : Lab → Lab) : List Arr → List Arr
  | [] => []
  | a :: as_ => relA g a :: relAs g as_
end
theorem relCs_map (g : Lab → Lab) : ∀ cs, relCs g cs = cs.map (relC g)
  | [] => by simp [relCs]
  | c :: cs => by simp [relCs, relCs_map g cs]
theorem relAs_map (g : Lab → Lab) : ∀ as_, relAs g as_ = as_.map (relA g)
  | [] => by simp [relAs]
  | a :: as_ => by simp [relAs, relAs_map g as_]
theorem relA_eq (g : Lab → Lab) (a : Arr) : relA g a = .mk (g a.s) a.shape (a.cells.map (relC g)) := by cases a; simp [relA, relCs_map]
theorem relC_eq (g : Lab → Lab) (c : Cell) : relC g c = ⟨g c.l, c.kind, c.n, c.c, c.inn.map (relA g)⟩ := by cases c; simp [relC, relAs_map]
theorem relC_id_of (g : Lab → Lab) (hg : ∀ l, g l = l) (c : Cell) (h : ∀ x ∈ c.inn, relA g x = x) : relC g c = c := by
  rw [relC_eq, hg]
  have : c.inn.map (relA g) = c.inn := by conv => rhs; rw [← List.map_id c.inn]
                                          exact List.map_congr_left h
  rw [this]
theorem relA_id (g : Lab → Lab) (hg : ∀ l, g l = l) (a : Arr) : relA g a = a := by
  induction a using Arr.ind with
  | h s sh cs IH =>
    rw [relA_eq, hg]
    have : cs.map (relC g) = cs := by
      conv => rhs; rw [← List.map_id cs]
      exact List.map_congr_left (fun c hc => relC_id_of g hg c (IH c hc))
    show Arr.mk s sh (cs.map (relC g)) = _
    rw [this]
theorem relA_sml {g : Lab → Lab} : ∀ {d : Nat} {a : Arr}, Sml d a → Sml d (relA g a)
  | 0, _, h => h.elim
  | d + 1, a, ⟨h1, h2, h3, h4⟩ => by
    rw [relA_eq]
    refine ⟨h1, by simpa using h2, h3, fun c hc => ?_⟩
    obtain ⟨c', hc', rfl⟩ := List.mem_map.1 hc
    obtain ⟨g1, g2, g3, g4⟩ := h4 c' hc'
    rw [relC_eq]
    refine ⟨g1, g2, by simpa using g3, fun x hx => ?_⟩
    obtain ⟨y, hy, rfl⟩ := List.mem_map.1 hx
    exact relA_sml (g4 y hy)
theorem relC_sml {g : Lab → Lab} {d : Nat} {c : Cell} (h : SmlC d c) : SmlC d (relC g c) := by
  rw [relC_eq]
  refine ⟨h.1, h.2.1, by simpa using h.2.2.1, fun x hx => ?_⟩
  obtain ⟨y, hy, rfl⟩ := List.mem_map.1 hx
  exact relA_sml (h.2.2.2 y hy)
def cvr (l : Lab) (er : Bool) (x : Lab) : Lab := if er then l else x ||| l
def eraA (a : Arr) : Arr := relA (fun _ => 0) a
noncomputable def matA (a b : Arr) : Bool := eqA (eraA a) (eraA b)
end Go.Proofs.YtjmddikeadbmjaaGreat
set_option maxRecDepth 100000
namespace Go.Proofs.YtjmddikeadbmjaaGreat
/-! scrim/scalar.Two -/
def scalar_Two_orc : List (Nat × Orc) := [(11, ⟨[(0, none), (4, none), (5, none), (6, none), (11, none), (48, none), (49, none)], [(4, true), (5, true), (6, false), (11, false)], [(.fld 11 [2], 1110, 66)]⟩)]
def scalar_Two_ps : List Nat := [3, 26, 26]
def scalar_Two_rs : List ResultVar := [.cell 6 26, .tmp 7]
def scalar_Two_ts : List Nat := [26, 29]
noncomputable def scalar_Two_l11 (n m11 : Nat) (f0 : Int) (t48 : Int) (t49 : Int) (a4 : D) (b5 : D) (t6_0 : Int) (out11_0 : Int) (out11_1 : D) (out11_2 : List D) : Tree :=
  evLoop Tryz.prog md (ev Tryz.prog md n scalar_Two_orc (cAt (bodyOf Tryz.prog 11) [1, 1, 1, 1, 1, 1, 1, 0, 1, 0, 0])) (orcAt scalar_Two_orc 11) m11 ⟨[.i .i64 f0, .undef, .undef, .undef, .ptr 4 [], .ptr 5 [], .ptr 6 [], .undef, .undef, .undef, .undef, .ptr 11 [], .undef, .undef, .undef, .undef, .undef, .undef, .undef, .undef, .undef, .undef, .undef, .undef, .undef, .undef, .undef, .undef, .undef, .undef, .undef, .undef, .undef, .undef, .undef, .undef, .undef, .undef, .undef, .undef, .undef, .undef, .undef, .undef, .undef, .undef, .undef, .undef, .i .i64 t48, .i .i64 t49, .undef, .undef, .undef, .undef, .undef, .undef, .undef, .undef, .undef, .undef, .undef, .undef, .undef, .undef, .undef, .undef, .undef, .undef, .undef, .undef, .undef, .undef, .undef, .undef], [(4, .var 26 (.d 26 a4) true), (5, .var 26 (.d 26 b5) true), (6, .var 26 (.agg 26 [.i .u64 t6_0, .mt, .mt]) true), (11, .var 26 (.agg 26 [.i .u64 out11_0, .d 23 out11_1, .row 1110]) true), (1110, .row 66 out11_2 true)], [4, 5, 6, 11, 1110], [], []⟩
   (blockK 0 (seqK (joinE Tryz.prog md (joinAt scalar_Two_orc (cAt (bodyOf Tryz.prog 11) [1, 1, 1, 1, 1, 1, 1, 1])) (ev Tryz.prog md n scalar_Two_orc (cAt (bodyOf Tryz.prog 11) [1, 1, 1, 1, 1, 1, 1, 1]))) (retK Tryz.prog md (md 11) scalar_Two_ps scalar_Two_rs scalar_Two_ts)))
theorem scalar_Two_l11_succ (n m11 : Nat) (f0 : Int) (t48 : Int) (t49 : Int) (a4 : D) (b5 : D) (t6_0 : Int) (out11_0 : Int) (out11_1 : D) (out11_2 : List D) : scalar_Two_l11 n (m11 + 1) f0 t48 t49 a4 b5 t6_0 out11_0 out11_1 out11_2 =
 .br (decide (t49 < t48)) (.call 42 [] [a4, D.int t49] fun yy4 =>
 .call 42 [] [b5, D.int t49] fun yy5 =>
 .call 41 [] [D.int f0, yy4.getD 0 D.nil, yy5.getD 0 D.nil] fun yy6 =>
 .br (((yy6.getD 1 D.nil).toInt) != 0) (.ret [D.agg [D.int 0, D.sl [], D.sl []], D.int ((yy6.getD 1 D.nil).toInt)])
 (.br (decide (0 ≤ t49)) (.br (decide (t49 < (out11_2.length : Int))) (scalar_Two_l11 n m11 f0 t48 (IntKind.wrap .i64 (t49 + 1)) a4 b5 t6_0 out11_0 out11_1 (out11_2.set (Int.toNat t49) (yy6.getD 0 D.nil))) .fail) .fail))
 (.ret [D.agg [D.int out11_0, out11_1, D.sl out11_2], D.int 0]) := by kernel_rfl
theorem scalar_Two_tree (n : Nat) (f0 : D) (a1 : D) (b2 : D) : evFun Tryz.prog md scalar_Two_orc n 11 [] [f0, a1, b2] =
 .call 21 [] [D.int f0.toInt] fun yy1 =>
 .br (!((yy1.getD 0 D.nil).toBool)) (.ret [D.agg [D.int 0, D.sl [], D.sl []], D.int 8])
 (.call 13 [] [a1, b2] fun yy2 =>
 .br (((yy2.getD 1 D.nil).toInt) != 0) (.ret [D.agg [D.int 0, D.sl [], D.sl []], D.int ((yy2.getD 1 D.nil).toInt)])
 (.br ((((a1.fld 1).els).length : Int) == 0) (.call 40 [] [D.int ((a1.fld 0).toInt), D.int ((b2.fld 0).toInt)] fun yy3 =>
 .br (decide (0 ≤ (((b2.fld 2).els).length : Int))) (.br (decide ((((b2.fld 2).els).length : Int) ≤ (((b2.fld 2).els).length : Int))) (.br (decide ((((b2.fld 2).els).length : Int) ≤ bigN)) (scalar_Two_l11 n n f0.toInt (((b2.fld 2).els).length : Int) 0 a1 b2 0 ((yy3.getD 0 D.nil).toInt) (yy2.getD 0 D.nil) (List.replicate (Int.toNat (((b2.fld 2).els).length : Int)) (D.agg [D.int 0, D.int 0, D.agg [D.bool false, D.sl [], D.sl []], D.int 0, D.sl []]))) .fail) .fail) .fail)
 (.call 40 [] [D.int ((a1.fld 0).toInt), D.int ((b2.fld 0).toInt)] fun yy7 =>
 .br (decide (0 ≤ (((a1.fld 2).els).length : Int))) (.br (decide ((((a1.fld 2).els).length : Int) ≤ (((a1.fld 2).els).length : Int))) (.br (decide ((((a1.fld 2).els).length : Int) ≤ bigN)) (scalar_Two_l11 n n f0.toInt (((a1.fld 2).els).length : Int) 0 a1 b2 0 ((yy7.getD 0 D.nil).toInt) (yy2.getD 0 D.nil) (List.replicate (Int.toNat (((a1.fld 2).els).length : Int)) (D.agg [D.int 0, D.int 0, D.agg [D.bool false, D.sl [], D.sl []], D.int 0, D.sl []]))) .fail) .fail) .fail))) := by kernel_rfl

/-! scrim/scalar.Conform -/
def scalar_Conform_orc : List (Nat × Orc) := []
theorem scalar_Conform_tree (n : Nat) (a0 : D) (b1 : D) : evFun Tryz.prog md scalar_Conform_orc n 13 [] [a0, b1] =
 .br ((((a0.fld 1).els).length : Int) == 0) (.call 47 [] [b1.fld 1] fun yy1 =>
 .ret [D.sl ((yy1.getD 0 D.nil).els), D.int 0])
 (.br ((((b1.fld 1).els).length : Int) == 0) (.call 47 [] [a0.fld 1] fun yy2 =>
 .ret [D.sl ((yy2.getD 0 D.nil).els), D.int 0])
 (.br ((((a0.fld 1).els).length : Int) != (((b1.fld 1).els).length : Int)) (.ret [D.sl [], D.int 5])
 (.call 48 [] [a0.fld 1, b1.fld 1] fun yy3 =>
 .br (!((yy3.getD 0 D.nil).toBool)) (.ret [D.sl [], D.int 4])
 (.call 47 [] [a0.fld 1] fun yy4 =>
 .ret [D.sl ((yy4.getD 0 D.nil).els), D.int 0])))) := by kernel_rfl

/-! scrim/scalar.IsOne -/
def scalar_IsOne_orc : List (Nat × Orc) := []
theorem scalar_IsOne_tree (n : Nat) (f0 : D) : evFun Tryz.prog md scalar_IsOne_orc n 18 [] [f0] =
 .br (f0.toInt == 43) (.br (f0.toInt == 43) (.ret [D.bool true])
 (.ret [D.bool false]))
 (.br (f0.toInt == 45) (.br (f0.toInt == 45) (.ret [D.bool true])
 (.ret [D.bool false]))
 (.br (f0.toInt == 215) (.br (f0.toInt == 215) (.ret [D.bool true])
 (.ret [D.bool false]))
 (.br (f0.toInt == 247) (.br (f0.toInt == 247) (.ret [D.bool true])
 (.ret [D.bool false]))
 (.br (f0.toInt == 8968) (.br (f0.toInt == 8968) (.ret [D.bool true])
 (.ret [D.bool false]))
 (.br (f0.toInt == 8970) (.br (f0.toInt == 8970) (.ret [D.bool true])
 (.ret [D.bool false]))
 (.br (f0.toInt == 124) (.br (f0.toInt == 124) (.ret [D.bool true])
 (.ret [D.bool false]))
 (.br (f0.toInt == 126) (.br (f0.toInt == 126) (.ret [D.bool true])
 (.ret [D.bool false]))
 (.br (f0.toInt == 33) (.ret [D.bool true])
 (.ret [D.bool false]))))))))) := by kernel_rfl

/-! scrim/scalar.IsTwo -/
def scalar_IsTwo_orc : List (Nat × Orc) := []
theorem scalar_IsTwo_tree (n : Nat) (f0 : D) : evFun Tryz.prog md scalar_IsTwo_orc n 21 [] [f0] =
 .br (f0.toInt == 43) (.br (f0.toInt == 43) (.ret [D.bool true])
 (.ret [D.bool false]))
 (.br (f0.toInt == 45) (.br (f0.toInt == 45) (.ret [D.bool true])
 (.ret [D.bool false]))
 (.br (f0.toInt == 215) (.br (f0.toInt == 215) (.ret [D.bool true])
 (.ret [D.bool false]))
 (.br (f0.toInt == 247) (.br (f0.toInt == 247) (.ret [D.bool true])
 (.ret [D.bool false]))
 (.br (f0.toInt == 8968) (.br (f0.toInt == 8968) (.ret [D.bool true])
 (.ret [D.bool false]))
 (.br (f0.toInt == 8970) (.br (f0.toInt == 8970) (.ret [D.bool true])
 (.ret [D.bool false]))
 (.br (f0.toInt == 124) (.br (f0.toInt == 124) (.ret [D.bool true])
 (.ret [D.bool false]))
 (.br (f0.toInt == 42) (.br (f0.toInt == 42) (.ret [D.bool true])
 (.ret [D.bool false]))
 (.br (f0.toInt == 60) (.br (f0.toInt == 60) (.ret [D.bool true])
 (.ret [D.bool false]))
 (.br (f0.toInt == 8804) (.br (f0.toInt == 8804) (.ret [D.bool true])
 (.ret [D.bool false]))
 (.br (f0.toInt == 61) (.br (f0.toInt == 61) (.ret [D.bool true])
 (.ret [D.bool false]))
 (.br (f0.toInt == 8805) (.br (f0.toInt == 8805) (.ret [D.bool true])
 (.ret [D.bool false]))
 (.br (f0.toInt == 62) (.br (f0.toInt == 62) (.ret [D.bool true])
 (.ret [D.bool false]))
 (.br (f0.toInt == 8800) (.br (f0.toInt == 8800) (.ret [D.bool true])
 (.ret [D.bool false]))
 (.br (f0.toInt == 8743) (.br (f0.toInt == 8743) (.ret [D.bool true])
 (.ret [D.bool false]))
 (.br (f0.toInt == 8744) (.ret [D.bool true])
 (.ret [D.bool false])))))))))))))))) := by kernel_rfl

/-! scrim/scalar.Number -/
def scalar_Number_orc : List (Nat × Orc) := []
theorem scalar_Number_tree (n : Nat) (f0 : D) (n1 : D) : evFun Tryz.prog md scalar_Number_orc n 26 [] [f0, n1] =
 .br (f0.toInt == 43) (.call 56 [] [n1] fun yy1 =>
 .ret [(yy1.getD 0 D.nil).fld 2, D.int 0])
 (.br (f0.toInt == 45) (.call 57 [] [n1] fun yy2 =>
 .ret [yy2.getD 0 D.nil, D.int 0])
 (.br (f0.toInt == 215) (.call 59 [] [n1] fun yy3 =>
 .call 58 [] [D.int ((yy3.getD 0 D.nil).toInt)] fun yy4 =>
 .ret [yy4.getD 0 D.nil, D.int 0])
 (.br (f0.toInt == 247) (.call 58 [] [D.int 1] fun yy5 =>
 .call 60 [] [yy5.getD 0 D.nil, n1] fun yy6 =>
 .ret [yy6.getD 0 D.nil, D.int ((yy6.getD 1 D.nil).toInt)])
 (.br (f0.toInt == 8968) (.call 61 [] [n1] fun yy7 =>
 .ret [yy7.getD 0 D.nil, D.int 0])
 (.br (f0.toInt == 8970) (.call 62 [] [n1] fun yy8 =>
 .ret [yy8.getD 0 D.nil, D.int 0])
 (.br (f0.toInt == 124) (.call 63 [] [n1] fun yy9 =>
 .ret [yy9.getD 0 D.nil, D.int 0])
 (.br (f0.toInt == 126) (.call 64 [] [n1] fun yy10 =>
 .br (!((yy10.getD 1 D.nil).toBool)) (.ret [D.agg [D.bool false, D.sl [], D.sl []], D.int 3])
 (.br (((yy10.getD 0 D.nil).toInt) != 0) (.br (((yy10.getD 0 D.nil).toInt) != 1) (.ret [D.agg [D.bool false, D.sl [], D.sl []], D.int 3])
 (.call 58 [] [D.int (IntKind.wrap .i64 (1 - ((yy10.getD 0 D.nil).toInt)))] fun yy11 =>
 .ret [yy11.getD 0 D.nil, D.int 0]))
 (.call 58 [] [D.int (IntKind.wrap .i64 (1 - ((yy10.getD 0 D.nil).toInt)))] fun yy12 =>
 .ret [yy12.getD 0 D.nil, D.int 0])))
 (.br (f0.toInt == 33) (.call 65 [] [n1] fun yy13 =>
 .ret [yy13.getD 0 D.nil, D.int ((yy13.getD 1 D.nil).toInt)])
 (.ret [D.agg [D.bool false, D.sl [], D.sl []], D.int 8]))))))))) := by kernel_rfl

/-! scrim/scalar.Numbers -/
def scalar_Numbers_orc : List (Nat × Orc) := []
theorem scalar_Numbers_tree (n : Nat) (f0 : D) (a1 : D) (b2 : D) : evFun Tryz.prog md scalar_Numbers_orc n 28 [] [f0, a1, b2] =
 .br (f0.toInt == 43) (.call 71 [] [a1, b2] fun yy1 =>
 .ret [yy1.getD 0 D.nil, D.int ((yy1.getD 1 D.nil).toInt)])
 (.br (f0.toInt == 45) (.call 72 [] [a1, b2] fun yy2 =>
 .ret [yy2.getD 0 D.nil, D.int ((yy2.getD 1 D.nil).toInt)])
 (.br (f0.toInt == 215) (.call 73 [] [a1, b2] fun yy3 =>
 .ret [yy3.getD 0 D.nil, D.int ((yy3.getD 1 D.nil).toInt)])
 (.br (f0.toInt == 247) (.call 60 [] [a1, b2] fun yy4 =>
 .ret [yy4.getD 0 D.nil, D.int ((yy4.getD 1 D.nil).toInt)])
 (.br (f0.toInt == 8968) (.br (f0.toInt == 8968) (.call 74 [] [a1, b2] fun yy5 =>
 .br ((decide (((yy5.getD 0 D.nil).toInt) < 0)) == (f0.toInt == 8968)) (.call 56 [] [b2] fun yy6 =>
 .ret [(yy6.getD 0 D.nil).fld 2, D.int 0])
 (.call 56 [] [a1] fun yy7 =>
 .ret [(yy7.getD 0 D.nil).fld 2, D.int 0]))
 (.br (f0.toInt == 124) (.call 75 [] [a1, b2] fun yy8 =>
 .ret [yy8.getD 0 D.nil, D.int ((yy8.getD 1 D.nil).toInt)])
 (.br (f0.toInt == 42) (.call 64 [] [b2] fun yy9 =>
 .br (!((yy9.getD 1 D.nil).toBool)) (.ret [D.agg [D.bool false, D.sl [], D.sl []], D.int 8])
 (.call 76 [] [a1, D.int ((yy9.getD 0 D.nil).toInt)] fun yy10 =>
 .ret [yy10.getD 0 D.nil, D.int ((yy10.getD 1 D.nil).toInt)]))
 (.br (f0.toInt == 8743) (.call 77 [] [a1, b2] fun yy11 =>
 .ret [yy11.getD 0 D.nil, D.int ((yy11.getD 1 D.nil).toInt)])
 (.br (f0.toInt == 8744) (.call 78 [] [a1, b2] fun yy12 =>
 .ret [yy12.getD 0 D.nil, D.int ((yy12.getD 1 D.nil).toInt)])
 (.call 79 [] [D.int f0.toInt, a1, b2] fun yy13 =>
 .ret [yy13.getD 0 D.nil, D.int ((yy13.getD 1 D.nil).toInt)]))))))
 (.br (f0.toInt == 8970) (.call 74 [] [a1, b2] fun yy14 =>
 .br ((decide (((yy14.getD 0 D.nil).toInt) < 0)) == (f0.toInt == 8968)) (.call 56 [] [b2] fun yy15 =>
 .ret [(yy15.getD 0 D.nil).fld 2, D.int 0])
 (.call 56 [] [a1] fun yy16 =>
 .ret [(yy16.getD 0 D.nil).fld 2, D.int 0]))
 (.br (f0.toInt == 124) (.call 75 [] [a1, b2] fun yy17 =>
 .ret [yy17.getD 0 D.nil, D.int ((yy17.getD 1 D.nil).toInt)])
 (.br (f0.toInt == 42) (.call 64 [] [b2] fun yy18 =>
 .br (!((yy18.getD 1 D.nil).toBool)) (.ret [D.agg [D.bool false, D.sl [], D.sl []], D.int 8])
 (.call 76 [] [a1, D.int ((yy18.getD 0 D.nil).toInt)] fun yy19 =>
 .ret [yy19.getD 0 D.nil, D.int ((yy19.getD 1 D.nil).toInt)]))
 (.br (f0.toInt == 8743) (.call 77 [] [a1, b2] fun yy20 =>
 .ret [yy20.getD 0 D.nil, D.int ((yy20.getD 1 D.nil).toInt)])
 (.br (f0.toInt == 8744) (.call 78 [] [a1, b2] fun yy21 =>
 .ret [yy21.getD 0 D.nil, D.int ((yy21.getD 1 D.nil).toInt)])
 (.call 79 [] [D.int f0.toInt, a1, b2] fun yy22 =>
 .ret [yy22.getD 0 D.nil, D.int ((yy22.getD 1 D.nil).toInt)])))))))))) := by kernel_rfl

/-! scrim/scalar.One -/
def scalar_One_orc : List (Nat × Orc) := [(5, ⟨[(0, none), (4, none), (6, none), (26, some 24), (27, none), (28, none)], [(4, false), (6, false)], [(.fld 6 [1], 1050, 3), (.fld 6 [2], 1051, 66)]⟩)]
def scalar_One_ps : List Nat := [3, 26]
def scalar_One_rs : List ResultVar := [.cell 4 26, .tmp 5]
def scalar_One_ts : List Nat := [26, 29]
noncomputable def scalar_One_l5 (n m5 : Nat) (f0 : Int) (t26 : D) (t27 : Int) (t28 : Int) (t4_0 : Int) (out6_0 : Int) (out6_1 : List D) (out6_2 : List D) : Tree :=
  evLoop Tryz.prog md (ev Tryz.prog md n scalar_One_orc (cAt (bodyOf Tryz.prog 31) [1, 1, 1, 0, 1, 0, 0])) (orcAt scalar_One_orc 5) m5 ⟨[.i .i64 f0, .undef, .undef, .undef, .ptr 4 [], .undef, .ptr 6 [], .undef, .undef, .undef, .undef, .undef, .undef, .undef, .undef, .undef, .undef, .undef, .undef, .undef, .undef, .undef, .undef, .undef, .undef, .undef, .d 24 t26, .i .i64 t27, .i .i64 t28, .undef, .undef, .undef, .undef, .undef, .undef, .undef, .undef, .undef, .undef, .undef, .undef, .undef, .undef, .undef, .undef, .undef, .undef, .undef, .undef, .undef], [(4, .var 26 (.agg 26 [.i .u64 t4_0, .mt, .mt]) true), (6, .var 26 (.agg 26 [.i .u64 out6_0, .row 1050, .row 1051]) true), (1050, .row 3 out6_1 true), (1051, .row 66 out6_2 true)], [4, 6, 1050, 1051], [], []⟩
   (blockK 0 (seqK (joinE Tryz.prog md (joinAt scalar_One_orc (cAt (bodyOf Tryz.prog 31) [1, 1, 1, 1])) (ev Tryz.prog md n scalar_One_orc (cAt (bodyOf Tryz.prog 31) [1, 1, 1, 1]))) (retK Tryz.prog md (md 31) scalar_One_ps scalar_One_rs scalar_One_ts)))
theorem scalar_One_l5_succ (n m5 : Nat) (f0 : Int) (t26 : D) (t27 : Int) (t28 : Int) (t4_0 : Int) (out6_0 : Int) (out6_1 : List D) (out6_2 : List D) : scalar_One_l5 n (m5 + 1) f0 t26 t27 t28 t4_0 out6_0 out6_1 out6_2 =
 .br (decide (t28 < t27)) (.br (decide (0 ≤ t28)) (.br (decide (t28 < (t26.els.length : Int))) (.call 89 [] [D.int f0, t26.els.getD (Int.toNat t28) D.nil] fun yy3 =>
 .br (((yy3.getD 1 D.nil).toInt) != 0) (.ret [D.agg [D.int 0, D.sl [], D.sl []], D.int ((yy3.getD 1 D.nil).toInt)])
 (.br (decide (0 ≤ t28)) (.br (decide (t28 < (out6_2.length : Int))) (scalar_One_l5 n m5 f0 t26 t27 (IntKind.wrap .i64 (t28 + 1)) t4_0 out6_0 out6_1 (out6_2.set (Int.toNat t28) (yy3.getD 0 D.nil))) .fail) .fail)) .fail) .fail)
 (.ret [D.agg [D.int out6_0, D.sl out6_1, D.sl out6_2], D.int 0]) := by kernel_rfl
theorem scalar_One_tree (n : Nat) (f0 : D) (a1 : D) : evFun Tryz.prog md scalar_One_orc n 31 [] [f0, a1] =
 .call 18 [] [D.int f0.toInt] fun yy1 =>
 .br (!((yy1.getD 0 D.nil).toBool)) (.ret [D.agg [D.int 0, D.sl [], D.sl []], D.int 8])
 (.call 47 [] [a1.fld 1] fun yy2 =>
 .br (decide (0 ≤ (((a1.fld 2).els).length : Int))) (.br (decide ((((a1.fld 2).els).length : Int) ≤ (((a1.fld 2).els).length : Int))) (.br (decide ((((a1.fld 2).els).length : Int) ≤ bigN)) (scalar_One_l5 n n f0.toInt (a1.fld 2) (((a1.fld 2).els).length : Int) 0 0 ((a1.fld 0).toInt) ((yy2.getD 0 D.nil).els) (List.replicate (Int.toNat (((a1.fld 2).els).length : Int)) (D.agg [D.int 0, D.int 0, D.agg [D.bool false, D.sl [], D.sl []], D.int 0, D.sl []]))) .fail) .fail) .fail) := by kernel_rfl

/-! scrim/scalar.twoCells -/
def scalar_twoCells_orc : List (Nat × Orc) := []
theorem scalar_twoCells_tree (n : Nat) (f0 : D) (x1 : D) (y2 : D) : evFun Tryz.prog md scalar_twoCells_orc n 41 [] [f0, x1, y2] =
 .call 40 [] [D.int ((x1.fld 0).toInt), D.int ((y2.fld 0).toInt)] fun yy1 =>
 .br (((x1.fld 1).toInt) == 2) (.call 96 [] [x1] fun yy2 =>
 .call 96 [] [y2] fun yy3 =>
 .call 11 [] [D.int f0.toInt, yy2.getD 0 D.nil, yy3.getD 0 D.nil] fun yy4 =>
 .ret [D.agg [D.int ((yy1.getD 0 D.nil).toInt), D.int 2, D.agg [D.bool false, D.sl [], D.sl []], D.int 0, D.sl [yy4.getD 0 D.nil]], D.int ((yy4.getD 1 D.nil).toInt)])
 (.br (((y2.fld 1).toInt) == 2) (.call 96 [] [x1] fun yy5 =>
 .call 96 [] [y2] fun yy6 =>
 .call 11 [] [D.int f0.toInt, yy5.getD 0 D.nil, yy6.getD 0 D.nil] fun yy7 =>
 .ret [D.agg [D.int ((yy1.getD 0 D.nil).toInt), D.int 2, D.agg [D.bool false, D.sl [], D.sl []], D.int 0, D.sl [yy7.getD 0 D.nil]], D.int ((yy7.getD 1 D.nil).toInt)])
 (.br (((x1.fld 1).toInt) == 0) (.br (((y2.fld 1).toInt) == 0) (.call 28 [] [D.int f0.toInt, x1.fld 2, y2.fld 2] fun yy8 =>
 .ret [D.agg [D.int ((yy1.getD 0 D.nil).toInt), D.int 0, yy8.getD 0 D.nil, D.int 0, D.sl []], D.int ((yy8.getD 1 D.nil).toInt)])
 (.br (f0.toInt == 61) (.br (((x1.fld 1).toInt) == ((y2.fld 1).toInt)) (.call 97 [] [D.bool ((((x1.fld 3).toInt) == ((y2.fld 3).toInt)) == (f0.toInt == 61))] fun yy9 =>
 .ret [D.agg [D.int ((yy1.getD 0 D.nil).toInt), D.int 0, yy9.getD 0 D.nil, D.int 0, D.sl []], D.int 0])
 (.call 97 [] [D.bool (false == (f0.toInt == 61))] fun yy10 =>
 .ret [D.agg [D.int ((yy1.getD 0 D.nil).toInt), D.int 0, yy10.getD 0 D.nil, D.int 0, D.sl []], D.int 0]))
 (.br (f0.toInt == 8800) (.br (((x1.fld 1).toInt) == ((y2.fld 1).toInt)) (.call 97 [] [D.bool ((((x1.fld 3).toInt) == ((y2.fld 3).toInt)) == (f0.toInt == 61))] fun yy11 =>
 .ret [D.agg [D.int ((yy1.getD 0 D.nil).toInt), D.int 0, yy11.getD 0 D.nil, D.int 0, D.sl []], D.int 0])
 (.call 97 [] [D.bool (false == (f0.toInt == 61))] fun yy12 =>
 .ret [D.agg [D.int ((yy1.getD 0 D.nil).toInt), D.int 0, yy12.getD 0 D.nil, D.int 0, D.sl []], D.int 0]))
 (.ret [D.agg [D.int ((yy1.getD 0 D.nil).toInt), D.int 0, D.agg [D.bool false, D.sl [], D.sl []], D.int 0, D.sl []], D.int 3]))))
 (.br (f0.toInt == 61) (.br (((x1.fld 1).toInt) == ((y2.fld 1).toInt)) (.call 97 [] [D.bool ((((x1.fld 3).toInt) == ((y2.fld 3).toInt)) == (f0.toInt == 61))] fun yy13 =>
 .ret [D.agg [D.int ((yy1.getD 0 D.nil).toInt), D.int 0, yy13.getD 0 D.nil, D.int 0, D.sl []], D.int 0])
 (.call 97 [] [D.bool (false == (f0.toInt == 61))] fun yy14 =>
 .ret [D.agg [D.int ((yy1.getD 0 D.nil).toInt), D.int 0, yy14.getD 0 D.nil, D.int 0, D.sl []], D.int 0]))
 (.br (f0.toInt == 8800) (.br (((x1.fld 1).toInt) == ((y2.fld 1).toInt)) (.call 97 [] [D.bool ((((x1.fld 3).toInt) == ((y2.fld 3).toInt)) == (f0.toInt == 61))] fun yy15 =>
 .ret [D.agg [D.int ((yy1.getD 0 D.nil).toInt), D.int 0, yy15.getD 0 D.nil, D.int 0, D.sl []], D.int 0])
 (.call 97 [] [D.bool (false == (f0.toInt == 61))] fun yy16 =>
 .ret [D.agg [D.int ((yy1.getD 0 D.nil).toInt), D.int 0, yy16.getD 0 D.nil, D.int 0, D.sl []], D.int 0]))
 (.ret [D.agg [D.int ((yy1.getD 0 D.nil).toInt), D.int 0, D.agg [D.bool false, D.sl [], D.sl []], D.int 0, D.sl []], D.int 3]))))) := by kernel_rfl

/-! scrim/scalar.pick -/
def scalar_pick_orc : List (Nat × Orc) := []
theorem scalar_pick_tree (n : Nat) (a0 : D) (i1 : D) : evFun Tryz.prog md scalar_pick_orc n 42 [] [a0, i1] =
 .br ((((a0.fld 1).els).length : Int) == 0) (.br (decide ((0 : Int) < 0)) (.ret [D.agg [D.int 0, D.int 0, D.agg [D.bool false, D.sl [], D.sl []], D.int 0, D.sl []]])
 (.br (decide ((((a0.fld 2).els).length : Int) ≤ (0 : Int))) (.ret [D.agg [D.int 0, D.int 0, D.agg [D.bool false, D.sl [], D.sl []], D.int 0, D.sl []]])
 (.br (decide (0 ≤ 0)) (.br (decide (0 < (((a0.fld 2).els).length : Int))) (.ret [((a0.fld 2).els).getD (Int.toNat 0) D.nil]) .fail) .fail)))
 (.br (decide (i1.toInt < 0)) (.ret [D.agg [D.int 0, D.int 0, D.agg [D.bool false, D.sl [], D.sl []], D.int 0, D.sl []]])
 (.br (decide ((((a0.fld 2).els).length : Int) ≤ i1.toInt)) (.ret [D.agg [D.int 0, D.int 0, D.agg [D.bool false, D.sl [], D.sl []], D.int 0, D.sl []]])
 (.br (decide (0 ≤ i1.toInt)) (.br (decide (i1.toInt < (((a0.fld 2).els).length : Int))) (.ret [((a0.fld 2).els).getD (Int.toNat i1.toInt) D.nil]) .fail) .fail))) := by kernel_rfl

/-! scrim/scalar.factorial -/
def scalar_factorial_orc : List (Nat × Orc) := [(9, ⟨[(2, none), (6, none), (8, none), (9, none)], [(2, false), (8, true)], []⟩)]
def scalar_factorial_ps : List Nat := [44]
def scalar_factorial_rs : List ResultVar := [.cell 2 44, .tmp 3]
def scalar_factorial_ts : List Nat := [44, 29]
noncomputable def scalar_factorial_l9 (n m9 : Nat) (most6 : Int) (i9 : Int) (t2_0 : Bool) (product8 : D) : Tree :=
  evLoop Tryz.prog md (ev Tryz.prog md n scalar_factorial_orc (cAt (bodyOf Tryz.prog 65) [1, 1, 1, 1, 1, 0, 1, 0, 0])) (orcAt scalar_factorial_orc 9) m9 ⟨[.undef, .undef, .ptr 2 [], .undef, .undef, .undef, .i .i64 most6, .undef, .ptr 8 [], .i .i64 i9, .undef, .undef, .undef, .undef, .undef, .undef, .undef, .undef, .undef, .undef, .undef, .undef, .undef, .undef, .undef, .undef, .undef, .undef, .undef, .undef, .undef, .undef, .undef, .undef, .undef, .undef, .undef, .undef, .undef, .undef, .undef, .undef, .undef, .undef, .undef, .undef, .undef, .undef, .undef, .undef, .undef, .undef], [(2, .var 44 (.agg 44 [.b t2_0, .mt, .mt]) true), (8, .var 118 (.d 118 product8) true)], [2, 8], [], []⟩
   (blockK 0 (seqK (joinE Tryz.prog md (joinAt scalar_factorial_orc (cAt (bodyOf Tryz.prog 65) [1, 1, 1, 1, 1, 1])) (ev Tryz.prog md n scalar_factorial_orc (cAt (bodyOf Tryz.prog 65) [1, 1, 1, 1, 1, 1]))) (retK Tryz.prog md (md 65) scalar_factorial_ps scalar_factorial_rs scalar_factorial_ts)))
theorem scalar_factorial_l9_succ (n m9 : Nat) (most6 : Int) (i9 : Int) (t2_0 : Bool) (product8 : D) : scalar_factorial_l9 n (m9 + 1) most6 i9 t2_0 product8 =
 .br (decide (i9 ≤ most6)) (.call 111 [] [D.int i9] fun yy5 =>
 .call 115 [] [product8, yy5.getD 0 D.nil] fun yy6 =>
 scalar_factorial_l9 n m9 most6 (IntKind.wrap .i64 (i9 + 1)) t2_0 (yy6.getD 0 D.nil))
 (.br (decide (32 < (((product8.fld 1).els).length : Int))) (.ret [D.agg [D.bool false, D.sl [], D.sl []], D.int 7])
 (.call 110 [] [product8] fun yy7 =>
 .ret [yy7.getD 0 D.nil, D.int 0])) := by kernel_rfl
theorem scalar_factorial_tree (n : Nat) (n0 : D) : evFun Tryz.prog md scalar_factorial_orc n 65 [] [n0] =
 .call 120 [] [n0] fun yy1 =>
 .br (!((yy1.getD 1 D.nil).toBool)) (.ret [D.agg [D.bool false, D.sl [], D.sl []], D.int 3])
 (.call 59 [] [n0] fun yy2 =>
 .br (decide (((yy2.getD 0 D.nil).toInt) < 0)) (.ret [D.agg [D.bool false, D.sl [], D.sl []], D.int 3])
 (.call 64 [] [n0] fun yy3 =>
 .br (!((yy3.getD 1 D.nil).toBool)) (.ret [D.agg [D.bool false, D.sl [], D.sl []], D.int 7])
 (.br (decide (200 < ((yy3.getD 0 D.nil).toInt))) (.ret [D.agg [D.bool false, D.sl [], D.sl []], D.int 7])
 (.call 111 [] [D.int 1] fun yy4 =>
 scalar_factorial_l9 n n ((yy3.getD 0 D.nil).toInt) 2 false (yy4.getD 0 D.nil))))) := by kernel_rfl

/-! scrim/scalar.compared -/
def scalar_compared_orc : List (Nat × Orc) := []
theorem scalar_compared_tree (n : Nat) (f0 : D) (a1 : D) (b2 : D) : evFun Tryz.prog md scalar_compared_orc n 79 [] [f0, a1, b2] =
 .call 74 [] [a1, b2] fun yy1 =>
 .br (f0.toInt == 60) (.call 97 [] [D.bool (decide (((yy1.getD 0 D.nil).toInt) < 0))] fun yy2 =>
 .ret [yy2.getD 0 D.nil, D.int 0])
 (.br (f0.toInt == 8804) (.call 97 [] [D.bool (decide (((yy1.getD 0 D.nil).toInt) ≤ 0))] fun yy3 =>
 .ret [yy3.getD 0 D.nil, D.int 0])
 (.br (f0.toInt == 61) (.call 97 [] [D.bool (((yy1.getD 0 D.nil).toInt) == 0)] fun yy4 =>
 .ret [yy4.getD 0 D.nil, D.int 0])
 (.br (f0.toInt == 8805) (.call 97 [] [D.bool (decide (0 ≤ ((yy1.getD 0 D.nil).toInt)))] fun yy5 =>
 .ret [yy5.getD 0 D.nil, D.int 0])
 (.br (f0.toInt == 62) (.call 97 [] [D.bool (decide (0 < ((yy1.getD 0 D.nil).toInt)))] fun yy6 =>
 .ret [yy6.getD 0 D.nil, D.int 0])
 (.br (f0.toInt == 8800) (.call 97 [] [D.bool (((yy1.getD 0 D.nil).toInt) != 0)] fun yy7 =>
 .ret [yy7.getD 0 D.nil, D.int 0])
 (.ret [D.agg [D.bool false, D.sl [], D.sl []], D.int 8])))))) := by kernel_rfl

/-! scrim/scalar.oneCell -/
def scalar_oneCell_orc : List (Nat × Orc) := []
theorem scalar_oneCell_tree (n : Nat) (f0 : D) (c1 : D) : evFun Tryz.prog md scalar_oneCell_orc n 89 [] [f0, c1] =
 .br (((c1.fld 1).toInt) == 0) (.call 26 [] [D.int f0.toInt, c1.fld 2] fun yy1 =>
 .ret [D.agg [D.int ((c1.fld 0).toInt), D.int 0, yy1.getD 0 D.nil, D.int 0, D.sl []], D.int ((yy1.getD 1 D.nil).toInt)])
 (.br (((c1.fld 1).toInt) == 2) (.call 131 [] [c1] fun yy2 =>
 .call 31 [] [D.int f0.toInt, yy2.getD 0 D.nil] fun yy3 =>
 .ret [D.agg [D.int ((c1.fld 0).toInt), D.int 2, D.agg [D.bool false, D.sl [], D.sl []], D.int 0, D.sl [yy3.getD 0 D.nil]], D.int ((yy3.getD 1 D.nil).toInt)])
 (.ret [D.agg [D.int 0, D.int 0, D.agg [D.bool false, D.sl [], D.sl []], D.int 0, D.sl []], D.int 3])) := by kernel_rfl

/-! scrim/scalar.content -/
def scalar_content_orc : List (Nat × Orc) := []
theorem scalar_content_tree (n : Nat) (c0 : D) : evFun Tryz.prog md scalar_content_orc n 96 [] [c0] =
 .br (((c0.fld 1).toInt) == 2) (.call 131 [] [c0] fun yy1 =>
 .ret [yy1.getD 0 D.nil])
 (.call 38 [] [D.agg [D.int 0, D.int ((c0.fld 1).toInt), c0.fld 2, D.int ((c0.fld 3).toInt), c0.fld 4]] fun yy2 =>
 .ret [yy2.getD 0 D.nil]) := by kernel_rfl

/-! scrim/scalar.truth -/
def scalar_truth_orc : List (Nat × Orc) := []
theorem scalar_truth_tree (n : Nat) (holds0 : D) : evFun Tryz.prog md scalar_truth_orc n 97 [] [holds0] =
 .br holds0.toBool (.call 58 [] [D.int 1] fun yy1 =>
 .ret [yy1.getD 0 D.nil])
 (.call 58 [] [D.int 0] fun yy2 =>
 .ret [yy2.getD 0 D.nil]) := by kernel_rfl

/-! scrim/scalar.inside -/
def scalar_inside_orc : List (Nat × Orc) := []
theorem scalar_inside_tree (n : Nat) (c0 : D) : evFun Tryz.prog md scalar_inside_orc n 131 [] [c0] =
 .br ((((c0.fld 4).els).length : Int) == 0) (.ret [D.agg [D.int 0, D.sl [], D.sl []]])
 (.br (decide (0 ≤ 0)) (.br (decide (0 < (((c0.fld 4).els).length : Int))) (.ret [((c0.fld 4).els).getD (Int.toNat 0) D.nil]) .fail) .fail) := by kernel_rfl

end Go.Proofs.YtjmddikeadbmjaaGreat
set_option maxRecDepth 100000
namespace Go.Proofs.YtjmddikeadbmjaaGreat
/-! scrim/scrimref10.Two -/
def ref10_Two_orc : List (Nat × Orc) := [(9, ⟨[(0, none), (4, none), (5, none), (6, none), (10, none), (12, none), (13, none)], [(4, true), (5, true), (6, false), (12, false)], [(.fld 12 [2], 1090, 66)]⟩)]
def ref10_Two_ps : List Nat := [3, 26, 26]
def ref10_Two_rs : List ResultVar := [.cell 6 26, .tmp 7]
def ref10_Two_ts : List Nat := [26, 3]
noncomputable def ref10_Two_l9 (n m9 : Nat) (f0 : Int) (n10 : Int) (i13 : Int) (a4 : D) (b5 : D) (t6_0 : Int) (out12_0 : Int) (out12_1 : D) (out12_2 : List D) : Tree :=
  evLoop Tryz.prog md (ev Tryz.prog md n ref10_Two_orc (cAt (bodyOf Tryz.prog 12) [1, 1, 1, 1, 1, 1, 0, 1, 0, 0])) (orcAt ref10_Two_orc 9) m9 ⟨[.i .i64 f0, .undef, .undef, .undef, .ptr 4 [], .ptr 5 [], .ptr 6 [], .undef, .undef, .undef, .i .i64 n10, .undef, .ptr 12 [], .i .i64 i13, .undef, .undef, .undef, .undef, .undef, .undef, .undef, .undef, .undef, .undef, .undef, .undef, .undef, .undef, .undef, .undef, .undef, .undef, .undef, .undef, .undef, .undef, .undef, .undef, .undef, .undef, .undef, .undef, .undef, .undef, .undef, .undef, .undef, .undef, .undef, .undef, .undef, .undef, .undef, .undef, .undef, .undef, .undef, .undef, .undef, .undef, .undef, .undef, .undef, .undef, .undef, .undef, .undef, .undef, .undef, .undef], [(4, .var 26 (.d 26 a4) true), (5, .var 26 (.d 26 b5) true), (6, .var 26 (.agg 26 [.i .u64 t6_0, .mt, .mt]) true), (12, .var 26 (.agg 26 [.i .u64 out12_0, .d 23 out12_1, .row 1090]) true), (1090, .row 66 out12_2 true)], [4, 5, 6, 12, 1090], [], []⟩
   (blockK 0 (seqK (joinE Tryz.prog md (joinAt ref10_Two_orc (cAt (bodyOf Tryz.prog 12) [1, 1, 1, 1, 1, 1, 1])) (ev Tryz.prog md n ref10_Two_orc (cAt (bodyOf Tryz.prog 12) [1, 1, 1, 1, 1, 1, 1]))) (retK Tryz.prog md (md 12) ref10_Two_ps ref10_Two_rs ref10_Two_ts)))
theorem ref10_Two_l9_succ (n m9 : Nat) (f0 : Int) (n10 : Int) (i13 : Int) (a4 : D) (b5 : D) (t6_0 : Int) (out12_0 : Int) (out12_1 : D) (out12_2 : List D) : ref10_Two_l9 n (m9 + 1) f0 n10 i13 a4 b5 t6_0 out12_0 out12_1 out12_2 =
 .br (decide (i13 < n10)) (.call 46 [] [a4, D.int i13] fun yy6 =>
 .call 46 [] [b5, D.int i13] fun yy7 =>
 .call 45 [] [D.int f0, yy6.getD 0 D.nil, yy7.getD 0 D.nil] fun yy8 =>
 .br (((yy8.getD 1 D.nil).toInt) != 0) (.ret [D.agg [D.int 0, D.sl [], D.sl []], D.int ((yy8.getD 1 D.nil).toInt)])
 (.br (decide (out12_2.length + [yy8.getD 0 D.nil].length ≤ bigN)) (ref10_Two_l9 n m9 f0 n10 (IntKind.wrap .i64 (i13 + 1)) a4 b5 t6_0 out12_0 out12_1 (out12_2 ++ [yy8.getD 0 D.nil])) .fail))
 (.ret [D.agg [D.int out12_0, out12_1, D.sl out12_2], D.int 0]) := by kernel_rfl
theorem ref10_Two_tree (n : Nat) (f0 : D) (a1 : D) (b2 : D) : evFun Tryz.prog md ref10_Two_orc n 12 [] [f0, a1, b2] =
 .call 22 [] [] fun yy1 =>
 .call 19 [] [yy1.getD 0 D.nil, D.int f0.toInt] fun yy2 =>
 .br (!((yy2.getD 0 D.nil).toBool)) (.ret [D.agg [D.int 0, D.sl [], D.sl []], D.int 8])
 (.call 14 [] [a1, b2] fun yy3 =>
 .br (((yy3.getD 1 D.nil).toInt) != 0) (.ret [D.agg [D.int 0, D.sl [], D.sl []], D.int ((yy3.getD 1 D.nil).toInt)])
 (.call 43 [] [yy3.getD 0 D.nil] fun yy4 =>
 .call 44 [] [D.int ((a1.fld 0).toInt), D.int ((b2.fld 0).toInt)] fun yy5 =>
 ref10_Two_l9 n n f0.toInt ((yy4.getD 0 D.nil).toInt) 0 a1 b2 0 ((yy5.getD 0 D.nil).toInt) (yy3.getD 0 D.nil) [])) := by kernel_rfl

/-! scrim/scrimref10.Conform -/
def ref10_Conform_orc : List (Nat × Orc) := []
theorem ref10_Conform_tree (n : Nat) (a0 : D) (b1 : D) : evFun Tryz.prog md ref10_Conform_orc n 14 [] [a0, b1] =
 .br ((((a0.fld 1).els).length : Int) == 0) (.ret [b1.fld 1, D.int 0])
 (.br ((((b1.fld 1).els).length : Int) == 0) (.ret [a0.fld 1, D.int 0])
 (.br ((((a0.fld 1).els).length : Int) != (((b1.fld 1).els).length : Int)) (.ret [D.sl [], D.int 5])
 (.call 17 [] [a0.fld 1, b1.fld 1] fun yy1 =>
 .br (!((yy1.getD 0 D.nil).toBool)) (.ret [D.sl [], D.int 4])
 (.ret [a0.fld 1, D.int 0])))) := by kernel_rfl

/-! scrim/scrimref10.Same -/
def ref10_Same_orc : List (Nat × Orc) := []
theorem ref10_Same_tree (n : Nat) (a0 : D) (e1 : D) (b2 : D) (f3 : D) : evFun Tryz.prog md ref10_Same_orc n 15 [] [a0, e1, b2, f3] =
 .br (e1.toInt == f3.toInt) (.call 49 [] [a0, b2] fun yy1 =>
 .ret [D.bool ((yy1.getD 0 D.nil).toBool)])
 (.ret [D.bool false]) := by kernel_rfl

/-! scrim/scrimref10.Ones -/
def ref10_Ones_orc : List (Nat × Orc) := []
theorem ref10_Ones_tree (n : Nat)  : evFun Tryz.prog md ref10_Ones_orc n 20 [] [] =
 .ret [D.sl [D.int 43, D.int 45, D.int 215, D.int 247, D.int 8968, D.int 8970, D.int 124, D.int 126, D.int 33]] := by kernel_rfl

/-! scrim/scrimref10.Twos -/
def ref10_Twos_orc : List (Nat × Orc) := []
theorem ref10_Twos_tree (n : Nat)  : evFun Tryz.prog md ref10_Twos_orc n 22 [] [] =
 .ret [D.sl [D.int 43, D.int 45, D.int 215, D.int 247, D.int 8968, D.int 8970, D.int 124, D.int 42, D.int 60, D.int 8804, D.int 61, D.int 8805, D.int 62, D.int 8800, D.int 8743, D.int 8744]] := by kernel_rfl

/-! scrim/scrimref10.Number -/
def ref10_Number_orc : List (Nat × Orc) := []
theorem ref10_Number_tree (n : Nat) (f0 : D) (n1 : D) : evFun Tryz.prog md ref10_Number_orc n 27 [] [f0, n1] =
 .br (f0.toInt == 43) (.ret [n1, D.int 0])
 (.br (f0.toInt == 45) (.call 66 [] [n1] fun yy1 =>
 .ret [yy1.getD 0 D.nil, D.int 0])
 (.br (f0.toInt == 215) (.call 39 [] [D.int 0] fun yy2 =>
 .call 67 [] [n1, yy2.getD 0 D.nil] fun yy3 =>
 .call 39 [] [D.int ((yy3.getD 0 D.nil).toInt)] fun yy4 =>
 .ret [yy4.getD 0 D.nil, D.int 0])
 (.br (f0.toInt == 247) (.call 39 [] [D.int 1] fun yy5 =>
 .call 68 [] [yy5.getD 0 D.nil, n1] fun yy6 =>
 .ret [yy6.getD 0 D.nil, D.int ((yy6.getD 1 D.nil).toInt)])
 (.br (f0.toInt == 8968) (.call 66 [] [n1] fun yy7 =>
 .call 69 [] [yy7.getD 0 D.nil] fun yy8 =>
 .call 66 [] [yy8.getD 0 D.nil] fun yy9 =>
 .ret [yy9.getD 0 D.nil, D.int 0])
 (.br (f0.toInt == 8970) (.call 69 [] [n1] fun yy10 =>
 .ret [yy10.getD 0 D.nil, D.int 0])
 (.br (f0.toInt == 124) (.br ((n1.fld 0).toBool) (.call 66 [] [n1] fun yy11 =>
 .ret [yy11.getD 0 D.nil, D.int 0])
 (.ret [n1, D.int 0]))
 (.br (f0.toInt == 126) (.call 39 [] [D.int 0] fun yy12 =>
 .call 30 [] [n1, yy12.getD 0 D.nil] fun yy13 =>
 .br ((yy13.getD 0 D.nil).toBool) (.call 39 [] [D.int 1] fun yy14 =>
 .ret [yy14.getD 0 D.nil, D.int 0])
 (.call 39 [] [D.int 1] fun yy15 =>
 .call 30 [] [n1, yy15.getD 0 D.nil] fun yy16 =>
 .br ((yy16.getD 0 D.nil).toBool) (.call 39 [] [D.int 0] fun yy17 =>
 .ret [yy17.getD 0 D.nil, D.int 0])
 (.ret [D.agg [D.bool false, D.sl [], D.sl []], D.int 3])))
 (.br (f0.toInt == 33) (.call 70 [] [n1] fun yy18 =>
 .ret [yy18.getD 0 D.nil, D.int ((yy18.getD 1 D.nil).toInt)])
 (.ret [D.agg [D.bool false, D.sl [], D.sl []], D.int 8]))))))))) := by kernel_rfl

/-! scrim/scrimref10.Numbers -/
def ref10_Numbers_orc : List (Nat × Orc) := []
theorem ref10_Numbers_tree (n : Nat) (f0 : D) (a1 : D) (b2 : D) : evFun Tryz.prog md ref10_Numbers_orc n 29 [] [f0, a1, b2] =
 .call 67 [] [a1, b2] fun yy1 =>
 .br (f0.toInt == 43) (.call 80 [] [a1, b2] fun yy2 =>
 .ret [yy2.getD 0 D.nil, D.int ((yy2.getD 1 D.nil).toInt)])
 (.br (f0.toInt == 45) (.call 81 [] [a1, b2] fun yy3 =>
 .ret [yy3.getD 0 D.nil, D.int ((yy3.getD 1 D.nil).toInt)])
 (.br (f0.toInt == 215) (.call 82 [] [a1, b2] fun yy4 =>
 .ret [yy4.getD 0 D.nil, D.int ((yy4.getD 1 D.nil).toInt)])
 (.br (f0.toInt == 247) (.call 68 [] [a1, b2] fun yy5 =>
 .ret [yy5.getD 0 D.nil, D.int ((yy5.getD 1 D.nil).toInt)])
 (.br (f0.toInt == 8968) (.br (decide (0 < ((yy1.getD 0 D.nil).toInt))) (.ret [a1, D.int 0])
 (.ret [b2, D.int 0]))
 (.br (f0.toInt == 8970) (.br (decide (((yy1.getD 0 D.nil).toInt) < 0)) (.ret [a1, D.int 0])
 (.ret [b2, D.int 0]))
 (.br (f0.toInt == 124) (.call 83 [] [a1, b2] fun yy6 =>
 .ret [yy6.getD 0 D.nil, D.int ((yy6.getD 1 D.nil).toInt)])
 (.br (f0.toInt == 42) (.call 23 [] [b2] fun yy7 =>
 .br (!((yy7.getD 1 D.nil).toBool)) (.ret [D.agg [D.bool false, D.sl [], D.sl []], D.int 8])
 (.call 84 [] [a1, D.int ((yy7.getD 0 D.nil).toInt)] fun yy8 =>
 .ret [yy8.getD 0 D.nil, D.int ((yy8.getD 1 D.nil).toInt)]))
 (.br (f0.toInt == 60) (.call 85 [] [D.bool (decide (((yy1.getD 0 D.nil).toInt) < 0))] fun yy9 =>
 .ret [yy9.getD 0 D.nil, D.int ((yy9.getD 1 D.nil).toInt)])
 (.br (f0.toInt == 8804) (.call 85 [] [D.bool (decide (((yy1.getD 0 D.nil).toInt) ≤ 0))] fun yy10 =>
 .ret [yy10.getD 0 D.nil, D.int ((yy10.getD 1 D.nil).toInt)])
 (.br (f0.toInt == 61) (.call 85 [] [D.bool (((yy1.getD 0 D.nil).toInt) == 0)] fun yy11 =>
 .ret [yy11.getD 0 D.nil, D.int ((yy11.getD 1 D.nil).toInt)])
 (.br (f0.toInt == 8805) (.call 85 [] [D.bool (decide (0 ≤ ((yy1.getD 0 D.nil).toInt)))] fun yy12 =>
 .ret [yy12.getD 0 D.nil, D.int ((yy12.getD 1 D.nil).toInt)])
 (.br (f0.toInt == 62) (.call 85 [] [D.bool (decide (0 < ((yy1.getD 0 D.nil).toInt)))] fun yy13 =>
 .ret [yy13.getD 0 D.nil, D.int ((yy13.getD 1 D.nil).toInt)])
 (.br (f0.toInt == 8800) (.call 85 [] [D.bool (((yy1.getD 0 D.nil).toInt) != 0)] fun yy14 =>
 .ret [yy14.getD 0 D.nil, D.int ((yy14.getD 1 D.nil).toInt)])
 (.br (f0.toInt == 8743) (.call 86 [] [a1, b2] fun yy15 =>
 .ret [yy15.getD 0 D.nil, D.int ((yy15.getD 1 D.nil).toInt)])
 (.br (f0.toInt == 8744) (.call 87 [] [a1, b2] fun yy16 =>
 .ret [yy16.getD 0 D.nil, D.int ((yy16.getD 1 D.nil).toInt)])
 (.ret [D.agg [D.bool false, D.sl [], D.sl []], D.int 8])))))))))))))))) := by kernel_rfl

/-! scrim/scrimref10.One -/
def ref10_One_orc : List (Nat × Orc) := [(5, ⟨[(0, none), (3, none), (4, none), (6, none), (7, none)], [(3, true), (4, false), (6, false)], [(.fld 6 [2], 1050, 66)]⟩)]
def ref10_One_ps : List Nat := [3, 26]
def ref10_One_rs : List ResultVar := [.cell 4 26, .tmp 5]
def ref10_One_ts : List Nat := [26, 3]
noncomputable def ref10_One_l5 (n m5 : Nat) (f0 : Int) (i7 : Int) (a3 : D) (t4_0 : Int) (out6_0 : Int) (out6_1 : D) (out6_2 : List D) : Tree :=
  evLoop Tryz.prog md (ev Tryz.prog md n ref10_One_orc (cAt (bodyOf Tryz.prog 32) [1, 1, 1, 0, 1, 0, 0])) (orcAt ref10_One_orc 5) m5 ⟨[.i .i64 f0, .undef, .undef, .ptr 3 [], .ptr 4 [], .undef, .ptr 6 [], .i .i64 i7, .undef, .undef, .undef, .undef, .undef, .undef, .undef, .undef, .undef, .undef, .undef, .undef, .undef, .undef, .undef, .undef, .undef, .undef, .undef, .undef, .undef, .undef, .undef, .undef, .undef, .undef, .undef, .undef, .undef, .undef, .undef, .undef, .undef, .undef, .undef, .undef, .undef, .undef, .undef, .undef, .undef, .undef, .undef, .undef, .undef, .undef, .undef, .undef, .undef, .undef, .undef, .undef, .undef, .undef, .undef, .undef, .undef, .undef, .undef, .undef, .undef, .undef, .undef, .undef, .undef, .undef, .undef, .undef, .undef, .undef], [(3, .var 26 (.d 26 a3) true), (4, .var 26 (.agg 26 [.i .u64 t4_0, .mt, .mt]) true), (6, .var 26 (.agg 26 [.i .u64 out6_0, .d 23 out6_1, .row 1050]) true), (1050, .row 66 out6_2 true)], [3, 4, 6, 1050], [], []⟩
   (blockK 0 (seqK (joinE Tryz.prog md (joinAt ref10_One_orc (cAt (bodyOf Tryz.prog 32) [1, 1, 1, 1])) (ev Tryz.prog md n ref10_One_orc (cAt (bodyOf Tryz.prog 32) [1, 1, 1, 1]))) (retK Tryz.prog md (md 32) ref10_One_ps ref10_One_rs ref10_One_ts)))
theorem ref10_One_l5_succ (n m5 : Nat) (f0 : Int) (i7 : Int) (a3 : D) (t4_0 : Int) (out6_0 : Int) (out6_1 : D) (out6_2 : List D) : ref10_One_l5 n (m5 + 1) f0 i7 a3 t4_0 out6_0 out6_1 out6_2 =
 .br (decide (i7 < (((a3.fld 2).els).length : Int))) (.br (decide (0 ≤ i7)) (.br (decide (i7 < (((a3.fld 2).els).length : Int))) (.br ((((((a3.fld 2).els).getD (Int.toNat i7) D.nil).fld 1).toInt) == 0) (.call 27 [] [D.int f0, (((a3.fld 2).els).getD (Int.toNat i7) D.nil).fld 2] fun yy3 =>
 .br (((yy3.getD 1 D.nil).toInt) != 0) (.ret [D.agg [D.int 0, D.sl [], D.sl []], D.int ((yy3.getD 1 D.nil).toInt)])
 (.br (decide (out6_2.length + [D.agg [D.int (((((a3.fld 2).els).getD (Int.toNat i7) D.nil).fld 0).toInt), D.int (((((a3.fld 2).els).getD (Int.toNat i7) D.nil).fld 1).toInt), yy3.getD 0 D.nil, D.int (((((a3.fld 2).els).getD (Int.toNat i7) D.nil).fld 3).toInt), (((a3.fld 2).els).getD (Int.toNat i7) D.nil).fld 4]].length ≤ bigN)) (ref10_One_l5 n m5 f0 (IntKind.wrap .i64 (i7 + 1)) a3 t4_0 out6_0 out6_1 (out6_2 ++ [D.agg [D.int (((((a3.fld 2).els).getD (Int.toNat i7) D.nil).fld 0).toInt), D.int (((((a3.fld 2).els).getD (Int.toNat i7) D.nil).fld 1).toInt), yy3.getD 0 D.nil, D.int (((((a3.fld 2).els).getD (Int.toNat i7) D.nil).fld 3).toInt), (((a3.fld 2).els).getD (Int.toNat i7) D.nil).fld 4]])) .fail))
 (.br ((((((a3.fld 2).els).getD (Int.toNat i7) D.nil).fld 1).toInt) == 1) (.ret [D.agg [D.int 0, D.sl [], D.sl []], D.int 3])
 (.br (decide (0 ≤ 0)) (.br (decide (0 < ((((((a3.fld 2).els).getD (Int.toNat i7) D.nil).fld 4).els).length : Int))) (.call 32 [] [D.int f0, (((((a3.fld 2).els).getD (Int.toNat i7) D.nil).fld 4).els).getD (Int.toNat 0) D.nil] fun yy4 =>
 .br (((yy4.getD 1 D.nil).toInt) != 0) (.ret [D.agg [D.int 0, D.sl [], D.sl []], D.int ((yy4.getD 1 D.nil).toInt)])
 (.br (decide (out6_2.length + [D.agg [D.int (((((a3.fld 2).els).getD (Int.toNat i7) D.nil).fld 0).toInt), D.int (((((a3.fld 2).els).getD (Int.toNat i7) D.nil).fld 1).toInt), (((a3.fld 2).els).getD (Int.toNat i7) D.nil).fld 2, D.int (((((a3.fld 2).els).getD (Int.toNat i7) D.nil).fld 3).toInt), D.sl [yy4.getD 0 D.nil]]].length ≤ bigN)) (ref10_One_l5 n m5 f0 (IntKind.wrap .i64 (i7 + 1)) a3 t4_0 out6_0 out6_1 (out6_2 ++ [D.agg [D.int (((((a3.fld 2).els).getD (Int.toNat i7) D.nil).fld 0).toInt), D.int (((((a3.fld 2).els).getD (Int.toNat i7) D.nil).fld 1).toInt), (((a3.fld 2).els).getD (Int.toNat i7) D.nil).fld 2, D.int (((((a3.fld 2).els).getD (Int.toNat i7) D.nil).fld 3).toInt), D.sl [yy4.getD 0 D.nil]]])) .fail)) .fail) .fail))) .fail) .fail)
 (.ret [D.agg [D.int out6_0, out6_1, D.sl out6_2], D.int 0]) := by kernel_rfl
theorem ref10_One_tree (n : Nat) (f0 : D) (a1 : D) : evFun Tryz.prog md ref10_One_orc n 32 [] [f0, a1] =
 .call 20 [] [] fun yy1 =>
 .call 19 [] [yy1.getD 0 D.nil, D.int f0.toInt] fun yy2 =>
 .br (!((yy2.getD 0 D.nil).toBool)) (.ret [D.agg [D.int 0, D.sl [], D.sl []], D.int 8])
 (ref10_One_l5 n n f0.toInt 0 a1 0 ((a1.fld 0).toInt) (a1.fld 1) []) := by kernel_rfl

/-! scrim/scrimref10.two -/
def ref10_two_orc : List (Nat × Orc) := []
theorem ref10_two_tree (n : Nat) (f0 : D) (x1 : D) (y2 : D) : evFun Tryz.prog md ref10_two_orc n 45 [] [f0, x1, y2] =
 .call 44 [] [D.int ((x1.fld 0).toInt), D.int ((y2.fld 0).toInt)] fun yy1 =>
 .br (((x1.fld 1).toInt) == 2) (.call 100 [] [x1] fun yy2 =>
 .call 100 [] [y2] fun yy3 =>
 .call 12 [] [D.int f0.toInt, yy2.getD 0 D.nil, yy3.getD 0 D.nil] fun yy4 =>
 .ret [D.agg [D.int ((yy1.getD 0 D.nil).toInt), D.int 2, D.agg [D.bool false, D.sl [], D.sl []], D.int 0, D.sl [yy4.getD 0 D.nil]], D.int ((yy4.getD 1 D.nil).toInt)])
 (.br (((y2.fld 1).toInt) == 2) (.call 100 [] [x1] fun yy5 =>
 .call 100 [] [y2] fun yy6 =>
 .call 12 [] [D.int f0.toInt, yy5.getD 0 D.nil, yy6.getD 0 D.nil] fun yy7 =>
 .ret [D.agg [D.int ((yy1.getD 0 D.nil).toInt), D.int 2, D.agg [D.bool false, D.sl [], D.sl []], D.int 0, D.sl [yy7.getD 0 D.nil]], D.int ((yy7.getD 1 D.nil).toInt)])
 (.br (((x1.fld 1).toInt) == 0) (.br (((y2.fld 1).toInt) == 0) (.call 29 [] [D.int f0.toInt, x1.fld 2, y2.fld 2] fun yy8 =>
 .ret [D.agg [D.int ((yy1.getD 0 D.nil).toInt), D.int 0, yy8.getD 0 D.nil, D.int 0, D.sl []], D.int ((yy8.getD 1 D.nil).toInt)])
 (.br (f0.toInt == 61) (.br (((x1.fld 1).toInt) == ((y2.fld 1).toInt)) (.call 85 [] [D.bool (((x1.fld 3).toInt) == ((y2.fld 3).toInt))] fun yy9 =>
 .ret [D.agg [D.int ((yy1.getD 0 D.nil).toInt), D.int 0, yy9.getD 0 D.nil, D.int 0, D.sl []], D.int ((yy9.getD 1 D.nil).toInt)])
 (.call 85 [] [D.bool false] fun yy10 =>
 .ret [D.agg [D.int ((yy1.getD 0 D.nil).toInt), D.int 0, yy10.getD 0 D.nil, D.int 0, D.sl []], D.int ((yy10.getD 1 D.nil).toInt)]))
 (.br (f0.toInt == 8800) (.br (((x1.fld 1).toInt) != ((y2.fld 1).toInt)) (.call 85 [] [D.bool true] fun yy11 =>
 .ret [D.agg [D.int ((yy1.getD 0 D.nil).toInt), D.int 0, yy11.getD 0 D.nil, D.int 0, D.sl []], D.int ((yy11.getD 1 D.nil).toInt)])
 (.call 85 [] [D.bool (((x1.fld 3).toInt) != ((y2.fld 3).toInt))] fun yy12 =>
 .ret [D.agg [D.int ((yy1.getD 0 D.nil).toInt), D.int 0, yy12.getD 0 D.nil, D.int 0, D.sl []], D.int ((yy12.getD 1 D.nil).toInt)]))
 (.ret [D.agg [D.int ((yy1.getD 0 D.nil).toInt), D.int 0, D.agg [D.bool false, D.sl [], D.sl []], D.int 0, D.sl []], D.int 3]))))
 (.br (f0.toInt == 61) (.br (((x1.fld 1).toInt) == ((y2.fld 1).toInt)) (.call 85 [] [D.bool (((x1.fld 3).toInt) == ((y2.fld 3).toInt))] fun yy13 =>
 .ret [D.agg [D.int ((yy1.getD 0 D.nil).toInt), D.int 0, yy13.getD 0 D.nil, D.int 0, D.sl []], D.int ((yy13.getD 1 D.nil).toInt)])
 (.call 85 [] [D.bool false] fun yy14 =>
 .ret [D.agg [D.int ((yy1.getD 0 D.nil).toInt), D.int 0, yy14.getD 0 D.nil, D.int 0, D.sl []], D.int ((yy14.getD 1 D.nil).toInt)]))
 (.br (f0.toInt == 8800) (.br (((x1.fld 1).toInt) != ((y2.fld 1).toInt)) (.call 85 [] [D.bool true] fun yy15 =>
 .ret [D.agg [D.int ((yy1.getD 0 D.nil).toInt), D.int 0, yy15.getD 0 D.nil, D.int 0, D.sl []], D.int ((yy15.getD 1 D.nil).toInt)])
 (.call 85 [] [D.bool (((x1.fld 3).toInt) != ((y2.fld 3).toInt))] fun yy16 =>
 .ret [D.agg [D.int ((yy1.getD 0 D.nil).toInt), D.int 0, yy16.getD 0 D.nil, D.int 0, D.sl []], D.int ((yy16.getD 1 D.nil).toInt)]))
 (.ret [D.agg [D.int ((yy1.getD 0 D.nil).toInt), D.int 0, D.agg [D.bool false, D.sl [], D.sl []], D.int 0, D.sl []], D.int 3]))))) := by kernel_rfl

/-! scrim/scrimref10.Pick -/
def ref10_Pick_orc : List (Nat × Orc) := []
theorem ref10_Pick_tree (n : Nat) (a0 : D) (i1 : D) : evFun Tryz.prog md ref10_Pick_orc n 46 [] [a0, i1] =
 .br ((((a0.fld 1).els).length : Int) == 0) (.br (decide (0 < (((a0.fld 2).els).length : Int))) (.br (decide (0 ≤ 0)) (.br (decide (0 < (((a0.fld 2).els).length : Int))) (.ret [((a0.fld 2).els).getD (Int.toNat 0) D.nil]) .fail) .fail)
 (.br (decide (i1.toInt < 0)) (.ret [D.agg [D.int 0, D.int 0, D.agg [D.bool false, D.sl [], D.sl []], D.int 0, D.sl []]])
 (.br (decide ((((a0.fld 2).els).length : Int) ≤ i1.toInt)) (.ret [D.agg [D.int 0, D.int 0, D.agg [D.bool false, D.sl [], D.sl []], D.int 0, D.sl []]])
 (.br ((((a0.fld 1).els).length : Int) == 0) (.ret [D.agg [D.int 0, D.int 0, D.agg [D.bool false, D.sl [], D.sl []], D.int 0, D.sl []]])
 (.br (decide (0 ≤ i1.toInt)) (.br (decide (i1.toInt < (((a0.fld 2).els).length : Int))) (.ret [((a0.fld 2).els).getD (Int.toNat i1.toInt) D.nil]) .fail) .fail)))))
 (.br (decide (i1.toInt < 0)) (.ret [D.agg [D.int 0, D.int 0, D.agg [D.bool false, D.sl [], D.sl []], D.int 0, D.sl []]])
 (.br (decide ((((a0.fld 2).els).length : Int) ≤ i1.toInt)) (.ret [D.agg [D.int 0, D.int 0, D.agg [D.bool false, D.sl [], D.sl []], D.int 0, D.sl []]])
 (.br ((((a0.fld 1).els).length : Int) == 0) (.ret [D.agg [D.int 0, D.int 0, D.agg [D.bool false, D.sl [], D.sl []], D.int 0, D.sl []]])
 (.br (decide (0 ≤ i1.toInt)) (.br (decide (i1.toInt < (((a0.fld 2).els).length : Int))) (.ret [((a0.fld 2).els).getD (Int.toNat i1.toInt) D.nil]) .fail) .fail)))) := by kernel_rfl

/-! scrim/scrimref10.factorial -/
def ref10_factorial_orc : List (Nat × Orc) := [(8, ⟨[(2, none), (4, none), (6, none), (7, none)], [(2, false), (6, true)], []⟩)]
def ref10_factorial_ps : List Nat := [44]
def ref10_factorial_rs : List ResultVar := [.cell 2 44, .tmp 3]
def ref10_factorial_ts : List Nat := [44, 3]
noncomputable def ref10_factorial_l8 (n m8 : Nat) (k4 : Int) (i7 : Int) (t2_0 : Bool) (out6 : D) : Tree :=
  evLoop Tryz.prog md (ev Tryz.prog md n ref10_factorial_orc (cAt (bodyOf Tryz.prog 70) [1, 1, 1, 1, 1, 0, 1, 0, 0])) (orcAt ref10_factorial_orc 8) m8 ⟨[.undef, .undef, .ptr 2 [], .undef, .i .i64 k4, .undef, .ptr 6 [], .i .i64 i7, .undef, .undef, .undef, .undef, .undef, .undef, .undef, .undef, .undef, .undef, .undef, .undef, .undef, .undef, .undef, .undef, .undef, .undef, .undef, .undef, .undef, .undef, .undef, .undef, .undef, .undef, .undef, .undef, .undef, .undef, .undef, .undef, .undef], [(2, .var 44 (.agg 44 [.b t2_0, .mt, .mt]) true), (6, .var 84 (.d 84 out6) true)], [2, 6], [], []⟩
   (blockK 0 (seqK (joinE Tryz.prog md (joinAt ref10_factorial_orc (cAt (bodyOf Tryz.prog 70) [1, 1, 1, 1, 1, 1])) (ev Tryz.prog md n ref10_factorial_orc (cAt (bodyOf Tryz.prog 70) [1, 1, 1, 1, 1, 1]))) (retK Tryz.prog md (md 70) ref10_factorial_ps ref10_factorial_rs ref10_factorial_ts)))
theorem ref10_factorial_l8_succ (n m8 : Nat) (k4 : Int) (i7 : Int) (t2_0 : Bool) (out6 : D) : ref10_factorial_l8 n (m8 + 1) k4 i7 t2_0 out6 =
 .br (decide (i7 ≤ k4)) (.call 95 [] [D.int i7] fun yy6 =>
 .call 123 [] [out6, yy6.getD 0 D.nil] fun yy7 =>
 ref10_factorial_l8 n m8 k4 (IntKind.wrap .i64 (i7 + 1)) t2_0 (yy7.getD 0 D.nil))
 (.call 95 [] [D.int 1] fun yy8 =>
 .call 54 [] [out6, yy8.getD 0 D.nil] fun yy9 =>
 .ret [yy9.getD 0 D.nil, D.int ((yy9.getD 1 D.nil).toInt)]) := by kernel_rfl
theorem ref10_factorial_tree (n : Nat) (n0 : D) : evFun Tryz.prog md ref10_factorial_orc n 70 [] [n0] =
 .call 51 [] [n0] fun yy1 =>
 .br (!((yy1.getD 0 D.nil).toBool)) (.ret [D.agg [D.bool false, D.sl [], D.sl []], D.int 3])
 (.br ((n0.fld 0).toBool) (.ret [D.agg [D.bool false, D.sl [], D.sl []], D.int 3])
 (.call 39 [] [D.int 200] fun yy2 =>
 .call 67 [] [n0, yy2.getD 0 D.nil] fun yy3 =>
 .br (decide (0 < ((yy3.getD 0 D.nil).toInt))) (.ret [D.agg [D.bool false, D.sl [], D.sl []], D.int 7])
 (.call 23 [] [n0] fun yy4 =>
 .call 95 [] [D.int 1] fun yy5 =>
 ref10_factorial_l8 n n ((yy4.getD 0 D.nil).toInt) 1 false (yy5.getD 0 D.nil)))) := by kernel_rfl

/-! scrim/scrimref10.truth -/
def ref10_truth_orc : List (Nat × Orc) := []
theorem ref10_truth_tree (n : Nat) (is0 : D) : evFun Tryz.prog md ref10_truth_orc n 85 [] [is0] =
 .br is0.toBool (.call 39 [] [D.int 1] fun yy1 =>
 .ret [yy1.getD 0 D.nil, D.int 0])
 (.call 39 [] [D.int 0] fun yy2 =>
 .ret [yy2.getD 0 D.nil, D.int 0]) := by kernel_rfl

/-! scrim/scrimref10.inner -/
def ref10_inner_orc : List (Nat × Orc) := []
theorem ref10_inner_tree (n : Nat) (c0 : D) : evFun Tryz.prog md ref10_inner_orc n 100 [] [c0] =
 .br (((c0.fld 1).toInt) == 2) (.br (decide (0 ≤ 0)) (.br (decide (0 < (((c0.fld 4).els).length : Int))) (.ret [((c0.fld 4).els).getD (Int.toNat 0) D.nil]) .fail) .fail)
 (.ret [D.agg [D.int 0, D.sl [], D.sl [D.agg [D.int 0, D.int ((c0.fld 1).toInt), c0.fld 2, D.int ((c0.fld 3).toInt), c0.fld 4]]]]) := by kernel_rfl

end Go.Proofs.YtjmddikeadbmjaaGreat
set_option maxRecDepth 100000
namespace Go.Proofs.YtjmddikeadbmjaaGreat

def onesL : List Int := [43, 45, 215, 247, 8968, 8970, 124, 126, 33]
def twosL : List Int := [43, 45, 215, 247, 8968, 8970, 124, 42, 60, 8804, 61, 8805, 62, 8800, 8743, 8744]
theorem scalar_IsOne_sp (f : Int) : Sp 18 [.int f] [.bool (decide (f ∈ onesL))] := by
  refine sound_ 0 (scalar_IsOne_tree _ _) ?_
  simp only [toInt_int, int_beq]
  unfold onesL
  repeat (refine wp_decs (fun h => wp_dec h (wp_ret (by simp [h]))) (fun h => ?_))
  refine wp_decs (fun h => wp_ret (by simp [h])) (fun h => wp_ret (by simp [*]))
theorem scalar_IsTwo_sp (f : Int) : Sp 21 [.int f] [.bool (decide (f ∈ twosL))] := by
  refine sound_ 0 (scalar_IsTwo_tree _ _) ?_
  simp only [toInt_int, int_beq]
  unfold twosL
  repeat (refine wp_decs (fun h => wp_dec h (wp_ret (by simp [h]))) (fun h => ?_))
  refine wp_decs (fun h => wp_ret (by simp [h])) (fun h => wp_ret (by simp [*]))
theorem ref06_In_sp (l : List Int) (x : Int) (hl : l.length ≤ 1000000) : Sp 19 [dI l, .int x] [.bool (decide (x ∈ l))] := by
  refine sound_ (l.length + 1) (ref06_In_tree _ _ _) ?_
  simp only [toInt_int]
  have key := loop_list (P := Tryz.prog) (md := md) l (fun m k (_ : Unit) => ref06_In_l2 (l.length + 1) m (dI l) x (k : Int)) (fun rest _ => [.bool (decide (x ∈ rest))]) (fun _ _ => True)
    (fun m k _ hk _ => by
      simp only [ref06_In_l2_succ, els_dI, List.length_map]
      exact wp_ndec (by omega) (wp_ret (by simp)))
    (fun m k _ y rest hdr _ ih => by
      obtain ⟨h1, h2, _⟩ := drop_cons hdr
      simp only [ref06_In_l2_succ, els_dI, List.length_map, Int.toNat_natCast, getD_map h2, toInt_int, int_beq, wrap_succ (show k < 9223372036854775807 by omega)]
      refine wp_dec (by omega) (wp_dec (by omega) (wp_dec (by omega) (wp_decs (fun h => wp_ret ?_) (fun h => ?_))))
      · rw [h]; simp
      · refine Tree.wp_mono (ih () trivial) (fun ys hy => hy.trans ?_)
        rw [show decide (x ∈ y :: rest) = decide (x ∈ rest) by rw [decide_eq_decide, List.mem_cons]; exact ⟨fun hh => hh.resolve_left (fun e => h e.symm), fun hh => .inr hh⟩])
    (l.length + 1) 0 () (by omega) (by omega) trivial
  exact key
theorem ref10_Ones_sp : Sp 20 [] [dI onesL] := sound_ 0 (ref10_Ones_tree _) (wp_ret rfl)
theorem ref10_Twos_sp : Sp 22 [] [dI twosL] := sound_ 0 (ref10_Twos_tree _) (wp_ret rfl)
def truN (b : Bool) : Num := if b then ofZ 1 else ofZ 0
theorem scalar_truth_sp (b : Bool) : Sp 97 [.bool b] [dN (truN b)] := by
  refine sound_ 0 (scalar_truth_tree _ _) ?_
  cases b with
  | true => exact wp_tt rfl (wp_call (ratio_Of_sp 1 (by unfold inR; omega)) (wp_ret rfl))
  | false => exact wp_ff rfl (wp_call (ratio_Of_sp 0 (by unfold inR; omega)) (wp_ret rfl))
theorem ref10_truth_sp (b : Bool) : Sp 85 [.bool b] (retR (truN b, 0)) := by
  refine sound_ 0 (ref10_truth_tree _ _) ?_
  cases b with
  | true => exact wp_tt rfl (wp_call (ref04_Of_sp 1 (by unfold inR; omega)) (wp_ret rfl))
  | false => exact wp_ff rfl (wp_call (ref04_Of_sp 0 (by unfold inR; omega)) (wp_ret rfl))
theorem truN_rn (b : Bool) : ∃ z, RNum (truN b) z 1 := by
  unfold truN
  cases b with
  | true => exact ⟨_, rnum_ofZ lenZ_small⟩
  | false => exact ⟨_, rnum_ofZ lenZ_small⟩
/-- The product of the whole numbers up to one. -/
def facN : Nat → Nat
  | 0 => 1
  | k + 1 => (k + 1) * facN k
def factR (n : Num) : Num × Int := if n.bot = [1] ∧ n.neg = false then (match smallN n with | some k => if k ≤ 200 then mkR (facN k.toNat : Nat) 1 else (.zero, 7) | none => (.zero, 7)) else (.zero, 3)
def oneN (f : Int) (n : Num) : Num × Int :=
  if f = 43 then (n, 0) else if f = 45 then (negN n, 0) else if f = 215 then (ofZ (sgnZ (numT n)), 0) else if f = 247 then divR (ofZ 1) n
  else if f = 8968 then (negN (flrN (negN n)), 0) else if f = 8970 then (flrN n, 0) else if f = 124 then (⟨false, n.top, n.bot⟩, 0)
  else if f = 126 then (if smallN n = some 0 then (ofZ 1, 0) else if smallN n = some 1 then (ofZ 0, 0) else (.zero, 3))
  else if f = 33 then factR n else (.zero, 8)
def cmpT (f c : Int) : Num × Int :=
  if f = 60 then (truN (decide (c < 0)), 0) else if f = 8804 then (truN (decide (c ≤ 0)), 0) else if f = 61 then (truN (decide (c = 0)), 0)
  else if f = 8805 then (truN (decide (0 ≤ c)), 0) else if f = 62 then (truN (decide (0 < c)), 0) else if f = 8800 then (truN (decide (¬ c = 0)), 0) else (.zero, 8)
def twoN (f : Int) (a b : Num) : Num × Int :=
  if f = 43 then addR a b else if f = 45 then subR a b else if f = 215 then mulR a b else if f = 247 then divR a b
  else if f = 8968 then (if cmpR a b < 0 then b else a, 0) else if f = 8970 then (if cmpR a b < 0 then a else b, 0)
  else if f = 124 then modR a b else if f = 42 then (match smallN b with | some k => powRt a k | none => (.zero, 8))
  else if f = 8743 then lcmR a b else if f = 8744 then gcdR a b else cmpT f (cmpR a b)
section
variable {a b : Num} {z y : Int} {d e : Nat}
theorem smallN_rn (h : RNum a z d) {k : Int} (hs : smallN a = some k) : k = z ∧ d = 1 ∧ inR z := by
  unfold smallN smO at hs
  split at hs
  · rename_i hb
    rw [h.top] at hs
    split at hs
    · rename_i hr
      injection hs with hs
      refine ⟨hs.symm, ?_, hr⟩
      have := h.bot
      rw [numB_one hb] at this
      omega
    · cases hs
  · cases hs
theorem smallN_of (h : RNum a z 1) (hr : inR z) : smallN a = some z := by
  have hb : a.bot = [1] := by rw [h.eq]; exact lbn_one
  unfold smallN smO
  rw [if_pos hb, h.top, if_pos hr]
theorem bot_one (h : RNum a z d) : a.bot = [1] ↔ d = 1 := by
  constructor
  · intro hb; have := h.bot; rw [numB_one hb] at this; omega
  · intro hd; rw [h.eq, hd]; exact lbn_one
theorem rn_val (h : RNum a z 1) : a = ofZ z := by rw [h.eq, frac_one]
theorem cmpZ_lt {x y : Int} : cmpZ x y < 0 ↔ x < y := by unfold cmpZ; by_cases h1 : x < y <;> by_cases h2 : x = y <;> simp [h1, h2]
theorem cmpZ_eq {x y : Int} : cmpZ x y = 0 ↔ x = y := by
  unfold cmpZ
  by_cases h1 : x < y
  · rw [if_pos h1]; exact ⟨fun h => by omega, fun h => by omega⟩
  · rw [if_neg h1]
    by_cases h2 : x = y
    · simp [h2]
    · simp [h2]
theorem cmpZ_gt {x y : Int} : 0 < cmpZ x y ↔ y < x := by
  unfold cmpZ
  by_cases h1 : x < y
  · rw [if_pos h1]; exact ⟨fun h => by omega, fun h => by omega⟩
  · rw [if_neg h1]
    by_cases h2 : x = y
    · simp [h2]
    · simp [h2]; omega
/-- Right numbers that stand together are the same. -/
theorem cmp_same (h : RNum a z d) (h' : RNum b y e) : cmpR a b = 0 ↔ a = b := by
  unfold cmpR
  rw [h.top, h.bot, h'.top, h'.bot, cmpZ_eq]
  constructor
  · intro he; exact rn_same h h' he
  · intro he
    have := h.top; have := h.bot; have := h'.top; have := h'.bot
    subst he
    have e1 : z = y := by rw [← h.top, ← h'.top]
    have e2 : (d : Int) = (e : Int) := by rw [← h.bot, ← h'.bot]
    rw [e1, e2]
theorem mkR_rn {p q : Int} (h : (mkR p q).2 = 0) : ∃ x c, RNum (mkR p q).1 x c := by
  by_cases hq : q = 0
  · unfold mkR at h; rw [if_pos hq] at h; cases h
  · obtain ⟨x, c, h1, _⟩ := (mkR_ok hq).1 h
    exact ⟨x, c, h1⟩
theorem abs_rn (h : RNum a z d) : RNum ⟨false, a.top, a.bot⟩ (z.natAbs : Int) d := by
  refine ⟨?_, h.d0, by simpa using h.cop, by have := h.lz; unfold lenZ at *; simpa using this, h.ld⟩
  rw [h.eq]
  unfold frac
  simp
theorem sgn_rn (h : RNum a z d) : RNum (ofZ (sgnZ z)) (sgnZ z) 1 := rnum_ofZ (by unfold sgnZ; split; exact lenZ_small; split <;> exact lenZ_small)
theorem bindR_ok {r : Num × Int} {f : Num → Num × Int} (h : (bindR r f).2 = 0) : r.2 = 0 ∧ bindR r f = f r.1 := by
  unfold bindR at h ⊢
  split at h
  · rename_i hh; rw [if_pos hh]; exact ⟨hh, rfl⟩
  · rename_i hh; exact absurd h hh
theorem modR_rn (_ : RNum a z d) (h' : RNum b y e) (h : (modR a b).2 = 0) : ∃ x c, RNum (modR a b).1 x c := by
  unfold modR at h ⊢
  split at h
  · rename_i hh; rw [if_pos hh]; exact ⟨_, _, h'⟩
  · rename_i hh
    rw [if_neg hh]
    obtain ⟨h1, h2⟩ := bindR_ok h
    rw [h2] at h ⊢
    obtain ⟨h3, h4⟩ := bindR_ok h
    rw [h4] at h ⊢
    exact mkR_rn h
theorem powRt_rn {n : Int} (h : (powRt a n).2 = 0) : ∃ x c, RNum (powRt a n).1 x c := by
  have pd : ∀ p q, (powD2 p q).2 = 0 → ∃ x c, RNum (powD2 p q).1 x c := fun p q hh => by
    unfold powD2 at hh ⊢
    split at hh
    · rename_i h1
      rw [if_pos h1]
      split at hh
      · rename_i h2; rw [if_pos h2]; exact mkR_rn hh
      · rename_i h2; exact absurd hh h2
    · rename_i h1; exact absurd hh h1
  unfold powRt at h ⊢
  split at h
  · rename_i h0
    rw [if_pos h0]
    split at h
    · cases h
    · rename_i h1; rw [if_neg h1]; exact pd _ _ h
  · rename_i h0; rw [if_neg h0]; exact pd _ _ h
theorem lcmR_rn (h1 : RNum a z d) (h2 : RNum b y e) (h : (lcmR a b).2 = 0) : ∃ x c, RNum (lcmR a b).1 x c := by
  unfold lcmR at h ⊢
  obtain ⟨h3, h4⟩ := bindR_ok h
  rw [h4] at h ⊢
  obtain ⟨x, hx⟩ := gcdR_ok h1 h2 h3
  split at h
  · rename_i hh; rw [if_pos hh]; exact ⟨_, _, hx⟩
  · rename_i hh
    rw [if_neg hh]
    obtain ⟨h5, h6⟩ := bindR_ok h
    rw [h6] at h ⊢
    exact mkR_rn h
theorem factR_rn (h : (factR a).2 = 0) : ∃ x c, RNum (factR a).1 x c := by
  unfold factR at h ⊢
  split at h
  · rename_i hh
    rw [if_pos hh]
    split at h
    · rename_i k hk
      split at h
      · rename_i hl; simp only [hk, if_pos hl]; exact mkR_rn h
      · cases h
    · cases h
  · cases h
/-- What is told is right. -/
theorem oneN_rn (f : Int) (h : RNum a z d) (h0 : (oneN f a).2 = 0) : ∃ x c, RNum (oneN f a).1 x c := by
  unfold oneN at h0 ⊢
  by_cases h1 : f = 43
  · simp only [if_pos h1]; exact ⟨_, _, h⟩
  simp only [if_neg h1] at h0 ⊢
  by_cases h1 : f = 45
  · simp only [if_pos h1]; exact ⟨_, _, negN_rn h⟩
  simp only [if_neg h1] at h0 ⊢
  by_cases h1 : f = 215
  · simp only [if_pos h1]; rw [h.top]; exact ⟨_, _, sgn_rn h⟩
  simp only [if_neg h1] at h0 ⊢
  by_cases h1 : f = 247
  · simp only [if_pos h1] at h0 ⊢; exact mkR_rn h0
  simp only [if_neg h1] at h0 ⊢
  by_cases h1 : f = 8968
  · simp only [if_pos h1]; exact ⟨_, _, negN_rn (flr_rn (negN_rn h))⟩
  simp only [if_neg h1] at h0 ⊢
  by_cases h1 : f = 8970
  · simp only [if_pos h1]; exact ⟨_, _, flr_rn h⟩
  simp only [if_neg h1] at h0 ⊢
  by_cases h1 : f = 124
  · simp only [if_pos h1]; exact ⟨_, _, abs_rn h⟩
  simp only [if_neg h1] at h0 ⊢
  by_cases h1 : f = 126
  · simp only [if_pos h1] at h0 ⊢
    split
    · exact ⟨_, _, rnum_ofZ lenZ_small⟩
    · rename_i h2
      rw [if_neg h2] at h0
      split
      · exact ⟨_, _, rnum_ofZ lenZ_small⟩
      · rename_i h3; rw [if_neg h3] at h0; cases h0
  simp only [if_neg h1] at h0 ⊢
  by_cases h1 : f = 33
  · simp only [if_pos h1] at h0 ⊢; exact factR_rn h0
  simp only [if_neg h1] at h0
  cases h0
theorem cmpT_rn {f c : Int} (h : (cmpT f c).2 = 0) : ∃ x e, RNum (cmpT f c).1 x e := by
  unfold cmpT at h ⊢
  repeat (split; · exact (truN_rn _).elim fun z hz => ⟨z, 1, hz⟩)
  simp_all
theorem twoN_rn (f : Int) (h : RNum a z d) (h' : RNum b y e) (h0 : (twoN f a b).2 = 0) : ∃ x c, RNum (twoN f a b).1 x c := by
  unfold twoN at h0 ⊢
  by_cases h1 : f = 43
  · simp only [if_pos h1] at h0 ⊢; exact mkR_rn h0
  simp only [if_neg h1] at h0 ⊢
  by_cases h1 : f = 45
  · simp only [if_pos h1] at h0 ⊢; exact mkR_rn h0
  simp only [if_neg h1] at h0 ⊢
  by_cases h1 : f = 215
  · simp only [if_pos h1] at h0 ⊢; exact mkR_rn h0
  simp only [if_neg h1] at h0 ⊢
  by_cases h1 : f = 247
  · simp only [if_pos h1] at h0 ⊢; exact mkR_rn h0
  simp only [if_neg h1] at h0 ⊢
  by_cases h1 : f = 8968
  · simp only [if_pos h1]; split <;> exact ⟨_, _, by assumption⟩
  simp only [if_neg h1] at h0 ⊢
  by_cases h1 : f = 8970
  · simp only [if_pos h1]; split <;> exact ⟨_, _, by assumption⟩
  simp only [if_neg h1] at h0 ⊢
  by_cases h1 : f = 124
  · simp only [if_pos h1] at h0 ⊢; exact modR_rn h h' h0
  simp only [if_neg h1] at h0 ⊢
  by_cases h1 : f = 42
  · simp only [if_pos h1] at h0 ⊢
    split
    · rename_i k hk; simp only [hk] at h0; exact powRt_rn h0
    · rename_i hk; simp only [hk] at h0; cases h0
  simp only [if_neg h1] at h0 ⊢
  by_cases h1 : f = 8743
  · simp only [if_pos h1] at h0 ⊢; exact lcmR_rn h h' h0
  simp only [if_neg h1] at h0 ⊢
  by_cases h1 : f = 8744
  · simp only [if_pos h1] at h0 ⊢
    obtain ⟨x, hx⟩ := gcdR_ok h h' h0
    exact ⟨_, _, hx⟩
  simp only [if_neg h1] at h0 ⊢
  exact cmpT_rn h0
theorem lenZ_fac (k : Nat) (h : k < B) : lenZ (facN k : Nat) ≤ k + 1 := by
  induction k with
  | zero => show (lb (Int.natAbs (facN 0 : Nat))).length ≤ 1; simp [facN, lbn_one]
  | succ k ih =>
    have h1 := ih (by omega)
    rw [facN, Int.natCast_mul]
    have h2 := lenZ_mul ((k + 1 : Nat) : Int) (facN k : Nat)
    have h3 : lenZ ((k + 1 : Nat) : Int) ≤ 1 := lenZ_le (by rw [Int.natAbs_natCast, Nat.pow_one]; exact h)
    omega
end
end Go.Proofs.YtjmddikeadbmjaaGreat
set_option maxRecDepth 100000
namespace Go.Proofs.YtjmddikeadbmjaaGreat

theorem mkR_one (p : Int) : mkR p 1 = if 32 < lenZ p then (.zero, 7) else (ofZ p, 0) := by
  obtain ⟨z, d, h0, _, h2, _, h4, h5⟩ := mkR_cases p 1 (by decide)
  have hd : d = 1 := by have : Int.natAbs 1 = 1 := rfl
                        omega
  subst hd
  have hz : z = p := by simpa using h2
  subst hz
  rw [h5, frac_one]
  by_cases h : 32 < lenZ z
  · rw [if_pos (.inl h), if_pos h]
  · rw [if_neg (by rw [lbn_one]; simp; omega), if_neg h]
section
variable {a b : Num} {z y : Int} {d e : Nat}
theorem ratio_Int_sp (h : RNum a z d) : ∃ w : Wh, Sp 120 [dN a] [dW w, .bool (decide (a.bot = [1]))] := by
  by_cases hb : a.bot = [1]
  · refine ⟨wz (numT a), sound_ 0 (ratio_Int_tree _ _) (wp_call (ratio_isOne_sp a.bot) ?_)⟩
    rw [decide_eq_true hb]
    exact wp_ff rfl (wp_call (ratio_top_sp a) (wp_call (whole_Norm_sp ⟨a.neg, a.top⟩ (by have := h.len; show a.top.length ≤ _; omega)) (wp_ret rfl)))
  · refine ⟨⟨false, []⟩, sound_ 0 (ratio_Int_tree _ _) (wp_call (ratio_isOne_sp a.bot) ?_)⟩
    rw [decide_eq_false hb]
    exact wp_tt rfl (wp_ret rfl)
theorem sgnZ_neg {x : Int} : sgnZ x < 0 ↔ x < 0 := by unfold sgnZ; by_cases h1 : x < 0 <;> by_cases h2 : x = 0 <;> simp [h1, h2]
theorem fac_mul (k : Nat) (hk : 0 < k) : ((facN (k - 1) : Nat) : Int) * (k : Int) = ((facN k : Nat) : Int) := by
  obtain ⟨j, rfl⟩ : ∃ j, k = j + 1 := ⟨k - 1, by omega⟩
  rw [Nat.add_sub_cancel, facN, Int.natCast_mul, Int.mul_comm]
theorem scalar_factorial_sp (h : RNum a z d) : Sp 65 [dN a] (retR (factR a)) := by
  obtain ⟨w, hi⟩ := ratio_Int_sp h
  obtain ⟨l1, l2⟩ := h.len
  refine sound_ 300 (scalar_factorial_tree _ _) (wp_call hi ?_)
  simp only [getD_c1, toBool_bool, not_dec, dN_zero]
  unfold factR
  refine wp_decs (fun h1 => wp_ret ?_) (fun h1 => wp_call (ratio_Sign_sp h.sm) ?_)
  · rw [if_neg (fun hh => h1 hh.1)]; rfl
  have hb := Classical.not_not.1 h1
  simp only [getD_c0, toInt_int]
  refine wp_decs (fun h2 => wp_ret ?_) (fun h2 => wp_call (ratio_Small_sp a (by omega)) ?_)
  · have : a.neg = true := by rw [h.sgn]; exact decide_eq_true (by rw [← h.top]; exact sgnZ_neg.1 h2)
    rw [if_neg (fun hh => by rw [this] at hh; cases hh.2)]; rfl
  have hn : a.neg = false := by rw [h.sgn]; exact decide_eq_false (fun hh => h2 (sgnZ_neg.2 (by rw [h.top]; exact hh)))
  rw [if_pos ⟨hb, hn⟩]
  cases hs : smallN a with
  | none => exact wp_tt rfl (wp_ret rfl)
  | some k =>
    obtain ⟨rfl, rfl, hr⟩ := smallN_rn h hs
    have hk0 : 0 ≤ k := by have := h.sgn; rw [hn] at this; have := of_decide_eq_false this.symm; omega
    refine wp_ff rfl ?_
    simp only [optI, getD_c0, toInt_int]
    refine wp_decs (fun h3 => wp_ret ?_) (fun h3 => wp_call (whole_Of_sp 1 (by unfold inR; omega)) ?_)
    · rw [if_neg (by omega)]; rfl
    rw [if_pos (by omega)]
    obtain ⟨K, rfl⟩ := Int.eq_ofNat_of_zero_le hk0
    have hK : K ≤ 200 := by omega
    simp only [getD_c0, Int.toNat_natCast]
    have key := loop_up (P := Tryz.prog) (md := md) (max (K + 1) 2) (fun m k (_ : Unit) => scalar_factorial_l9 300 m (K : Int) (k : Int) false (dW (wz ((facN (k - 1) : Nat) : Int)))) (fun _ _ => retR (mkR (facN K : Nat) 1)) (fun k _ => 2 ≤ k)
      (fun m _ _ => by
        have hf : facN (max (K + 1) 2 - 1) = facN K := by
          rcases (by omega : K = 0 ∨ 1 ≤ K) with h0 | h0
          · subst h0; rfl
          · rw [show max (K + 1) 2 - 1 = K by omega]
        have hl := lenZ_fac K (by rw [B_eq]; omega)
        simp only [scalar_factorial_l9_succ, hf, dW_1, els_dL, List.length_map, dN_zero]
        rw [mkR_one]
        refine wp_ndec (by omega) (wp_decs (fun h4 => wp_ret ?_) (fun h4 => ?_))
        · rw [if_pos (by have := wzl ((facN K : Nat) : Int); omega)]; rfl
        · have hw := wzl ((facN K : Nat) : Int)
          have wh := ratio_Whole_sp (wz ((facN K : Nat) : Int)) (by omega)
          rw [zv_wz] at wh
          have e1 : wholeN ((facN K : Nat) : Int) = ofZ ((facN K : Nat) : Int) := by unfold wholeN; rw [if_neg (by show ¬ 32 < lenZ _; omega)]
          rw [e1] at wh
          rw [if_neg (by omega)]
          exact wp_call wh (wp_ret rfl))
      (fun m k _ hkK hk2 ih => by
        have hkK' : k ≤ K := by omega
        simp only [scalar_factorial_l9_succ]
        rw [wrap_succ (by omega)]
        have l1 := lenZ_fac (k - 1) (by rw [B_eq]; omega)
        have l2 : lenZ (k : Int) ≤ 1 := lenZ_le (by rw [Int.natAbs_natCast, Nat.pow_one, B_eq]; omega)
        have ml := whole_Mul_sp (wz ((facN (k - 1) : Nat) : Int)) (wz (k : Int)) (by rw [wzl]; omega) (by rw [wzl]; omega)
        rw [zv_wz, zv_wz, fac_mul k (by omega)] at ml
        have := ih () (by omega)
        rw [Nat.add_sub_cancel] at this
        exact wp_dec (by omega) (wp_call (whole_Of_sp (k : Int) (by unfold inR; omega)) (wp_call ml this)))
      300 2 () (by omega) (by omega) (by omega)
    exact key
theorem ref10_factorial_sp (h : RNum a z d) : Sp 70 [dN a] (retR (factR a)) := by
  obtain ⟨l1, l2⟩ := h.len
  have o2 := rnum_ofZ (z := 200) lenZ_small
  refine sound_ 300 (ref10_factorial_tree _ _) (wp_call (ref04_IsWhole_sp a) ?_)
  simp only [getD_c0, toBool_bool, not_dec, dN_zero, dN_0]
  unfold factR
  refine wp_decs (fun h1 => wp_ret ?_) (fun h1 => wp_br (fun h2 => wp_ret ?_) (fun h2 => wp_call (ref04_Of_sp 200 (by unfold inR; omega)) (wp_call (ref04_Cmp_sp h.sm o2.sm) ?_)))
  · rw [if_neg (fun hh => h1 hh.1)]; rfl
  · rw [if_neg (fun hh => by rw [h2] at hh; cases hh.2)]; rfl
  have hb := Classical.not_not.1 h1
  have hd1 := (bot_one h).1 hb
  subst hd1
  rw [if_pos ⟨hb, h2⟩]
  simp only [getD_c0, toInt_int]
  have hz0 : 0 ≤ z := by have := h.sgn; rw [h2] at this; have := of_decide_eq_false this.symm; omega
  have hc : (0 < cmpR a (ofZ 200)) ↔ 200 < z := by unfold cmpR; rw [h.top, h.bot, o2.top, o2.bot, cmpZ_gt]; simp
  refine wp_decs (fun h3 => wp_ret ?_) (fun h3 => wp_call (ref04_Small_sp a (by omega)) (wp_call (ref03_Of_sp 1 (by unfold inR; omega)) ?_))
  · have := hc.1 h3
    cases hs : smallN a with
    | none => rfl
    | some k =>
      obtain ⟨rfl, _⟩ := smallN_rn h hs
      simp only
      rw [if_neg (by omega)]; rfl
  have hz2 : z ≤ 200 := by
    rcases Int.lt_or_le 200 z with hh | hh
    · exact absurd (hc.2 hh) h3
    · exact hh
  rw [smallN_of h (by unfold inR; omega)]
  simp only [optI, getD_c0, toInt_int]
  rw [if_pos hz2]
  obtain ⟨K, rfl⟩ := Int.eq_ofNat_of_zero_le hz0
  have hK : K ≤ 200 := by omega
  simp only [Int.toNat_natCast]
  have key := loop_up (P := Tryz.prog) (md := md) (K + 1) (fun m k (_ : Unit) => ref10_factorial_l8 300 m (K : Int) (k : Int) false (dW (wz ((facN (k - 1) : Nat) : Int)))) (fun _ _ => retR (mkR (facN K : Nat) 1)) (fun k _ => 1 ≤ k)
    (fun m _ _ => by
      have hl := lenZ_fac K (by rw [B_eq]; omega)
      have mk := ref04_Make_sp (wz ((facN K : Nat) : Int)) (wz 1) (by rw [wzl]; omega) (by rw [wzl]; have := lenZ_small (z := 1); omega)
      rw [zv_wz, zv_wz] at mk
      simp only [ref10_factorial_l8_succ, Nat.add_sub_cancel]
      exact wp_ndec (by omega) (wp_call (ref03_Of_sp 1 (by unfold inR; omega)) (wp_call mk (wp_ret rfl))))
    (fun m k _ hkK hk2 ih => by
      have hkK' : k ≤ K := by omega
      simp only [ref10_factorial_l8_succ]
      rw [wrap_succ (by omega)]
      have l1 := lenZ_fac (k - 1) (by rw [B_eq]; omega)
      have l2 : lenZ (k : Int) ≤ 1 := lenZ_le (by rw [Int.natAbs_natCast, Nat.pow_one, B_eq]; omega)
      have ml := ref03_Mul_sp (wz ((facN (k - 1) : Nat) : Int)) (wz (k : Int)) (by rw [wzl]; omega) (by rw [wzl]; omega)
      rw [zv_wz, zv_wz, fac_mul k (by omega)] at ml
      have := ih () (by omega)
      rw [Nat.add_sub_cancel] at this
      exact wp_dec (by omega) (wp_call (ref03_Of_sp (k : Int) (by unfold inR; omega)) (wp_call ml this)))
    300 1 () (by omega) (by omega) (by omega)
  exact key
theorem inR_sgn (x : Int) : inR (sgnZ x) := by unfold sgnZ inR; split; omega; split <;> omega
theorem scalar_Number_sp (f : Int) (h : RNum a z d) : Sp 26 [.int f, dN a] (retR (oneN f a)) := by
  obtain ⟨l1, l2⟩ := h.len
  have o1 := rnum_ofZ (z := 1) lenZ_small
  refine sound_ 0 (scalar_Number_tree _ _ _) ?_
  simp only [toInt_int, int_beq, dN_zero]
  unfold oneN
  refine wp_decs (fun h1 => wp_call (array_Num_sp a (by omega) (by omega)) (wp_ret ?_)) (fun h1 => ?_)
  · rw [if_pos h1]; simp [retR]
  rw [if_neg h1]
  refine wp_decs (fun h1 => wp_call (ratio_Neg_sp h) (wp_ret ?_)) (fun h1 => ?_)
  · rw [if_pos h1]; rfl
  rw [if_neg h1]
  refine wp_decs (fun h1 => wp_call (ratio_Sign_sp h.sm) (wp_call (ratio_Of_sp _ (inR_sgn _)) (wp_ret ?_))) (fun h1 => ?_)
  · rw [if_pos h1]; rfl
  rw [if_neg h1]
  refine wp_decs (fun h1 => wp_call (ratio_Of_sp 1 (by unfold inR; omega)) (wp_call (ratio_Div_sp o1.sm h.sm) (wp_ret ?_))) (fun h1 => ?_)
  · rw [if_pos h1]; rfl
  rw [if_neg h1]
  refine wp_decs (fun h1 => wp_call (ratio_Ceil_sp h) (wp_ret ?_)) (fun h1 => ?_)
  · rw [if_pos h1]; rfl
  rw [if_neg h1]
  refine wp_decs (fun h1 => wp_call (ratio_Floor_sp h) (wp_ret ?_)) (fun h1 => ?_)
  · rw [if_pos h1]; rfl
  rw [if_neg h1]
  refine wp_decs (fun h1 => wp_call (ratio_Abs_sp h) (wp_ret ?_)) (fun h1 => ?_)
  · rw [if_pos h1]; rfl
  rw [if_neg h1]
  refine wp_decs (fun h1 => wp_call (ratio_Small_sp a (by omega)) ?_) (fun h1 => ?_)
  · rw [if_pos h1]
    cases hs : smallN a with
    | none => exact wp_tt rfl (wp_ret rfl)
    | some k =>
      refine wp_ff rfl ?_
      simp only [optI, getD_c0, toInt_int, int_bne, Option.some.injEq]
      refine wp_decs (fun h2 => wp_decs (fun h3 => wp_ret ?_) (fun h3 => ?_)) (fun h2 => ?_)
      · rw [if_neg h2, if_neg h3]; rfl
      · obtain rfl := Classical.not_not.1 h3
        exact wp_call (ratio_Of_sp _ (by unfold inR; decide)) (wp_ret rfl)
      · obtain rfl := Classical.not_not.1 h2
        exact wp_call (ratio_Of_sp _ (by unfold inR; decide)) (wp_ret rfl)
  rw [if_neg h1]
  refine wp_decs (fun h1 => wp_call (scalar_factorial_sp h) (wp_ret ?_)) (fun h1 => wp_ret ?_)
  · rw [if_pos h1]; rfl
  · rw [if_neg h1]; rfl
theorem ref10_Number_sp (f : Int) (h : RNum a z d) : Sp 27 [.int f, dN a] (retR (oneN f a)) := by
  obtain ⟨l1, l2⟩ := h.len
  have o0 := rnum_ofZ (z := 0) lenZ_small
  have o1 := rnum_ofZ (z := 1) lenZ_small
  refine sound_ 0 (ref10_Number_tree _ _ _) ?_
  simp only [toInt_int, int_beq, dN_zero, dN_0, toBool_bool]
  unfold oneN
  refine wp_decs (fun h1 => wp_ret ?_) (fun h1 => ?_)
  · rw [if_pos h1]; rfl
  rw [if_neg h1]
  refine wp_decs (fun h1 => wp_call (ref04_Neg_sp a) (wp_ret ?_)) (fun h1 => ?_)
  · rw [if_pos h1]; rfl
  rw [if_neg h1]
  refine wp_decs (fun h1 => wp_call (ref04_Of_sp 0 (by unfold inR; omega)) (wp_call (ref04_Cmp_sp h.sm o0.sm) ?_)) (fun h1 => ?_)
  · rw [if_pos h1]
    have c0 : cmpR a (ofZ 0) = sgnZ (numT a) := by
      unfold cmpR
      rw [o0.top, o0.bot, ← sgnZ_sub]; simp
    rw [c0]
    exact wp_call (ref04_Of_sp _ (inR_sgn _)) (wp_ret rfl)
  rw [if_neg h1]
  refine wp_decs (fun h1 => wp_call (ref04_Of_sp 1 (by unfold inR; omega)) (wp_call (ref04_Div_sp o1.sm h.sm) (wp_ret ?_))) (fun h1 => ?_)
  · rw [if_pos h1]; rfl
  rw [if_neg h1]
  refine wp_decs (fun h1 => wp_call (ref04_Neg_sp a) (wp_call (ref04_Floor_sp (negN_rn h)) (wp_call (ref04_Neg_sp _) (wp_ret ?_)))) (fun h1 => ?_)
  · rw [if_pos h1]; rfl
  rw [if_neg h1]
  refine wp_decs (fun h1 => wp_call (ref04_Floor_sp h) (wp_ret ?_)) (fun h1 => ?_)
  · rw [if_pos h1]; rfl
  rw [if_neg h1]
  refine wp_decs (fun h1 => wp_br (fun h2 => wp_call (ref04_Neg_sp a) (wp_ret ?_)) (fun h2 => wp_ret ?_)) (fun h1 => ?_)
  · rw [if_pos h1]
    have : negN a = ⟨false, a.top, a.bot⟩ := by
      unfold negN
      rw [if_neg (fun hh => by have := h.sgn; rw [h2, h.top0.1 hh] at this; simp at this), h2]; rfl
    rw [this]; rfl
  · rw [if_pos h1]
    have : a = ⟨false, a.top, a.bot⟩ := by rw [← h2]
    rw [← this]; rfl
  rw [if_neg h1]
  refine wp_decs (fun h1 => ?_) (fun h1 => ?_)
  · rw [if_pos h1]
    have e0 : (a = ofZ 0) ↔ smallN a = some 0 := by
      constructor
      · intro hh; rw [hh]; exact smallN_of o0 (by unfold inR; omega)
      · intro hh; obtain ⟨rfl, rfl, _⟩ := smallN_rn h hh; exact rn_val h
    have e1 : (a = ofZ 1) ↔ smallN a = some 1 := by
      constructor
      · intro hh; rw [hh]; exact smallN_of o1 (by unfold inR; omega)
      · intro hh; obtain ⟨rfl, rfl, _⟩ := smallN_rn h hh; exact rn_val h
    refine wp_call (ref04_Of_sp 0 (by unfold inR; omega)) (wp_call (ref04_Same_sp a (ofZ 0) (by omega) (by omega)) ?_)
    simp only [getD_c0, toBool_bool]
    refine wp_decs (fun h2 => wp_call (ref04_Of_sp 1 (by unfold inR; omega)) (wp_ret ?_)) (fun h2 => wp_call (ref04_Of_sp 1 (by unfold inR; omega)) (wp_call (ref04_Same_sp a (ofZ 1) (by omega) (by omega)) ?_))
    · rw [if_pos (e0.1 h2)]; rfl
    rw [if_neg (fun hh => h2 (e0.2 hh))]
    simp only [getD_c0, toBool_bool]
    refine wp_decs (fun h3 => wp_call (ref04_Of_sp 0 (by unfold inR; omega)) (wp_ret ?_)) (fun h3 => wp_ret ?_)
    · rw [if_pos (e1.1 h3)]; rfl
    · rw [if_neg (fun hh => h3 (e1.2 hh))]; rfl
  rw [if_neg h1]
  refine wp_decs (fun h1 => wp_call (ref10_factorial_sp h) (wp_ret ?_)) (fun h1 => wp_ret ?_)
  · rw [if_pos h1]; rfl
  · rw [if_neg h1]; rfl
theorem scalar_compared_sp (f : Int) (h : RNum a z d) (h' : RNum b y e) : Sp 79 [.int f, dN a, dN b] (retR (cmpT f (cmpR a b))) := by
  refine sound_ 0 (scalar_compared_tree _ _ _ _) (wp_call (ratio_Cmp_sp h.sm h'.sm) ?_)
  simp only [getD_c0, toInt_int, int_beq, int_bne, dN_zero]
  unfold cmpT
  refine wp_decs (fun h1 => wp_call (scalar_truth_sp _) (wp_ret ?_)) (fun h1 => ?_)
  · rw [if_pos h1]; rfl
  rw [if_neg h1]
  refine wp_decs (fun h1 => wp_call (scalar_truth_sp _) (wp_ret ?_)) (fun h1 => ?_)
  · rw [if_pos h1]; rfl
  rw [if_neg h1]
  refine wp_decs (fun h1 => wp_call (scalar_truth_sp _) (wp_ret ?_)) (fun h1 => ?_)
  · rw [if_pos h1]; rfl
  rw [if_neg h1]
  refine wp_decs (fun h1 => wp_call (scalar_truth_sp _) (wp_ret ?_)) (fun h1 => ?_)
  · rw [if_pos h1]; rfl
  rw [if_neg h1]
  refine wp_decs (fun h1 => wp_call (scalar_truth_sp _) (wp_ret ?_)) (fun h1 => ?_)
  · rw [if_pos h1]; rfl
  rw [if_neg h1]
  refine wp_decs (fun h1 => wp_call (scalar_truth_sp _) (wp_ret ?_)) (fun h1 => wp_ret ?_)
  · rw [if_pos h1]; rfl
  · rw [if_neg h1]; rfl
/-- Small exponents. -/
def PowOk (f : Int) (b : Num) : Prop := f = 42 → ∀ k, smallN b = some k → -300 ≤ k ∧ k ≤ 300
theorem scalar_Numbers_sp (f : Int) (h : RNum a z d) (h' : RNum b y e) (hp : PowOk f b) : Sp 28 [.int f, dN a, dN b] (retR (twoN f a b)) := by
  obtain ⟨l1, l2⟩ := h.len
  obtain ⟨l3, l4⟩ := h'.len
  refine sound_ 0 (scalar_Numbers_tree _ _ _ _) ?_
  simp only [toInt_int, int_beq, dN_zero]
  unfold twoN
  refine wp_decs (fun h1 => wp_call (ratio_Add_sp h.sm h'.sm) (wp_ret ?_)) (fun h1 => ?_)
  · rw [if_pos h1]; rfl
  rw [if_neg h1]
  refine wp_decs (fun h1 => wp_call (ratio_Sub_sp h.sm h') (wp_ret ?_)) (fun h1 => ?_)
  · rw [if_pos h1]; rfl
  rw [if_neg h1]
  refine wp_decs (fun h1 => wp_call (ratio_Mul_sp h.sm h'.sm) (wp_ret ?_)) (fun h1 => ?_)
  · rw [if_pos h1]; rfl
  rw [if_neg h1]
  refine wp_decs (fun h1 => wp_call (ratio_Div_sp h.sm h'.sm) (wp_ret ?_)) (fun h1 => ?_)
  · rw [if_pos h1]; rfl
  rw [if_neg h1]
  refine wp_decs (fun h1 => wp_dec h1 (wp_call (ratio_Cmp_sp h.sm h'.sm) ?_)) (fun h1 => ?_)
  · rw [if_pos h1, decide_eq_true h1]
    simp only [getD_c0, toInt_int]
    by_cases hc : cmpR a b < 0
    · rw [if_pos hc]
      exact wp_tt (beq_iff_eq.2 (decide_eq_true hc)) (wp_call (array_Num_sp b (by omega) (by omega)) (wp_ret (by simp [retR])))
    · rw [if_neg hc]
      exact wp_ff (beq_eq_false_iff_ne.2 (fun hh => hc (of_decide_eq_true hh))) (wp_call (array_Num_sp a (by omega) (by omega)) (wp_ret (by simp [retR])))
  rw [if_neg h1, decide_eq_false h1]
  refine wp_decs (fun h1 => wp_call (ratio_Cmp_sp h.sm h'.sm) ?_) (fun h1 => ?_)
  · rw [if_pos h1]
    simp only [getD_c0, toInt_int]
    by_cases hc : cmpR a b < 0
    · rw [if_pos hc]
      exact wp_ff (beq_eq_false_iff_ne.2 (fun hh => of_decide_eq_false hh hc)) (wp_call (array_Num_sp a (by omega) (by omega)) (wp_ret (by simp [retR])))
    · rw [if_neg hc]
      exact wp_tt (beq_iff_eq.2 (decide_eq_false hc)) (wp_call (array_Num_sp b (by omega) (by omega)) (wp_ret (by simp [retR])))
  rw [if_neg h1]
  refine wp_decs (fun h1 => wp_call (ratio_Mod_sp h h') (wp_ret ?_)) (fun h1 => ?_)
  · rw [if_pos h1]; rfl
  rw [if_neg h1]
  refine wp_decs (fun h1 => wp_call (ratio_Small_sp b (by omega)) ?_) (fun h1 => ?_)
  · rw [if_pos h1]
    cases hs : smallN b with
    | none => exact wp_tt rfl (wp_ret rfl)
    | some k =>
      have := hp h1 k hs
      exact wp_ff rfl (wp_call (ratio_Pow_sp h k (by omega)) (wp_ret rfl))
  rw [if_neg h1]
  refine wp_decs (fun h1 => wp_call (ratio_Lcm_sp h h') (wp_ret ?_)) (fun h1 => ?_)
  · rw [if_pos h1]; rfl
  rw [if_neg h1]
  refine wp_decs (fun h1 => wp_call (ratio_Gcd_sp h h') (wp_ret ?_)) (fun h1 => wp_call (scalar_compared_sp f h h') (wp_ret ?_))
  · rw [if_pos h1]; rfl
  · rw [if_neg h1]; rfl
theorem ref10_Numbers_sp (f : Int) (h : RNum a z d) (h' : RNum b y e) (hp : PowOk f b) : Sp 29 [.int f, dN a, dN b] (retR (twoN f a b)) := by
  obtain ⟨l1, l2⟩ := h.len
  obtain ⟨l3, l4⟩ := h'.len
  refine sound_ 0 (ref10_Numbers_tree _ _ _ _) (wp_call (ref04_Cmp_sp h.sm h'.sm) ?_)
  simp only [toInt_int, getD_c0, int_beq, int_bne, dN_zero]
  have tr : ∀ (c : Bool), Tw (.call 85 [] [D.bool c] fun yy9 => .ret [yy9.getD 0 D.nil, D.int ((yy9.getD 1 D.nil).toInt)]) (retR (truN c, 0)) := fun c => wp_call (ref10_truth_sp c) (wp_ret rfl)
  unfold twoN cmpT
  refine wp_decs (fun h1 => wp_call (ref04_Add_sp h.sm h'.sm) (wp_ret ?_)) (fun h1 => ?_)
  · rw [if_pos h1]; rfl
  rw [if_neg h1]
  refine wp_decs (fun h1 => wp_call (ref04_Sub_sp h.sm h') (wp_ret ?_)) (fun h1 => ?_)
  · rw [if_pos h1]; rfl
  rw [if_neg h1]
  refine wp_decs (fun h1 => wp_call (ref04_Mul_sp h.sm h'.sm) (wp_ret ?_)) (fun h1 => ?_)
  · rw [if_pos h1]; rfl
  rw [if_neg h1]
  refine wp_decs (fun h1 => wp_call (ref04_Div_sp h.sm h'.sm) (wp_ret ?_)) (fun h1 => ?_)
  · rw [if_pos h1]; rfl
  rw [if_neg h1]
  refine wp_decs (fun h1 => wp_decs (fun h2 => wp_ret ?_) (fun h2 => wp_ret ?_)) (fun h1 => ?_)
  · rw [if_pos h1, if_neg (by omega)]; rfl
  · rw [if_pos h1]
    by_cases hc : cmpR a b < 0
    · rw [if_pos hc]; rfl
    · rw [if_neg hc, (cmp_same h h').1 (by omega)]; rfl
  rw [if_neg h1]
  refine wp_decs (fun h1 => wp_decs (fun h2 => wp_ret ?_) (fun h2 => wp_ret ?_)) (fun h1 => ?_)
  · rw [if_pos h1, if_pos h2]; rfl
  · rw [if_pos h1, if_neg h2]; rfl
  rw [if_neg h1]
  refine wp_decs (fun h1 => wp_call (ref04_Mod_sp h h') (wp_ret ?_)) (fun h1 => ?_)
  · rw [if_pos h1]; rfl
  rw [if_neg h1]
  refine wp_decs (fun h1 => wp_call (ref04_Small_sp b (by omega)) ?_) (fun h1 => ?_)
  · rw [if_pos h1]
    cases hs : smallN b with
    | none => exact wp_tt rfl (wp_ret rfl)
    | some k =>
      have := hp h1 k hs
      exact wp_ff rfl (wp_call (ref04_Pow_sp h k (by omega)) (wp_ret rfl))
  rw [if_neg h1]
  refine wp_decs (fun h1 => ?_) (fun h1 => ?_)
  · rw [if_neg (by omega), if_neg (by omega), if_pos h1]; exact tr _
  rename_i _; refine wp_decs (fun h2 => ?_) (fun h2 => ?_)
  · rw [if_neg (by omega), if_neg (by omega), if_neg h1, if_pos h2]; exact tr _
  refine wp_decs (fun h3 => ?_) (fun h3 => ?_)
  · rw [if_neg (by omega), if_neg (by omega), if_neg h1, if_neg h2, if_pos h3]; exact tr _
  refine wp_decs (fun h4 => ?_) (fun h4 => ?_)
  · rw [if_neg (by omega), if_neg (by omega), if_neg h1, if_neg h2, if_neg h3, if_pos h4]; exact tr _
  refine wp_decs (fun h5 => ?_) (fun h5 => ?_)
  · rw [if_neg (by omega), if_neg (by omega), if_neg h1, if_neg h2, if_neg h3, if_neg h4, if_pos h5]; exact tr _
  refine wp_decs (fun h6 => ?_) (fun h6 => ?_)
  · rw [if_neg (by omega), if_neg (by omega), if_neg h1, if_neg h2, if_neg h3, if_neg h4, if_neg h5, if_pos h6]; exact tr _
  refine wp_decs (fun h7 => wp_call (ref04_Lcm_sp h h') (wp_ret ?_)) (fun h7 => ?_)
  · rw [if_pos h7]; rfl
  rw [if_neg h7]
  refine wp_decs (fun h8 => wp_call (ref04_Gcd_sp h h') (wp_ret ?_)) (fun h8 => wp_ret ?_)
  · rw [if_pos h8]; rfl
  · rw [if_neg h8, if_neg h1, if_neg h2, if_neg h3, if_neg h4, if_neg h5, if_neg h6]; rfl
end
end Go.Proofs.YtjmddikeadbmjaaGreat
set_option maxRecDepth 100000
namespace Go.Proofs.YtjmddikeadbmjaaGreat

theorem rightC_cases {d : Nat} {c : Cell} (h : rightC d c = true) : (c.kind = 0 ∧ c.c = 0 ∧ c.inn = [] ∧ rightN c.n = true) ∨ (c.kind = 1 ∧ c.n = .zero ∧ c.inn = []) ∨ (c.kind = 2 ∧ c.n = .zero ∧ c.c = 0 ∧ ∃ x e, d = e + 1 ∧ c.inn = [x] ∧ simpleA x = false ∧ rightA e x = true) := by
  have h2 := rightC_inn h
  have key : ∀ k r, cellR k r c = true → (c.kind = 0 ∧ c.c = 0 ∧ c.inn = [] ∧ rightN c.n = true) ∨ (c.kind = 1 ∧ c.n = .zero ∧ c.inn = []) ∨ (c.kind = 2 ∧ c.n = .zero ∧ c.c = 0 ∧ ∃ x, x ∈ c.inn) := by
    intro k r hh
    unfold cellR at hh
    split at hh
    · rename_i hk
      simp only [Bool.and_eq_true, decide_eq_true_eq] at hh
      exact .inl ⟨hk, hh.1.1, List.length_eq_zero_iff.1 hh.1.2, hh.2⟩
    split at hh
    · rename_i hk
      simp only [Bool.and_eq_true, decide_eq_true_eq] at hh
      exact .inr (.inl ⟨hk, hh.1.1, List.length_eq_zero_iff.1 hh.1.2⟩)
    · simp only [Bool.and_eq_true, decide_eq_true_eq] at hh
      obtain ⟨h3, h4, h5⟩ := hh
      refine .inr (.inr ⟨h3.1, h3.2.1, h3.2.2, ?_⟩)
      unfold boxOK at h5
      split at h5
      · rename_i y hy; exact ⟨y, by rw [hy]; simp⟩
      · cases h5
  have : (c.kind = 0 ∧ c.c = 0 ∧ c.inn = [] ∧ rightN c.n = true) ∨ (c.kind = 1 ∧ c.n = .zero ∧ c.inn = []) ∨ (c.kind = 2 ∧ c.n = .zero ∧ c.c = 0 ∧ ∃ x, x ∈ c.inn) := by
    cases d with
    | zero => exact key _ _ h
    | succ d => exact key _ _ h
  rcases this with h3 | h3 | ⟨h3, h4, h5, x, hx⟩
  · exact .inl h3
  · exact .inr (.inl h3)
  · obtain ⟨e, he, hs, hr, hi, _⟩ := h2 x hx
    exact .inr (.inr ⟨h3, h4, h5, x, e, he, hi, hs, hr⟩)
theorem rightC_num {d : Nat} {l : Lab} {n : Num} (h : rightN n = true) : rightC d ⟨l, 0, n, 0, []⟩ = true := by
  have key : ∀ k r, cellR k r ⟨l, 0, n, 0, []⟩ = true := fun k r => by unfold cellR; simp [h]
  cases d with
  | zero => exact key _ _
  | succ d => exact key _ _
theorem rightC_box {d : Nat} {l : Lab} {x : Arr} (h1 : simpleA x = false) (h2 : rightA d x = true) : rightC (d + 1) ⟨l, 2, .zero, 0, [x]⟩ = true := by
  show cellR true (rightA d) _ = true
  unfold cellR boxOK
  simp [h1, h2]
mutual
def unoA (f : Int) : Arr → Arr × Int
  | .mk s sh cs => if f ∈ onesL then (if (unoCs f cs).2 = 0 then (.mk s sh (unoCs f cs).1, 0) else (.none, (unoCs f cs).2)) else (.none, 8)
def unoCs (f : Int) : List (CellF Arr) → List (CellF Arr) × Int
  | [] => ([], 0)
  | c :: cs => if (unoC f c).2 = 0 then (if (unoCs f cs).2 = 0 then ((unoC f c).1 :: (unoCs f cs).1, 0) else ([], (unoCs f cs).2)) else ([], (unoC f c).2)
def unoC (f : Int) : CellF Arr → CellF Arr × Int
  | ⟨l, k, n, c, inn⟩ => if k = 0 then (⟨l, 0, (oneN f n).1, 0, []⟩, (oneN f n).2) else if k = 2 then (⟨l, 2, .zero, 0, [(unoAs f inn).1]⟩, (unoAs f inn).2) else (Cell.none, 3)
def unoAs (f : Int) : List Arr → Arr × Int
  | [] => (.none, 0)
  | a :: _ => unoA f a
end
theorem unoA_eq (f : Int) (a : Arr) : unoA f a = if f ∈ onesL then (if (unoCs f a.cells).2 = 0 then (.mk a.s a.shape (unoCs f a.cells).1, 0) else (.none, (unoCs f a.cells).2)) else (.none, 8) := by cases a; rw [unoA]; rfl
theorem unoC_eq (f : Int) (c : Cell) : unoC f c = if c.kind = 0 then (⟨c.l, 0, (oneN f c.n).1, 0, []⟩, (oneN f c.n).2) else if c.kind = 2 then (⟨c.l, 2, .zero, 0, [(unoAs f c.inn).1]⟩, (unoAs f c.inn).2) else (Cell.none, 3) := by cases c; rw [unoC]
/-- What is told of an array's cells. -/
def onR (s : Lab) (sh : List Int) (pre : List Cell) (r : List Cell × Int) : List D := if r.2 = 0 then [dA (.mk s sh (pre ++ r.1)), .int 0] else [dA .none, .int r.2]
theorem onR_cons {s : Lab} {sh : List Int} {pre : List Cell} {f : Int} {c : Cell} {cs : List Cell} (h : (unoC f c).2 = 0) : onR s sh pre (unoCs f (c :: cs)) = onR s sh (pre ++ [(unoC f c).1]) (unoCs f cs) := by
  rw [unoCs, if_pos h]
  unfold onR
  by_cases h2 : (unoCs f cs).2 = 0
  · rw [if_pos h2]; simp [h2]
  · rw [if_neg h2]; simp [h2]
theorem onR_err {s : Lab} {sh : List Int} {pre : List Cell} {f : Int} {c : Cell} {cs : List Cell} (h : ¬ (unoC f c).2 = 0) : onR s sh pre (unoCs f (c :: cs)) = [dA .none, .int (unoC f c).2] := by
  rw [unoCs, if_neg h]
  unfold onR
  rw [if_neg h]
theorem unoA_D (f : Int) (a : Arr) (hf : f ∈ onesL) : [dA (unoA f a).1, D.int (unoA f a).2] = onR a.s a.shape [] (unoCs f a.cells) := by
  rw [unoA_eq, if_pos hf]
  unfold onR
  split <;> rfl
theorem scalar_inside_sp (c : Cell) (x : Arr) (h : c.inn = [x]) : Sp 131 [dC c] [dA x] := by
  refine sound_ 0 (scalar_inside_tree _ _) ?_
  simp only [dA_0, dA_1, dA_2, dC_0, dC_1, dC_2, dC_3, dC_4, dN_0, dN_1, dN_2, els_sl, els_dI, els_dL, List.length_map, Int.toNat_natCast, toInt_int, toInt_dB, toBool_bool, getD_c0, getD_c1, int_beq, int_bne, not_dec, dInt_dB, Int.toNat_zero, h, List.map_cons, List.map_nil, List.length_cons, List.length_nil]
  exact wp_ndec (by omega) (wp_dec (by omega) (wp_dec (by omega) (wp_ret rfl)))
theorem scalar_oneCell_sp (f : Int) (d : Nat) (c : Cell) (h : rightC d c = true) (ih : ∀ e x, d = e + 1 → rightA e x = true → Sp 31 [.int f, dA x] [dA (unoA f x).1, .int (unoA f x).2]) : Sp 89 [.int f, dC c] [dC (unoC f c).1, .int (unoC f c).2] := by
  refine sound_ 0 (scalar_oneCell_tree _ _ _) ?_
  simp only [dA_0, dA_1, dA_2, dC_0, dC_1, dC_2, dC_3, dC_4, dN_0, dN_1, dN_2, els_sl, els_dI, els_dL, List.length_map, Int.toNat_natCast, toInt_int, toInt_dB, toBool_bool, getD_c0, getD_c1, int_beq, int_bne, not_dec, dInt_dB, Int.toNat_zero]
  rw [unoC_eq]
  rcases rightC_cases h with ⟨h1, h2, h3, h4⟩ | ⟨h1, h2, h3⟩ | ⟨h1, h2, h3, x, e, h4, h5, h6, h7⟩
  · obtain ⟨z, q, hr⟩ := rn_of h4
    refine wp_dec h1 (wp_call (scalar_Number_sp f hr) (wp_ret ?_))
    rw [if_pos h1, dC_eq]; rfl
  · refine wp_ndec (by omega) (wp_ndec (by omega) (wp_ret ?_))
    rw [if_neg (by omega), if_neg (by omega), dC_eq]; rfl
  · refine wp_ndec (by omega) (wp_dec h1 (wp_call (scalar_inside_sp c x h5) (wp_call (ih e x h4 h7) (wp_ret ?_))))
    rw [if_neg (by omega), if_pos h1, h5, unoAs, dC_eq]; rfl
theorem scalar_One_sp (f : Int) : ∀ (d : Nat) (a : Arr), rightA d a = true → Sp 31 [.int f, dA a] [dA (unoA f a).1, .int (unoA f a).2] := by
  suffices key : ∀ (d : Nat) (a : Arr), (∀ e x, d = e + 1 → rightA e x = true → Sp 31 [.int f, dA x] [dA (unoA f x).1, .int (unoA f x).2]) → rightA d a = true → Sp 31 [.int f, dA a] [dA (unoA f a).1, .int (unoA f a).2] by
    intro d
    induction d with
    | zero => intro a; exact key 0 a (fun e x he => by omega)
    | succ d ihd => intro a; exact key (d + 1) a (fun e x he => by have : e = d := by omega
                                                                   subst this; exact ihd x)
  intro d a ih hr
  have hs := rightA_sml hr
  have hl := hs.2.1
  have hcs := (rightA_cells hr).2
  refine sound_ (a.cells.length + 1) (scalar_One_tree _ _ _) (wp_call (scalar_IsOne_sp f) ?_)
  simp only [dA_0, dA_1, dA_2, dC_0, dC_1, dC_2, dC_3, dC_4, dN_0, dN_1, dN_2, els_sl, els_dI, els_dL, List.length_map, Int.toNat_natCast, toInt_int, toInt_dB, toBool_bool, getD_c0, getD_c1, int_beq, int_bne, not_dec, dInt_dB, Int.toNat_zero, dA_none, dC_none']
  refine wp_decs (fun h => wp_ret ?_) (fun h => wp_call (clone_I_sp a.shape hs.1) ?_)
  · rw [unoA_eq, if_neg h]
  rw [unoA_D f a (Classical.not_not.1 h)]
  simp only [dA_0, dA_1, dA_2, dC_0, dC_1, dC_2, dC_3, dC_4, dN_0, dN_1, dN_2, els_sl, els_dI, els_dL, List.length_map, Int.toNat_natCast, toInt_int, toInt_dB, toBool_bool, getD_c0, getD_c1, int_beq, int_bne, not_dec, dInt_dB, Int.toNat_zero]
  refine wp_dec (by omega) (wp_dec (by omega) (wp_dec (by simp only [bigN]; omega) ?_))
  have key := loop_list (P := Tryz.prog) (md := md) a.cells (fun m k (pre : List Cell) => scalar_One_l5 (a.cells.length + 1) m f (.sl (a.cells.map dC)) (a.cells.length : Int) (k : Int) 0 (a.s.toNat : Int) (a.shape.map .int) (pre.map dC ++ List.replicate (a.cells.length - k) (dC Cell.none))) (fun rest pre => onR a.s a.shape pre (unoCs f rest)) (fun rest pre => pre.length + rest.length = a.cells.length)
    (fun m k pre hk hI => by
      simp only [scalar_One_l5_succ, dA_0, dA_1, dA_2, dC_0, dC_1, dC_2, dC_3, dC_4, dN_0, dN_1, dN_2, els_sl, els_dI, els_dL, List.length_map, Int.toNat_natCast, toInt_int, toInt_dB, toBool_bool, getD_c0, getD_c1, int_beq, int_bne, not_dec, dInt_dB, Int.toNat_zero]
      refine wp_ndec (by omega) (wp_ret ?_)
      rw [hk, Nat.sub_self, List.replicate_zero, List.append_nil, unoCs]
      unfold onR
      rw [if_pos rfl, dA_eq]
      simp [dI])
    (fun m k pre c rest hdr hI ih' => by
      obtain ⟨h1, h2, h3⟩ := drop_cons hdr
      have hpk : pre.length = k := by
        have := congrArg List.length hdr
        simp only [List.length_drop, List.length_cons] at this hI
        omega
      have hlen : (pre.map dC ++ List.replicate (a.cells.length - k) (dC Cell.none)).length = a.cells.length := by simp; omega
      simp only [scalar_One_l5_succ, dA_0, dA_1, dA_2, dC_0, dC_1, dC_2, dC_3, dC_4, dN_0, dN_1, dN_2, els_sl, els_dI, els_dL, List.length_map, Int.toNat_natCast, toInt_int, toInt_dB, toBool_bool, getD_c0, getD_c1, int_beq, int_bne, not_dec, dInt_dB, Int.toNat_zero, getD_map h2, hlen, wrap_succ (show k < 9223372036854775807 by omega)]
      refine wp_dec (by omega) (wp_dec (by omega) (wp_dec (by omega) (wp_call (scalar_oneCell_sp f d c (hcs c (List.mem_of_getElem? h2)) ih) ?_)))
      simp only [getD_c0, getD_c1, toInt_int, int_bne, dA_none]
      refine wp_decs (fun he => wp_ret ?_) (fun he => wp_dec (by omega) (wp_dec (by omega) ?_))
      · rw [onR_err he]
      · have he' := Classical.not_not.1 he
        rw [onR_cons he', show a.cells.length - k = (a.cells.length - (k + 1)) + 1 by omega, ← hpk, set_next, hpk]
        exact ih' (pre ++ [(unoC f c).1]) (by simp only [List.length_append, List.length_cons, List.length_nil] at hI ⊢; omega))
    (a.cells.length + 1) 0 [] (by omega) (by omega) (by simp)
  simpa using key
theorem ref10_One_sp (f : Int) : ∀ (d : Nat) (a : Arr), rightA d a = true → Sp 32 [.int f, dA a] [dA (unoA f a).1, .int (unoA f a).2] := by
  suffices key : ∀ (d : Nat) (a : Arr), (∀ e x, d = e + 1 → rightA e x = true → Sp 32 [.int f, dA x] [dA (unoA f x).1, .int (unoA f x).2]) → rightA d a = true → Sp 32 [.int f, dA a] [dA (unoA f a).1, .int (unoA f a).2] by
    intro d
    induction d with
    | zero => intro a; exact key 0 a (fun e x he => by omega)
    | succ d ihd => intro a; exact key (d + 1) a (fun e x he => by have : e = d := by omega
                                                                   subst this; exact ihd x)
  intro d a ih hr
  have hs := rightA_sml hr
  have hl := hs.2.1
  have hcs := (rightA_cells hr).2
  refine sound_ (a.cells.length + 1) (ref10_One_tree _ _ _) (wp_call ref10_Ones_sp (wp_call (ref06_In_sp onesL f (by decide)) ?_))
  simp only [dA_0, dA_1, dA_2, dC_0, dC_1, dC_2, dC_3, dC_4, dN_0, dN_1, dN_2, els_sl, els_dI, els_dL, List.length_map, Int.toNat_natCast, toInt_int, toInt_dB, toBool_bool, getD_c0, getD_c1, int_beq, int_bne, not_dec, dInt_dB, Int.toNat_zero, dA_none]
  refine wp_decs (fun h => wp_ret ?_) (fun h => ?_)
  · rw [unoA_eq, if_neg h]
  rw [unoA_D f a (Classical.not_not.1 h)]
  have key := loop_list (P := Tryz.prog) (md := md) a.cells (fun m k (pre : List Cell) => ref10_One_l5 (a.cells.length + 1) m f (k : Int) (dA a) 0 (a.s.toNat : Int) (dI a.shape) (pre.map dC)) (fun rest pre => onR a.s a.shape pre (unoCs f rest)) (fun rest pre => pre.length + rest.length = a.cells.length)
    (fun m k pre hk hI => by
      simp only [ref10_One_l5_succ, dA_0, dA_1, dA_2, dC_0, dC_1, dC_2, dC_3, dC_4, dN_0, dN_1, dN_2, els_sl, els_dI, els_dL, List.length_map, Int.toNat_natCast, toInt_int, toInt_dB, toBool_bool, getD_c0, getD_c1, int_beq, int_bne, not_dec, dInt_dB, Int.toNat_zero]
      refine wp_ndec (by omega) (wp_ret ?_)
      rw [unoCs]
      unfold onR
      rw [if_pos rfl, dA_eq]
      simp [dI])
    (fun m k pre c rest hdr hI ih' => by
      obtain ⟨h1, h2, h3⟩ := drop_cons hdr
      have hpk : pre.length = k := by
        have := congrArg List.length hdr
        simp only [List.length_drop, List.length_cons] at this hI
        omega
      have big : ∀ x : D, (pre.map dC).length + [x].length ≤ bigN := fun x => by simp only [List.length_map, List.length_cons, List.length_nil, bigN]; omega
      simp only [ref10_One_l5_succ, dA_0, dA_1, dA_2, dC_0, dC_1, dC_2, dC_3, dC_4, dN_0, dN_1, dN_2, els_sl, els_dI, els_dL, List.length_map, Int.toNat_natCast, toInt_int, toInt_dB, toBool_bool, getD_c0, getD_c1, int_beq, int_bne, not_dec, dInt_dB, Int.toNat_zero, getD_map h2, wrap_succ (show k < 9223372036854775807 by omega)]
      have nxt := fun (he : (unoC f c).2 = 0) => ih' (pre ++ [(unoC f c).1]) (by simp only [List.length_append, List.length_cons, List.length_nil] at hI ⊢; omega)
      simp only [List.map_append, List.map_cons, List.map_nil] at nxt
      refine wp_dec (by omega) (wp_dec (by omega) (wp_dec (by omega) ?_))
      rcases rightC_cases (hcs c (List.mem_of_getElem? h2)) with ⟨g1, g2, g3, g4⟩ | ⟨g1, g2, g3⟩ | ⟨g1, g2, g3, x, e, g4, g5, g6, g7⟩
      · obtain ⟨z, q, hrn⟩ := rn_of g4
        have ec : unoC f c = (⟨c.l, 0, (oneN f c.n).1, 0, []⟩, (oneN f c.n).2) := by rw [unoC_eq, if_pos g1]
        refine wp_dec g1 (wp_call (ref10_Number_sp f hrn) ?_)
        simp only [retR, getD_c0, getD_c1, toInt_int, int_bne, dA_none]
        refine wp_decs (fun he => wp_ret ?_) (fun he => wp_dec (by simpa using big D.nil) ?_)
        · rw [onR_err (by rw [ec]; exact he), ec]
        · have he' : (unoC f c).2 = 0 := by rw [ec]; exact Classical.not_not.1 he
          rw [onR_cons he']
          have := nxt he'
          rw [ec, dC_eq] at this
          rw [ec, g1, g2, g3]
          exact this
      · have ec : unoC f c = (Cell.none, 3) := by rw [unoC_eq, if_neg (by omega), if_neg (by omega)]
        refine wp_ndec (by omega) (wp_dec g1 (wp_ret ?_))
        rw [onR_err (by rw [ec]; decide), ec, ← dA_none]
      · have ec : unoC f c = (⟨c.l, 2, .zero, 0, [(unoA f x).1]⟩, (unoA f x).2) := by rw [unoC_eq, if_neg (by omega), if_pos g1, g5, unoAs]
        simp only [g5, List.map_cons, List.map_nil, List.length_cons, List.length_nil, getD_c0]
        refine wp_ndec (by omega) (wp_ndec (by omega) (wp_dec (by omega) (wp_dec (by omega) (wp_call (ih e x g4 g7) ?_))))
        simp only [getD_c0, getD_c1, toInt_int, int_bne, dA_none]
        refine wp_decs (fun he => wp_ret ?_) (fun he => wp_dec (by simpa using big D.nil) ?_)
        · rw [onR_err (by rw [ec]; exact he), ec]
        · have he' : (unoC f c).2 = 0 := by rw [ec]; exact Classical.not_not.1 he
          rw [onR_cons he']
          have := nxt he'
          rw [ec, dC_eq] at this
          rw [ec, g1, g2, g3]
          exact this)
    (a.cells.length + 1) 0 [] (by omega) (by omega) (by simp)
  simpa using key
theorem unoCs_len {f : Int} : ∀ {cs : List Cell}, (unoCs f cs).2 = 0 → (unoCs f cs).1.length = cs.length
  | [], _ => by simp [unoCs]
  | c :: cs, h => by
    rw [unoCs] at h ⊢
    split at h
    · rename_i h1
      rw [if_pos h1]
      split at h
      · rename_i h2; rw [if_pos h2]; simp [unoCs_len h2]
      · rename_i h2; exact absurd h h2
    · rename_i h1; exact absurd h h1
theorem unoCs_mem {f : Int} : ∀ {cs : List Cell}, (unoCs f cs).2 = 0 → ∀ y ∈ (unoCs f cs).1, ∃ c ∈ cs, (unoC f c).2 = 0 ∧ y = (unoC f c).1
  | [], _, y, hy => by rw [unoCs] at hy; cases hy
  | c :: cs, h, y, hy => by
    rw [unoCs] at h hy
    split at h
    · rename_i h1
      rw [if_pos h1] at hy
      split at h
      · rename_i h2
        rw [if_pos h2] at hy
        rcases List.mem_cons.1 hy with rfl | hy
        · exact ⟨c, by simp, h1, rfl⟩
        · obtain ⟨c', g1, g2⟩ := unoCs_mem h2 y hy
          exact ⟨c', by simp [g1], g2⟩
      · rename_i h2; exact absurd h h2
    · rename_i h1; exact absurd h h1
theorem simple_iff (a : Arr) : simpleA a = true ↔ a.shape = [] ∧ ∃ c, a.cells = [c] ∧ ¬ c.kind = 2 := by
  unfold simpleA
  split
  · rename_i c h1 h2
    rw [decide_eq_true_eq]
    exact ⟨fun h => ⟨h1, c, h2, h⟩, fun ⟨_, c', h3, h4⟩ => by rw [h2] at h3; simp at h3; subst h3; exact h4⟩
  · rename_i hne
    exact ⟨fun h => (by cases h), fun ⟨h1, c, h2, _⟩ => absurd h2 (hne c h1)⟩
/-- What is told of a right array is right; a box stays one. -/
theorem unoA_right (f : Int) : ∀ (d : Nat) (a : Arr), rightA d a = true → (unoA f a).2 = 0 → rightA d (unoA f a).1 = true ∧ (simpleA a = false → simpleA (unoA f a).1 = false) := by
  suffices key : ∀ (d : Nat) (a : Arr), (∀ e x, d = e + 1 → rightA e x = true → (unoA f x).2 = 0 → rightA e (unoA f x).1 = true ∧ (simpleA x = false → simpleA (unoA f x).1 = false)) → rightA d a = true → (unoA f a).2 = 0 → rightA d (unoA f a).1 = true ∧ (simpleA a = false → simpleA (unoA f a).1 = false) by
    intro d
    induction d with
    | zero => intro a; exact key 0 a (fun e x he => by omega)
    | succ d ihd => intro a; exact key (d + 1) a (fun e x he => by have : e = d := by omega
                                                                   subst this; exact ihd x)
  intro d a ih hr h0
  obtain ⟨hc, hcs⟩ := rightA_cells hr
  rw [unoA_eq] at h0 ⊢
  split at h0
  · rename_i h1
    rw [if_pos h1]
    split at h0
    · rename_i h2
      rw [if_pos h2]
      refine ⟨rightA_of (by simp only [Arr.shape_mk, Arr.cells_mk, unoCs_len h2]; exact hc) (fun y hy => ?_), fun hns => ?_⟩
      · obtain ⟨c, g1, g2, rfl⟩ := unoCs_mem h2 y hy
        rw [unoC_eq] at g2 ⊢
        rcases rightC_cases (hcs c g1) with ⟨k1, k2, k3, k4⟩ | ⟨k1, k2, k3⟩ | ⟨k1, k2, k3, x, e, k4, k5, k6, k7⟩
        · rw [if_pos k1] at g2 ⊢
          obtain ⟨z, q, hrn⟩ := rn_of k4
          obtain ⟨z', q', hrn'⟩ := oneN_rn f hrn g2
          exact rightC_num hrn'.right
        · rw [if_neg (by omega), if_neg (by omega)] at g2; cases g2
        · rw [if_neg (by omega), if_pos k1, k5, unoAs] at g2 ⊢
          obtain ⟨r1, r2⟩ := ih e x k4 k7 g2
          subst k4
          exact rightC_box (r2 k6) r1
      · cases hq : simpleA (Arr.mk a.s a.shape (unoCs f a.cells).1) with
        | false => rfl
        | true =>
          exfalso
          obtain ⟨q1, c', q2, q3⟩ := (simple_iff _).1 hq
          simp only [Arr.shape_mk, Arr.cells_mk] at q1 q2
          obtain ⟨c, hcc⟩ := len_one (l := a.cells) (by rw [← unoCs_len h2, q2]; rfl)
          obtain ⟨c2, m1, m2, m3⟩ := unoCs_mem h2 c' (by rw [q2]; simp)
          rw [hcc] at m1
          have : c2 = c := by simpa using m1
          subst this
          have hk : c2.kind = 2 := by
            rcases Decidable.em (c2.kind = 2) with hh | hh
            · exact hh
            · have := (simple_iff a).2 ⟨q1, c2, hcc, hh⟩
              rw [hns] at this; cases this
          apply q3
          rw [m3, unoC_eq, if_neg (by omega), if_pos hk]
    · rename_i h2; exact absurd h0 h2
  · cases h0
end Go.Proofs.YtjmddikeadbmjaaGreat
set_option maxRecDepth 100000
namespace Go.Proofs.YtjmddikeadbmjaaGreat

def confA (a b : Arr) : List Int × Int := if a.shape = [] then (b.shape, 0) else if b.shape = [] then (a.shape, 0) else if a.shape.length ≠ b.shape.length then ([], 5) else if a.shape = b.shape then (a.shape, 0) else ([], 4)
theorem scalar_Conform_sp {d e : Nat} (a b : Arr) (ha : Sml d a) (hb : Sml e b) : Sp 13 [dA a, dA b] [dI (confA a b).1, .int (confA a b).2] := by
  obtain ⟨d, rfl⟩ := ha.succ
  obtain ⟨e, rfl⟩ := hb.succ
  have h1 := ha.1
  have h2 := hb.1
  refine sound_ 0 (scalar_Conform_tree _ _ _) ?_
  simp only [dA_0, dA_1, dA_2, dC_0, dC_1, dC_2, dC_3, dC_4, dN_0, dN_1, dN_2, els_sl, els_dI, els_dL, List.length_map, Int.toNat_natCast, toInt_int, toInt_dB, toBool_bool, getD_c0, getD_c1, int_beq, int_bne, not_dec, dInt_dB, Int.toNat_zero]
  unfold confA
  refine wp_decs (fun h => wp_call (clone_I_sp b.shape h2) (wp_ret ?_)) (fun h => wp_decs (fun h' => wp_call (clone_I_sp a.shape h1) (wp_ret ?_)) (fun h' => wp_decs (fun h3 => wp_ret ?_) (fun h3 => wp_call (slices_EqualI_sp a.shape b.shape (by omega)) ?_)))
  · rw [if_pos (List.length_eq_zero_iff.1 (by omega))]; rfl
  · rw [if_neg (fun hh => h (by rw [hh]; rfl)), if_pos (List.length_eq_zero_iff.1 (by omega))]; rfl
  · rw [if_neg (fun hh => h (by rw [hh]; rfl)), if_neg (fun hh => h' (by rw [hh]; rfl)), if_pos (by omega)]; rfl
  · rw [if_neg (fun hh => h (by rw [hh]; rfl)), if_neg (fun hh => h' (by rw [hh]; rfl)), if_neg (by omega)]
    simp only [getD_c0, toBool_bool, not_dec]
    refine wp_decs (fun h4 => wp_ret ?_) (fun h4 => wp_call (clone_I_sp a.shape h1) (wp_ret ?_))
    · rw [if_neg h4]; rfl
    · rw [if_pos (Classical.not_not.1 h4)]; rfl
theorem ref10_Conform_sp {d e : Nat} (a b : Arr) (ha : Sml d a) (hb : Sml e b) : Sp 14 [dA a, dA b] [dI (confA a b).1, .int (confA a b).2] := by
  obtain ⟨d, rfl⟩ := ha.succ
  obtain ⟨e, rfl⟩ := hb.succ
  have h1 := ha.1
  refine sound_ 0 (ref10_Conform_tree _ _ _) ?_
  simp only [dA_0, dA_1, dA_2, dC_0, dC_1, dC_2, dC_3, dC_4, dN_0, dN_1, dN_2, els_sl, els_dI, els_dL, List.length_map, Int.toNat_natCast, toInt_int, toInt_dB, toBool_bool, getD_c0, getD_c1, int_beq, int_bne, not_dec, dInt_dB, Int.toNat_zero]
  unfold confA
  refine wp_decs (fun h => wp_ret ?_) (fun h => wp_decs (fun h' => wp_ret ?_) (fun h' => wp_decs (fun h3 => wp_ret ?_) (fun h3 => wp_call (ref07_Ints_sp a.shape b.shape (by omega)) ?_)))
  · rw [if_pos (List.length_eq_zero_iff.1 (by omega))]
  · rw [if_neg (fun hh => h (by rw [hh]; rfl)), if_pos (List.length_eq_zero_iff.1 (by omega))]
  · rw [if_neg (fun hh => h (by rw [hh]; rfl)), if_neg (fun hh => h' (by rw [hh]; rfl)), if_pos (by omega)]; rfl
  · rw [if_neg (fun hh => h (by rw [hh]; rfl)), if_neg (fun hh => h' (by rw [hh]; rfl)), if_neg (by omega)]
    simp only [getD_c0, toBool_bool, not_dec]
    refine wp_decs (fun h4 => wp_ret ?_) (fun h4 => wp_ret ?_)
    · rw [if_neg h4]; rfl
    · rw [if_pos (Classical.not_not.1 h4)]
/-- A cell of a number, or the only one. -/
def pickZ (a : Arr) (i : Int) : Cell := if (if a.shape = [] then 0 else i) < 0 ∨ (a.cells.length : Int) ≤ (if a.shape = [] then 0 else i) then Cell.none else a.cells.getD (if a.shape = [] then 0 else i).toNat Cell.none
theorem getDC {l : List Cell} {i : Nat} (h : i < l.length) : (l.map dC).getD i D.nil = dC (l.getD i Cell.none) := by
  rw [getD_map (List.getElem?_eq_getElem h), List.getD_eq_getElem?_getD, List.getElem?_eq_getElem h]; rfl
theorem scalar_pick_sp (a : Arr) (i : Int) : Sp 42 [dA a, .int i] [dC (pickZ a i)] := by
  refine sound_ 0 (scalar_pick_tree _ _ _) ?_
  simp only [dA_0, dA_1, dA_2, dC_0, dC_1, dC_2, dC_3, dC_4, dN_0, dN_1, dN_2, els_sl, els_dI, els_dL, List.length_map, Int.toNat_natCast, toInt_int, toInt_dB, toBool_bool, getD_c0, getD_c1, int_beq, int_bne, not_dec, dInt_dB, Int.toNat_zero, dC_none']
  unfold pickZ
  refine wp_decs (fun h => ?_) (fun h => ?_)
  · simp only [if_pos (List.length_eq_zero_iff.1 (show a.shape.length = 0 by omega))]
    refine wp_ndec (by omega) (wp_decs (fun h2 => wp_ret ?_) (fun h2 => wp_dec (by omega) (wp_dec (by omega) (wp_ret ?_))))
    · rw [if_pos (.inr h2)]
    · rw [if_neg (by omega), show Int.toNat 0 = 0 from rfl, getDC (by omega)]
  · simp only [if_neg (fun hh : a.shape = [] => h (by rw [hh]; rfl))]
    refine wp_decs (fun h1 => wp_ret ?_) (fun h1 => wp_decs (fun h2 => wp_ret ?_) (fun h2 => wp_dec (by omega) (wp_dec (by omega) (wp_ret ?_))))
    · rw [if_pos (.inl h1)]
    · rw [if_pos (.inr h2)]
    · rw [if_neg (by omega), getDC (by omega)]
theorem ref10_Pick_sp (a : Arr) (i : Int) : Sp 46 [dA a, .int i] [dC (pickZ a i)] := by
  refine sound_ 0 (ref10_Pick_tree _ _ _) ?_
  simp only [dA_0, dA_1, dA_2, dC_0, dC_1, dC_2, dC_3, dC_4, dN_0, dN_1, dN_2, els_sl, els_dI, els_dL, List.length_map, Int.toNat_natCast, toInt_int, toInt_dB, toBool_bool, getD_c0, getD_c1, int_beq, int_bne, not_dec, dInt_dB, Int.toNat_zero, dC_none']
  unfold pickZ
  refine wp_decs (fun h => ?_) (fun h => ?_)
  · simp only [if_pos (List.length_eq_zero_iff.1 (show a.shape.length = 0 by omega))]
    refine wp_decs (fun h2 => wp_dec (by omega) (wp_dec (by omega) (wp_ret ?_))) (fun h2 => ?_)
    · rw [if_neg (by omega), show Int.toNat 0 = 0 from rfl, getDC (by omega)]
    · rw [if_pos (.inr (by omega))]
      refine wp_decs (fun h1 => wp_ret rfl) (fun h1 => wp_decs (fun h3 => wp_ret rfl) (fun h3 => wp_dec h (wp_ret rfl)))
  · simp only [if_neg (fun hh : a.shape = [] => h (by rw [hh]; rfl))]
    refine wp_decs (fun h1 => wp_ret ?_) (fun h1 => wp_decs (fun h2 => wp_ret ?_) (fun h2 => wp_ndec h (wp_dec (by omega) (wp_dec (by omega) (wp_ret ?_)))))
    · rw [if_pos (.inl h1)]
    · rw [if_pos (.inr h2)]
    · rw [if_neg (by omega), getDC (by omega)]
/-- What is in a box, or a cell alone. -/
def contC (c : Cell) : Arr := if c.kind = 2 then c.inn.headD .none else .mk 0 [] [⟨0, c.kind, c.n, c.c, c.inn⟩]
def twoC (r : Arr → Arr → Arr × Int) (f : Int) (x y : Cell) : Cell × Int :=
  if x.kind = 2 ∨ y.kind = 2 then (⟨x.l ||| y.l, 2, .zero, 0, [(r (contC x) (contC y)).1]⟩, (r (contC x) (contC y)).2)
  else if x.kind = 0 ∧ y.kind = 0 then (⟨x.l ||| y.l, 0, (twoN f x.n y.n).1, 0, []⟩, (twoN f x.n y.n).2)
  else if f = 61 then (⟨x.l ||| y.l, 0, truN (decide (x.kind = y.kind ∧ x.c = y.c)), 0, []⟩, 0)
  else if f = 8800 then (⟨x.l ||| y.l, 0, truN (decide (¬ (x.kind = y.kind ∧ x.c = y.c))), 0, []⟩, 0)
  else (⟨x.l ||| y.l, 0, .zero, 0, []⟩, 3)
/-- Cells, one by one, up to an error. -/
def twoCs (g : Nat → Cell × Int) : Nat → Nat → List Cell × Int
  | 0, _ => ([], 0)
  | m + 1, k => if (g k).2 = 0 then (if (twoCs g m (k + 1)).2 = 0 then ((g k).1 :: (twoCs g m (k + 1)).1, 0) else ([], (twoCs g m (k + 1)).2)) else ([], (g k).2)
def cntA (a b : Arr) : Nat := if a.shape = [] then b.cells.length else a.cells.length
def twoG (r : Arr → Arr → Arr × Int) (f : Int) (a b : Arr) : Arr × Int :=
  if f ∈ twosL then (if (confA a b).2 = 0 then (if (twoCs (fun i => twoC r f (pickZ a i) (pickZ b i)) (cntA a b) 0).2 = 0 then (.mk (a.s ||| b.s) (confA a b).1 (twoCs (fun i => twoC r f (pickZ a i) (pickZ b i)) (cntA a b) 0).1, 0) else (.none, (twoCs (fun i => twoC r f (pickZ a i) (pickZ b i)) (cntA a b) 0).2)) else (.none, (confA a b).2)) else (.none, 8)
def twoA : Nat → Int → Arr → Arr → Arr × Int
  | 0, f => twoG (fun _ _ => (.none, 0)) f
  | d + 1, f => twoG (twoA d f) f
/-- All numbers of an array are small, as exponents. -/
inductive ExpOk : Arr → Prop where
  | mk {s : Lab} {sh : List Int} {cs : List Cell} (h : ∀ c ∈ cs, ∀ k, smallN c.n = some k → -300 ≤ k ∧ k ≤ 300) (h2 : ∀ c ∈ cs, ∀ x ∈ c.inn, ExpOk x) : ExpOk (.mk s sh cs)
theorem ExpOk.cell {a : Arr} (h : ExpOk a) : ∀ c ∈ a.cells, (∀ k, smallN c.n = some k → -300 ≤ k ∧ k ≤ 300) ∧ ∀ x ∈ c.inn, ExpOk x := by cases h with | mk h h2 => exact fun c hc => ⟨h c hc, h2 c hc⟩
def ExpOkC (c : Cell) : Prop := (∀ k, smallN c.n = some k → -300 ≤ k ∧ k ≤ 300) ∧ ∀ x ∈ c.inn, ExpOk x
theorem contC_right {d : Nat} {c : Cell} (h : rightC (d + 1) c = true) : rightA d (contC c) = true ∧ Sml (d + 1) (contC c) ∧ (c.kind = 2 → simpleA (contC c) = false) ∧ (¬ c.kind = 2 → (contC c).shape = []) := by
  have key : rightA d (contC c) = true ∧ (c.kind = 2 → simpleA (contC c) = false) ∧ (¬ c.kind = 2 → (contC c).shape = []) := by
    unfold contC
    rcases rightC_cases h with ⟨h1, h2, h3, h4⟩ | ⟨h1, h2, h3⟩ | ⟨h1, h2, h3, x, e, h4, h5, h6, h7⟩
    · rw [if_neg (by omega)]
      refine ⟨rightA_of (by simp; decide) (fun y hy => ?_), fun hh => by omega, fun _ => rfl⟩
      have : y = ⟨0, c.kind, c.n, c.c, c.inn⟩ := by simpa using hy
      subst this
      rw [h1, h2, h3]
      exact rightC_num h4
    · rw [if_neg (by omega)]
      refine ⟨rightA_of (by simp; decide) (fun y hy => ?_), fun hh => by omega, fun _ => rfl⟩
      have : y = ⟨0, c.kind, c.n, c.c, c.inn⟩ := by simpa using hy
      subst this
      have k1 : cellR true (rightA d) c = true := h
      have key2 : ∀ k r, cellR k r ⟨0, c.kind, c.n, c.c, c.inn⟩ = true := fun k r => by
        unfold cellR at k1 ⊢
        simp only [h1] at k1 ⊢
        simpa using k1
      cases d with
      | zero => exact key2 _ _
      | succ d => exact key2 _ _
    · rw [if_pos h1, h5]
      have : e = d := by omega
      subst this
      exact ⟨h7, fun _ => h6, fun hh => absurd h1 hh⟩
  exact ⟨key.1, rightA_sml key.1, key.2⟩
theorem contC_exp {c : Cell} (h : ExpOkC c) (hi : c.kind = 2 → ∃ x, c.inn = [x]) : ExpOk (contC c) := by
  unfold contC
  split
  · rename_i hk
    obtain ⟨x, hx⟩ := hi hk
    rw [hx]; exact h.2 x (by rw [hx]; simp)
  · have one : ∀ y ∈ [(⟨0, c.kind, c.n, c.c, c.inn⟩ : Cell)], ExpOkC y := fun y hy => by
      have : y = ⟨0, c.kind, c.n, c.c, c.inn⟩ := by simpa using hy
      subst this
      exact h
    exact .mk (fun y hy => (one y hy).1) (fun y hy => (one y hy).2)
theorem right_nil {d : Nat} {a : Arr} (h : rightA d a = true) (hs : a.shape = []) : ∃ c, a.cells = [c] := by
  have := (rightA_cells h).1
  rw [hs, show countS [] = (1, 0) by decide] at this
  have e := congrArg Prod.fst this
  simp only at e
  exact len_one (by omega)
/-- Cells that go together are there. -/
theorem pick_in {d : Nat} {a b : Arr} (ha : rightA d a = true) (hb : rightA d b = true) (hc : (confA a b).2 = 0) {i : Nat} (hi : i < cntA a b) : pickZ a i ∈ a.cells ∧ pickZ b i ∈ b.cells := by
  have mem : ∀ (l : List Cell) (j : Nat), j < l.length → l.getD j Cell.none ∈ l := fun l j hj => by
    rw [List.getD_eq_getElem?_getD, List.getElem?_eq_getElem hj]; exact List.getElem_mem hj
  have one : ∀ (x : Arr), rightA d x = true → x.shape = [] → ∀ j : Int, pickZ x j ∈ x.cells := fun x hx hs j => by
    obtain ⟨c, hcc⟩ := right_nil hx hs
    unfold pickZ
    rw [if_pos hs, if_neg (by rw [hcc]; simp)]
    exact mem _ _ (by rw [hcc]; simp)
  have many : ∀ (x : Arr), ¬ x.shape = [] → ∀ j : Nat, j < x.cells.length → pickZ x (j : Int) ∈ x.cells := fun x hs j hj => by
    unfold pickZ
    rw [if_neg hs, if_neg (by omega), Int.toNat_natCast]
    exact mem _ _ hj
  unfold cntA at hi
  by_cases h1 : a.shape = []
  · rw [if_pos h1] at hi
    refine ⟨one a ha h1 _, ?_⟩
    by_cases h2 : b.shape = []
    · exact one b hb h2 _
    · exact many b h2 i hi
  · rw [if_neg h1] at hi
    refine ⟨many a h1 i hi, ?_⟩
    by_cases h2 : b.shape = []
    · exact one b hb h2 _
    · refine many b h2 i ?_
      unfold confA at hc
      rw [if_neg h1, if_neg h2] at hc
      split at hc
      · cases hc
      · split at hc
        · rename_i h3
          have e1 := (rightA_cells ha).1
          have e2 := (rightA_cells hb).1
          rw [h3, e2] at e1
          have := congrArg Prod.fst e1
          simp only at this
          omega
        · cases hc
theorem conf_count {d : Nat} {a b : Arr} (ha : rightA d a = true) (hb : rightA d b = true) (hc : (confA a b).2 = 0) : countS (confA a b).1 = (((cntA a b : Nat) : Int), 0) := by
  unfold confA cntA at *
  by_cases h1 : a.shape = []
  · rw [if_pos h1, if_pos h1]; exact (rightA_cells hb).1
  · rw [if_neg h1] at hc ⊢
    rw [if_neg h1]
    by_cases h2 : b.shape = []
    · rw [if_pos h2]; exact (rightA_cells ha).1
    · rw [if_neg h2] at hc ⊢
      split at hc
      · cases hc
      · rename_i h3
        rw [if_neg h3]
        split at hc
        · rename_i h4; rw [if_pos h4]; exact (rightA_cells ha).1
        · cases hc
/-- What is told of cells. -/
def twR (s : Lab) (sh : List Int) (pre : List Cell) (r : List Cell × Int) : List D := if r.2 = 0 then [dA (.mk s sh (pre ++ r.1)), .int 0] else [dA .none, .int r.2]
theorem twR_cons {s : Lab} {sh : List Int} {pre : List Cell} {g : Nat → Cell × Int} {m k : Nat} (h : (g k).2 = 0) : twR s sh pre (twoCs g (m + 1) k) = twR s sh (pre ++ [(g k).1]) (twoCs g m (k + 1)) := by
  rw [twoCs, if_pos h]
  unfold twR
  by_cases h2 : (twoCs g m (k + 1)).2 = 0
  · rw [if_pos h2]; simp [h2]
  · rw [if_neg h2]; simp [h2]
theorem twR_err {s : Lab} {sh : List Int} {pre : List Cell} {g : Nat → Cell × Int} {m k : Nat} (h : ¬ (g k).2 = 0) : twR s sh pre (twoCs g (m + 1) k) = [dA .none, .int (g k).2] := by
  rw [twoCs, if_neg h]
  unfold twR
  rw [if_neg h]
theorem twoG_D (r : Arr → Arr → Arr × Int) (f : Int) (a b : Arr) (hf : f ∈ twosL) (hc : (confA a b).2 = 0) : [dA (twoG r f a b).1, D.int (twoG r f a b).2] = twR (a.s ||| b.s) (confA a b).1 [] (twoCs (fun i => twoC r f (pickZ a i) (pickZ b i)) (cntA a b) 0) := by
  unfold twoG
  rw [if_pos hf, if_pos hc]
  unfold twR
  split <;> rfl
end Go.Proofs.YtjmddikeadbmjaaGreat
