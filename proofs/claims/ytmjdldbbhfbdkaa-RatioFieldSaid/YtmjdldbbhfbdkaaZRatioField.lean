/- Proved: for all right numbers, as the law says, the law RatioField returns true and changes nothing. No condition. -/
import Derived.Test.YtmjdldbbhfbdkaaRows
import Derived.WalkKit
import Derived.WalkSpells
import Derived.WalkLawsBesides
import Derived.Lib.Hide
import Derived.Laws.CopyOwn
import Derived.Deep.QuietTactic
import Derived.BigQuiet
import Derived.Orders
import Derived.Defers
import Derived.Recover
import Derived.Test.YtmjdldbbhfbdkaaProg
import Derived.KernelRfl
import Derived.ProofKit
import Derived.OpenShut
import Derived.Test.YtmjdldbbhfbdkaaZ46b70efc
set_option linter.unusedSimpArgs false
set_option linter.unusedVariables false
set_option maxRecDepth 100000
namespace Go.Proofs.Ytmjdldbbhfbdkaa

theorem powZ_len (x n : Int) : lenZ (powZ x n).1 ≤ 100 := by
  unfold powZ
  split
  · show lenZ 0 ≤ 100; unfold lenZ; rw [show Int.natAbs 0 = 0 from rfl, lb_zero]; simp
  · exact powR_len _ _ _ _ (lb_len.2 (by show 1 < B ^ 100; exact Nat.one_lt_pow (by decide) (by decide)))
section
variable {a b : Num} {z y : Int} {d e : Nat}
theorem ratio_Pow_end (p q : Int × Int) (hp : lenZ p.1 ≤ 100) (hq : lenZ q.1 ≤ 100) {xs xt : List D} (h1 : Sp 38 xs (powD p)) (h2 : Sp 38 xt (powD q)) : Tw (.call 38 [] xs fun yy7 => .br (((yy7.getD 1 D.nil).toInt) != 0) (.ret [D.agg [D.bool false, D.sl [], D.sl []], D.int ((yy7.getD 1 D.nil).toInt)]) (.call 38 [] xt fun yy8 => .br (((yy8.getD 1 D.nil).toInt) != 0) (.ret [D.agg [D.bool false, D.sl [], D.sl []], D.int ((yy8.getD 1 D.nil).toInt)]) (.call 91 [] [yy7.getD 0 D.nil, yy8.getD 0 D.nil] fun yy9 => .ret [yy9.getD 0 D.nil, D.int ((yy9.getD 1 D.nil).toInt)]))) (retR (powD2 p q)) := by
  refine wp_call h1 ?_
  simp only [powD, getD_c0, getD_c1, toInt_int, int_bne, dN_zero]
  unfold powD2
  refine wp_decs (fun g1 => wp_ret ?_) (fun g1 => wp_call h2 ?_)
  · rw [if_neg g1]; rfl
  rw [if_pos (Classical.not_not.1 g1)]
  simp only [powD, getD_c0, getD_c1, toInt_int, int_bne, dN_zero]
  refine wp_decs (fun g2 => wp_ret ?_) (fun g2 => ?_)
  · rw [if_neg g2]; rfl
  rw [if_pos (Classical.not_not.1 g2)]
  have mk := ratio_Make_sp (wz p.1) (wz q.1) (by rw [wzl]; omega) (by rw [wzl]; omega)
  rw [zv_wz, zv_wz] at mk
  exact wp_call mk (wp_ret rfl)
theorem ratio_Pow_sp (h : RN a z d) (n : Int) (hn : n ≤ 3000 ∧ (-3000 ≤ n ∨ n = -9223372036854775808)) : Sp 64 [dN a, .int n] (retR (powRt a n)) := by
  obtain ⟨l1, l2⟩ := h.len
  refine sound_ 0 (ratio_Pow_tree _ _ _) (wp_call (ratio_top_sp a) (wp_call (ratio_bot_sp a) ?_))
  simp only [getD_c0, toInt_int, int_beq]
  unfold powRt
  refine wp_decs (fun h0 => wp_call (whole_Sign_sp ⟨a.neg, a.top⟩ (by show a.top.length ≤ _; omega)) ?_) (fun h0 => ?_)
  · rw [if_pos h0, zv_top]
    simp only [getD_c0, toInt_int, int_beq, dN_zero]
    refine wp_decs (fun h1 => wp_ret ?_) (fun h1 => wp_decs (fun h2 => wp_ret ?_) (fun h2 => ?_))
    · rw [if_pos (.inl (h.top0.2 (by rw [← h.top]; exact sgnZ_zero.1 h1)))]; rfl
    · rw [if_pos (.inr (by omega))]; rfl
    · have hz : ¬ a.top = [] := fun hh => h1 (by rw [h.top, h.top0.1 hh]; rfl)
      rw [if_neg (by intro hh; rcases hh with hh | hh; exact hz hh; omega), wrap64 (by omega) (by omega), Int.zero_sub]
      have p1 := whole_Pow_sp ⟨a.neg, a.top⟩ (-n) (by show a.top.length ≤ _; omega) (by omega)
      have p2 := whole_Pow_sp ⟨false, a.bot⟩ (-n) (by show a.bot.length ≤ _; omega) (by omega)
      exact ratio_Pow_end _ _ (powZ_len _ _) (powZ_len _ _) p2 p1
  · rw [if_neg h0]
    have p1 := whole_Pow_sp ⟨a.neg, a.top⟩ n (by show a.top.length ≤ _; omega) (by omega)
    have p2 := whole_Pow_sp ⟨false, a.bot⟩ n (by show a.bot.length ≤ _; omega) (by omega)
    exact ratio_Pow_end _ _ (powZ_len _ _) (powZ_len _ _) p1 p2
theorem ref04_Pow_end (p q : Int × Int) (hp : lenZ p.1 ≤ 100) (hq : lenZ q.1 ≤ 100) {xs xt : List D} (h1 : Sp 39 xs (powD p)) (h2 : Sp 39 xt (powD q)) : Tw (.call 39 [] xs fun yy7 => .br (((yy7.getD 1 D.nil).toInt) != 0) (.ret [D.agg [D.bool false, D.sl [], D.sl []], D.int ((yy7.getD 1 D.nil).toInt)]) (.call 39 [] xt fun yy8 => .br (((yy8.getD 1 D.nil).toInt) != 0) (.ret [D.agg [D.bool false, D.sl [], D.sl []], D.int ((yy8.getD 1 D.nil).toInt)]) (.call 84 [] [yy7.getD 0 D.nil, yy8.getD 0 D.nil] fun yy9 => .ret [yy9.getD 0 D.nil, D.int ((yy9.getD 1 D.nil).toInt)]))) (retR (powD2 p q)) := by
  refine wp_call h1 ?_
  simp only [powD, getD_c0, getD_c1, toInt_int, int_bne, dN_zero]
  unfold powD2
  refine wp_decs (fun g1 => wp_ret ?_) (fun g1 => wp_call h2 ?_)
  · rw [if_neg g1]; rfl
  rw [if_pos (Classical.not_not.1 g1)]
  simp only [powD, getD_c0, getD_c1, toInt_int, int_bne, dN_zero]
  refine wp_decs (fun g2 => wp_ret ?_) (fun g2 => ?_)
  · rw [if_neg g2]; rfl
  rw [if_pos (Classical.not_not.1 g2)]
  have mk := ref04_Make_sp (wz p.1) (wz q.1) (by rw [wzl]; omega) (by rw [wzl]; omega)
  rw [zv_wz, zv_wz] at mk
  exact wp_call mk (wp_ret rfl)
theorem ref04_Pow_sp (h : RN a z d) (n : Int) (hn : n ≤ 3000 ∧ (-3000 ≤ n ∨ n = -9223372036854775808)) : Sp 65 [dN a, .int n] (retR (powRt a n)) := by
  obtain ⟨l1, l2⟩ := h.len
  have at_ := numT_len a; have ab := numB_len a
  refine sound_ 0 (ref04_Pow_tree _ _ _) (wp_call (ref04_Top_sp a (by omega)) (wp_call (ref04_Bot_sp a (by omega)) ?_))
  simp only [getD_c0, toInt_int, int_beq, dN_1, els_dL, List.length_map]
  unfold powRt
  refine wp_decs (fun h0 => ?_) (fun h0 => ?_)
  · rw [if_pos h0, dN_zero]
    refine wp_decs (fun h1 => wp_ret ?_) (fun h1 => wp_decs (fun h2 => wp_ret ?_) (fun h2 => ?_))
    · rw [if_pos (.inl (List.length_eq_zero_iff.1 (by omega)))]; rfl
    · rw [if_pos (.inr (by omega))]; rfl
    · have hz : ¬ a.top = [] := fun hh => h1 (by rw [hh]; rfl)
      rw [if_neg (by intro hh; rcases hh with hh | hh; exact hz hh; omega), wrap64 (by omega) (by omega), Int.zero_sub]
      have p1 := ref03_Pow_sp (wz (numT a)) (-n) (by rw [wzl]; omega) (by omega)
      have p2 := ref03_Pow_sp (wz (numB a)) (-n) (by rw [wzl]; omega) (by omega)
      rw [zv_wz] at p1 p2
      exact wp_call (ref04_Bot_sp a (by omega)) (wp_call (ref04_Top_sp a (by omega)) (ref04_Pow_end _ _ (powZ_len _ _) (powZ_len _ _) p2 p1))
  · rw [if_neg h0]
    have p1 := ref03_Pow_sp (wz (numT a)) n (by rw [wzl]; omega) (by omega)
    have p2 := ref03_Pow_sp (wz (numB a)) n (by rw [wzl]; omega) (by omega)
    rw [zv_wz] at p1 p2
    exact ref04_Pow_end _ _ (powZ_len _ _) (powZ_len _ _) p1 p2
theorem gcd_len (h : RN a z d) (h' : RN b y e) : (lb (Nat.gcd (nv a.top) (nv b.top))).length ≤ 32 := by
  by_cases h0 : nv a.top = 0
  · rw [h0, Nat.gcd_zero_left]
    exact Nat.le_trans (lb_len.2 (nv_lt _)) h'.len.1
  · exact Nat.le_trans (lb_len.2 (Nat.lt_of_le_of_lt (Nat.gcd_le_left _ (by omega)) (nv_lt _))) h.len.1
theorem zv_pos (n : Nat) : zv ⟨false, lb n⟩ = (n : Int) := by rw [zv_lb]; rfl
theorem gcd_rn (h : RN a z d) (h' : RN b y e) : RN (ofZ (Nat.gcd (nv a.top) (nv b.top) : Nat)) (Nat.gcd (nv a.top) (nv b.top) : Nat) 1 :=
  ⟨(frac_one _).symm, by decide, Nat.coprime_one_right _, gcd_len h h', by rw [lb_one]; decide⟩
theorem ratio_Gcd_sp (h : RN a z d) (h' : RN b y e) : Sp 66 [dN a, dN b] (retR (gcdR a b)) := by
  refine sound_ 0 (ratio_Gcd_tree _ _ _) (wp_call (ratio_isOne_sp a.bot) ?_)
  simp only [getD_c0, toBool_bool, not_dec, dN_zero]
  unfold gcdR
  refine wp_decs (fun h1 => wp_ret ?_) (fun h1 => wp_call (ratio_isOne_sp b.bot) ?_)
  · rw [if_neg (fun hh => h1 hh.1)]; rfl
  simp only [getD_c0, toBool_bool, not_dec]
  refine wp_decs (fun h2 => wp_ret ?_) (fun h2 => ?_)
  · rw [if_neg (fun hh => h2 hh.2)]; rfl
  rw [if_pos ⟨Classical.not_not.1 h1, Classical.not_not.1 h2⟩]
  have gl := gcd_len h h'
  have gc := nat_Gcd_sp a.top b.top (by have := h.len; omega) (by have := h'.len; omega)
  have wh := ratio_Whole_sp ⟨false, lb (Nat.gcd (nv a.top) (nv b.top))⟩ (by show (lb _).length ≤ _; omega)
  rw [zv_pos] at wh
  unfold wholeN at wh
  rw [if_neg (by rw [Int.natAbs_natCast]; omega)] at wh
  exact wp_call gc (wp_call wh (wp_ret rfl))
theorem ref04_Gcd_sp (h : RN a z d) (h' : RN b y e) : Sp 67 [dN a, dN b] (retR (gcdR a b)) := by
  refine sound_ 0 (ref04_Gcd_tree _ _ _) (wp_call (ref04_IsWhole_sp a) ?_)
  simp only [getD_c0, toBool_bool, not_dec, dN_zero]
  unfold gcdR
  refine wp_decs (fun h1 => wp_ret ?_) (fun h1 => wp_call (ref04_IsWhole_sp b) ?_)
  · rw [if_neg (fun hh => h1 hh.1)]; rfl
  simp only [getD_c0, toBool_bool, not_dec]
  refine wp_decs (fun h2 => wp_ret ?_) (fun h2 => ?_)
  · rw [if_neg (fun hh => h2 hh.2)]; rfl
  rw [if_pos ⟨Classical.not_not.1 h1, Classical.not_not.1 h2⟩]
  have gl := gcd_len h h'
  have gc := ref02_Gcd_sp a.top b.top (by have := h.len; omega) (by have := h'.len; omega)
  have wh := ref04_Whole_sp ⟨false, lb (Nat.gcd (nv a.top) (nv b.top))⟩ (by show (lb _).length ≤ _; omega)
  rw [zv_pos] at wh
  exact wp_call gc (wp_call wh (wp_ret rfl))
theorem gcdR_ok (h : RN a z d) (h' : RN b y e) (h0 : (gcdR a b).2 = 0) : ∃ x, RN (gcdR a b).1 x 1 := by
  unfold gcdR at h0 ⊢
  split at h0
  · rename_i hh; rw [if_pos hh]; exact ⟨_, gcd_rn h h'⟩
  · cases h0
theorem ratio_Lcm_sp (h : RN a z d) (h' : RN b y e) : Sp 68 [dN a, dN b] (retR (lcmR a b)) := by
  refine sound_ 0 (ratio_Lcm_tree _ _ _) (wp_call (ratio_Gcd_sp h h') ?_)
  simp only [retR, getD_c0, getD_c1, toInt_int, int_bne, dN_zero]
  unfold lcmR bindR
  refine wp_decs (fun h1 => wp_ret ?_) (fun h1 => ?_)
  · rw [if_neg h1]
  have h1' := Classical.not_not.1 h1
  rw [if_pos h1']
  obtain ⟨x, hx⟩ := gcdR_ok h h' h1'
  refine wp_call (ratio_Sign_sp hx.sm) ?_
  simp only [getD_c0, toInt_int, int_beq]
  refine wp_decs (fun h2 => wp_call (ratio_Of_sp 0 (by unfold inR; omega)) (wp_ret ?_)) (fun h2 => wp_call (ratio_Div_sp h.sm hx.sm) ?_)
  · have hx0 : x = 0 := by rw [← hx.top]; exact sgnZ_zero.1 h2
    rw [if_pos (hx.top0.2 hx0)]
    rw [hx.eq, hx0, frac_one]; rfl
  · have hx0 : x ≠ 0 := fun hh => h2 (by rw [hx.top, hh]; rfl)
    rw [if_neg (fun hh => hx0 (hx.top0.1 hh))]
    simp only [retR, getD_c0, getD_c1, toInt_int, int_bne]
    refine wp_decs (fun h3 => wp_ret ?_) (fun h3 => ?_)
    · rw [if_neg h3]
    have h3' := Classical.not_not.1 h3
    rw [if_pos h3']
    obtain ⟨x2, c2, hr2⟩ := divR_ok h hx hx0 h3'
    exact wp_call (ratio_Mul_sp hr2.sm h'.sm) (wp_ret rfl)
theorem ref04_Lcm_sp (h : RN a z d) (h' : RN b y e) : Sp 69 [dN a, dN b] (retR (lcmR a b)) := by
  refine sound_ 0 (ref04_Lcm_tree _ _ _) (wp_call (ref04_Gcd_sp h h') ?_)
  simp only [retR, getD_c0, getD_c1, toInt_int, int_bne, int_beq, dN_zero, dN_1, els_dL, List.length_map]
  unfold lcmR bindR
  refine wp_decs (fun h1 => wp_ret ?_) (fun h1 => ?_)
  · rw [if_neg h1]
  have h1' := Classical.not_not.1 h1
  rw [if_pos h1']
  dsimp only
  obtain ⟨x, hx⟩ := gcdR_ok h h' h1'
  refine wp_decs (fun h2 => wp_ret ?_) (fun h2 => wp_call (ref04_Div_sp h.sm hx.sm) ?_)
  · rw [if_pos (List.length_eq_zero_iff.1 (by omega))]
  · have ht : ¬ (gcdR a b).1.top = [] := fun hh => h2 (by rw [hh]; rfl)
    have hx0 : x ≠ 0 := fun hh => ht (hx.top0.2 hh)
    rw [if_neg ht]
    simp only [retR, getD_c0, getD_c1, toInt_int, int_bne]
    refine wp_decs (fun h3 => wp_ret ?_) (fun h3 => ?_)
    · rw [if_neg h3]
    have h3' := Classical.not_not.1 h3
    rw [if_pos h3']
    obtain ⟨x2, c2, hr2⟩ := divR_ok h hx hx0 h3'
    exact wp_call (ref04_Mul_sp hr2.sm h'.sm) (wp_ret rfl)
end
end Go.Proofs.Ytmjdldbbhfbdkaa
set_option maxRecDepth 100000
namespace Go.Proofs.Ytmjdldbbhfbdkaa
/-! scrim/scrimlaw04.RatioBack -/
def law04_RatioBack_orc : List (Nat × Orc) := []
theorem law04_RatioBack_tree (n : Nat) (a0 : D) (b1 : D) : evFun Try.prog md law04_RatioBack_orc n 8 [] [a0, b1] =
 .call 40 [] [a0] fun yy1 =>
 .br (!((yy1.getD 0 D.nil).toBool)) (.call 41 [] [] fun yy2 =>
 .ret [D.bool ((yy2.getD 0 D.nil).toBool)])
 (.call 40 [] [b1] fun yy3 =>
 .br (!((yy3.getD 0 D.nil).toBool)) (.call 41 [] [] fun yy4 =>
 .ret [D.bool ((yy4.getD 0 D.nil).toBool)])
 (.call 42 [] [a0, b1] fun yy5 =>
 .br (((yy5.getD 1 D.nil).toInt) == 0) (.call 43 [] [yy5.getD 0 D.nil, b1] fun yy6 =>
 .call 40 [] [yy5.getD 0 D.nil] fun yy7 =>
 .br (!((yy7.getD 0 D.nil).toBool)) (.ret [D.bool false])
 (.br (((yy6.getD 1 D.nil).toInt) != 0) (.ret [D.bool false])
 (.call 44 [] [yy6.getD 0 D.nil, a0] fun yy8 =>
 .br (!((yy8.getD 0 D.nil).toBool)) (.ret [D.bool false])
 (.call 45 [] [a0, b1] fun yy9 =>
 .br (((yy9.getD 1 D.nil).toInt) != 0) (.br (((yy9.getD 1 D.nil).toInt) == 7) (.call 41 [] [] fun yy10 =>
 .ret [D.bool ((yy10.getD 0 D.nil).toBool)])
 (.br ((((b1.fld 1).els).length : Int) == 0) (.br (((yy9.getD 1 D.nil).toInt) == 3) (.call 41 [] [] fun yy11 =>
 .ret [D.bool ((yy11.getD 0 D.nil).toBool)])
 (.ret [D.bool false]))
 (.ret [D.bool false])))
 (.call 46 [] [yy9.getD 0 D.nil, b1] fun yy12 =>
 .call 40 [] [yy9.getD 0 D.nil] fun yy13 =>
 .br ((yy13.getD 0 D.nil).toBool) (.br (((yy12.getD 1 D.nil).toInt) == 0) (.call 44 [] [yy12.getD 0 D.nil, a0] fun yy14 =>
 .br ((yy14.getD 0 D.nil).toBool) (.call 41 [] [] fun yy15 =>
 .ret [D.bool ((yy15.getD 0 D.nil).toBool)])
 (.ret [D.bool false]))
 (.ret [D.bool false]))
 (.ret [D.bool false]))))))
 (.call 45 [] [a0, b1] fun yy16 =>
 .br (((yy16.getD 1 D.nil).toInt) != 0) (.br (((yy16.getD 1 D.nil).toInt) == 7) (.call 41 [] [] fun yy17 =>
 .ret [D.bool ((yy17.getD 0 D.nil).toBool)])
 (.br ((((b1.fld 1).els).length : Int) == 0) (.br (((yy16.getD 1 D.nil).toInt) == 3) (.call 41 [] [] fun yy18 =>
 .ret [D.bool ((yy18.getD 0 D.nil).toBool)])
 (.ret [D.bool false]))
 (.ret [D.bool false])))
 (.call 46 [] [yy16.getD 0 D.nil, b1] fun yy19 =>
 .call 40 [] [yy16.getD 0 D.nil] fun yy20 =>
 .br ((yy20.getD 0 D.nil).toBool) (.br (((yy19.getD 1 D.nil).toInt) == 0) (.call 44 [] [yy19.getD 0 D.nil, a0] fun yy21 =>
 .br ((yy21.getD 0 D.nil).toBool) (.call 41 [] [] fun yy22 =>
 .ret [D.bool ((yy22.getD 0 D.nil).toBool)])
 (.ret [D.bool false]))
 (.ret [D.bool false]))
 (.ret [D.bool false]))))) := by kernel_rfl

/-! scrim/scrimlaw04.RatioField -/
def law04_RatioField_orc : List (Nat × Orc) := []
theorem law04_RatioField_tree (n : Nat) (a0 : D) (b1 : D) (c2 : D) : evFun Try.prog md law04_RatioField_orc n 9 [] [a0, b1, c2] =
 .call 40 [] [a0] fun yy1 =>
 .br (!((yy1.getD 0 D.nil).toBool)) (.call 41 [] [] fun yy2 =>
 .ret [D.bool ((yy2.getD 0 D.nil).toBool)])
 (.call 40 [] [b1] fun yy3 =>
 .br (!((yy3.getD 0 D.nil).toBool)) (.call 41 [] [] fun yy4 =>
 .ret [D.bool ((yy4.getD 0 D.nil).toBool)])
 (.call 40 [] [c2] fun yy5 =>
 .br (!((yy5.getD 0 D.nil).toBool)) (.call 41 [] [] fun yy6 =>
 .ret [D.bool ((yy6.getD 0 D.nil).toBool)])
 (.br (decide (4 < (((a0.fld 1).els).length : Int))) (.call 41 [] [] fun yy7 =>
 .ret [D.bool ((yy7.getD 0 D.nil).toBool)])
 (.br (decide (4 < (((b1.fld 1).els).length : Int))) (.call 41 [] [] fun yy8 =>
 .ret [D.bool ((yy8.getD 0 D.nil).toBool)])
 (.br (decide (4 < (((c2.fld 1).els).length : Int))) (.call 41 [] [] fun yy9 =>
 .ret [D.bool ((yy9.getD 0 D.nil).toBool)])
 (.br (decide (4 < (((a0.fld 2).els).length : Int))) (.call 41 [] [] fun yy10 =>
 .ret [D.bool ((yy10.getD 0 D.nil).toBool)])
 (.br (decide (4 < (((b1.fld 2).els).length : Int))) (.call 41 [] [] fun yy11 =>
 .ret [D.bool ((yy11.getD 0 D.nil).toBool)])
 (.br (decide (4 < (((c2.fld 2).els).length : Int))) (.call 41 [] [] fun yy12 =>
 .ret [D.bool ((yy12.getD 0 D.nil).toBool)])
 (.call 42 [] [a0, b1] fun yy13 =>
 .call 42 [] [b1, c2] fun yy14 =>
 .call 42 [] [yy13.getD 0 D.nil, c2] fun yy15 =>
 .call 42 [] [a0, yy14.getD 0 D.nil] fun yy16 =>
 .call 46 [] [a0, yy14.getD 0 D.nil] fun yy17 =>
 .call 46 [] [a0, b1] fun yy18 =>
 .call 46 [] [a0, c2] fun yy19 =>
 .call 42 [] [yy18.getD 0 D.nil, yy19.getD 0 D.nil] fun yy20 =>
 .br (((yy13.getD 1 D.nil).toInt) == 0) (.br (((yy14.getD 1 D.nil).toInt) == 0) (.br (((yy15.getD 1 D.nil).toInt) == 0) (.br (((yy16.getD 1 D.nil).toInt) == 0) (.br (((yy17.getD 1 D.nil).toInt) == 0) (.br (((yy18.getD 1 D.nil).toInt) == 0) (.br (((yy19.getD 1 D.nil).toInt) == 0) (.br (((yy20.getD 1 D.nil).toInt) == 0) (.call 44 [] [yy15.getD 0 D.nil, yy16.getD 0 D.nil] fun yy21 =>
 .br ((yy21.getD 0 D.nil).toBool) (.call 44 [] [yy17.getD 0 D.nil, yy20.getD 0 D.nil] fun yy22 =>
 .br ((yy22.getD 0 D.nil).toBool) (.call 41 [] [] fun yy23 =>
 .ret [D.bool ((yy23.getD 0 D.nil).toBool)])
 (.ret [D.bool false]))
 (.ret [D.bool false]))
 (.ret [D.bool false]))
 (.ret [D.bool false]))
 (.ret [D.bool false]))
 (.ret [D.bool false]))
 (.ret [D.bool false]))
 (.ret [D.bool false]))
 (.ret [D.bool false]))
 (.ret [D.bool false])))))))))) := by kernel_rfl

/-! scrim/scrimlaw04.RatioRounds -/
def law04_RatioRounds_orc : List (Nat × Orc) := []
theorem law04_RatioRounds_tree (n : Nat) (a0 : D) (b1 : D) : evFun Try.prog md law04_RatioRounds_orc n 10 [] [a0, b1] =
 .call 40 [] [a0] fun yy1 =>
 .br (!((yy1.getD 0 D.nil).toBool)) (.call 41 [] [] fun yy2 =>
 .ret [D.bool ((yy2.getD 0 D.nil).toBool)])
 (.call 40 [] [b1] fun yy3 =>
 .br (!((yy3.getD 0 D.nil).toBool)) (.call 41 [] [] fun yy4 =>
 .ret [D.bool ((yy4.getD 0 D.nil).toBool)])
 (.call 47 [] [a0, b1] fun yy5 =>
 .call 48 [] [a0, b1] fun yy6 =>
 .call 49 [] [yy5.getD 0 D.nil, D.int ((yy5.getD 1 D.nil).toInt), yy6.getD 0 D.nil, D.int ((yy6.getD 1 D.nil).toInt)] fun yy7 =>
 .br ((yy7.getD 0 D.nil).toBool) (.call 50 [] [a0] fun yy8 =>
 .call 51 [] [a0] fun yy9 =>
 .call 44 [] [yy8.getD 0 D.nil, yy9.getD 0 D.nil] fun yy10 =>
 .br ((yy10.getD 0 D.nil).toBool) (.call 52 [] [a0] fun yy11 =>
 .call 53 [] [a0] fun yy12 =>
 .call 51 [] [yy12.getD 0 D.nil] fun yy13 =>
 .call 53 [] [yy13.getD 0 D.nil] fun yy14 =>
 .call 44 [] [yy11.getD 0 D.nil, yy14.getD 0 D.nil] fun yy15 =>
 .br ((yy15.getD 0 D.nil).toBool) (.call 54 [] [a0] fun yy16 =>
 .call 53 [] [a0] fun yy17 =>
 .call 44 [] [yy16.getD 0 D.nil, yy17.getD 0 D.nil] fun yy18 =>
 .br ((yy18.getD 0 D.nil).toBool) (.call 55 [] [a0] fun yy19 =>
 .call 44 [] [yy19.getD 0 D.nil, D.agg [D.bool false, a0.fld 1, a0.fld 2]] fun yy20 =>
 .br ((yy20.getD 0 D.nil).toBool) (.call 41 [] [] fun yy21 =>
 .ret [D.bool ((yy21.getD 0 D.nil).toBool)])
 (.ret [D.bool false]))
 (.ret [D.bool false]))
 (.ret [D.bool false]))
 (.ret [D.bool false]))
 (.ret [D.bool false]))) := by kernel_rfl

/-! scrim/scrimlaw04.RatioSums -/
def law04_RatioSums_orc : List (Nat × Orc) := []
theorem law04_RatioSums_tree (n : Nat) (a0 : D) (b1 : D) : evFun Try.prog md law04_RatioSums_orc n 11 [] [a0, b1] =
 .call 40 [] [a0] fun yy1 =>
 .br (!((yy1.getD 0 D.nil).toBool)) (.call 41 [] [] fun yy2 =>
 .ret [D.bool ((yy2.getD 0 D.nil).toBool)])
 (.call 40 [] [b1] fun yy3 =>
 .br (!((yy3.getD 0 D.nil).toBool)) (.call 41 [] [] fun yy4 =>
 .ret [D.bool ((yy4.getD 0 D.nil).toBool)])
 (.call 42 [] [a0, b1] fun yy5 =>
 .call 43 [] [a0, b1] fun yy6 =>
 .call 46 [] [a0, b1] fun yy7 =>
 .call 45 [] [a0, b1] fun yy8 =>
 .call 56 [] [a0, b1] fun yy9 =>
 .call 57 [] [a0, b1] fun yy10 =>
 .call 58 [] [a0, b1] fun yy11 =>
 .call 59 [] [a0, b1] fun yy12 =>
 .call 49 [] [yy5.getD 0 D.nil, D.int ((yy5.getD 1 D.nil).toInt), yy9.getD 0 D.nil, D.int ((yy9.getD 1 D.nil).toInt)] fun yy13 =>
 .br ((yy13.getD 0 D.nil).toBool) (.call 49 [] [yy6.getD 0 D.nil, D.int ((yy6.getD 1 D.nil).toInt), yy10.getD 0 D.nil, D.int ((yy10.getD 1 D.nil).toInt)] fun yy14 =>
 .br ((yy14.getD 0 D.nil).toBool) (.call 49 [] [yy7.getD 0 D.nil, D.int ((yy7.getD 1 D.nil).toInt), yy11.getD 0 D.nil, D.int ((yy11.getD 1 D.nil).toInt)] fun yy15 =>
 .br ((yy15.getD 0 D.nil).toBool) (.call 49 [] [yy8.getD 0 D.nil, D.int ((yy8.getD 1 D.nil).toInt), yy12.getD 0 D.nil, D.int ((yy12.getD 1 D.nil).toInt)] fun yy16 =>
 .br ((yy16.getD 0 D.nil).toBool) (.call 60 [] [a0, b1] fun yy17 =>
 .call 61 [] [a0, b1] fun yy18 =>
 .br (((yy17.getD 0 D.nil).toInt) == ((yy18.getD 0 D.nil).toInt)) (.call 62 [] [a0] fun yy19 =>
 .call 63 [] [D.int 0] fun yy20 =>
 .call 61 [] [a0, yy20.getD 0 D.nil] fun yy21 =>
 .br (((yy19.getD 0 D.nil).toInt) == ((yy21.getD 0 D.nil).toInt)) (.call 41 [] [] fun yy22 =>
 .ret [D.bool ((yy22.getD 0 D.nil).toBool)])
 (.ret [D.bool false]))
 (.ret [D.bool false]))
 (.ret [D.bool false]))
 (.ret [D.bool false]))
 (.ret [D.bool false]))
 (.ret [D.bool false]))) := by kernel_rfl

/-! scrim/scrimlaw04.RatioPowers -/
def law04_RatioPowers_orc : List (Nat × Orc) := []
theorem law04_RatioPowers_tree (n : Nat) (a0 : D) (b1 : D) (n2 : D) : evFun Try.prog md law04_RatioPowers_orc n 12 [] [a0, b1, n2] =
 .call 40 [] [a0] fun yy1 =>
 .br (!((yy1.getD 0 D.nil).toBool)) (.call 41 [] [] fun yy2 =>
 .ret [D.bool ((yy2.getD 0 D.nil).toBool)])
 (.call 40 [] [b1] fun yy3 =>
 .br (!((yy3.getD 0 D.nil).toBool)) (.call 41 [] [] fun yy4 =>
 .ret [D.bool ((yy4.getD 0 D.nil).toBool)])
 (.br (decide (3000 < n2.toInt)) (.call 41 [] [] fun yy5 =>
 .ret [D.bool ((yy5.getD 0 D.nil).toBool)])
 (.br (decide (n2.toInt < (-3000))) (.br (decide ((-9223372036854775807) ≤ n2.toInt)) (.call 41 [] [] fun yy6 =>
 .ret [D.bool ((yy6.getD 0 D.nil).toBool)])
 (.call 64 [] [a0, D.int n2.toInt] fun yy7 =>
 .call 65 [] [a0, D.int n2.toInt] fun yy8 =>
 .call 66 [] [a0, b1] fun yy9 =>
 .call 67 [] [a0, b1] fun yy10 =>
 .call 68 [] [a0, b1] fun yy11 =>
 .call 69 [] [a0, b1] fun yy12 =>
 .call 49 [] [yy7.getD 0 D.nil, D.int ((yy7.getD 1 D.nil).toInt), yy8.getD 0 D.nil, D.int ((yy8.getD 1 D.nil).toInt)] fun yy13 =>
 .br ((yy13.getD 0 D.nil).toBool) (.call 49 [] [yy9.getD 0 D.nil, D.int ((yy9.getD 1 D.nil).toInt), yy10.getD 0 D.nil, D.int ((yy10.getD 1 D.nil).toInt)] fun yy14 =>
 .br ((yy14.getD 0 D.nil).toBool) (.call 49 [] [yy11.getD 0 D.nil, D.int ((yy11.getD 1 D.nil).toInt), yy12.getD 0 D.nil, D.int ((yy12.getD 1 D.nil).toInt)] fun yy15 =>
 .br ((yy15.getD 0 D.nil).toBool) (.call 41 [] [] fun yy16 =>
 .ret [D.bool ((yy16.getD 0 D.nil).toBool)])
 (.ret [D.bool false]))
 (.ret [D.bool false]))
 (.ret [D.bool false])))
 (.call 64 [] [a0, D.int n2.toInt] fun yy17 =>
 .call 65 [] [a0, D.int n2.toInt] fun yy18 =>
 .call 66 [] [a0, b1] fun yy19 =>
 .call 67 [] [a0, b1] fun yy20 =>
 .call 68 [] [a0, b1] fun yy21 =>
 .call 69 [] [a0, b1] fun yy22 =>
 .call 49 [] [yy17.getD 0 D.nil, D.int ((yy17.getD 1 D.nil).toInt), yy18.getD 0 D.nil, D.int ((yy18.getD 1 D.nil).toInt)] fun yy23 =>
 .br ((yy23.getD 0 D.nil).toBool) (.call 49 [] [yy19.getD 0 D.nil, D.int ((yy19.getD 1 D.nil).toInt), yy20.getD 0 D.nil, D.int ((yy20.getD 1 D.nil).toInt)] fun yy24 =>
 .br ((yy24.getD 0 D.nil).toBool) (.call 49 [] [yy21.getD 0 D.nil, D.int ((yy21.getD 1 D.nil).toInt), yy22.getD 0 D.nil, D.int ((yy22.getD 1 D.nil).toInt)] fun yy25 =>
 .br ((yy25.getD 0 D.nil).toBool) (.call 41 [] [] fun yy26 =>
 .ret [D.bool ((yy26.getD 0 D.nil).toBool)])
 (.ret [D.bool false]))
 (.ret [D.bool false]))
 (.ret [D.bool false]))))) := by kernel_rfl

/-! scrim/scrimlaw04.awake -/
def law04_awake_orc : List (Nat × Orc) := []
theorem law04_awake_tree (n : Nat)  : evFun Try.prog md law04_awake_orc n 41 [] [] =
 .call 87 [] [D.int 2] fun yy1 =>
 .call 87 [] [D.int 3] fun yy2 =>
 .call 42 [] [yy1.getD 0 D.nil, yy2.getD 0 D.nil] fun yy3 =>
 .call 88 [] [D.int 3] fun yy4 =>
 .call 88 [] [D.int (-7)] fun yy5 =>
 .call 47 [] [yy4.getD 0 D.nil, yy5.getD 0 D.nil] fun yy6 =>
 .br (((yy3.getD 1 D.nil).toInt) == 0) (.call 44 [] [yy3.getD 0 D.nil, D.agg [D.bool false, D.sl [D.int 5], D.sl [D.int 6]]] fun yy7 =>
 .br ((yy7.getD 0 D.nil).toBool) (.br (((yy6.getD 1 D.nil).toInt) == 0) (.call 63 [] [D.int 2] fun yy8 =>
 .call 44 [] [yy6.getD 0 D.nil, yy8.getD 0 D.nil] fun yy9 =>
 .ret [D.bool ((yy9.getD 0 D.nil).toBool)])
 (.ret [D.bool false]))
 (.ret [D.bool false]))
 (.ret [D.bool false]) := by kernel_rfl

/-! scrim/scrimlaw04.alike -/
def law04_alike_orc : List (Nat × Orc) := []
theorem law04_alike_tree (n : Nat) (a0 : D) (e1 : D) (b2 : D) (f3 : D) : evFun Try.prog md law04_alike_orc n 49 [] [a0, e1, b2, f3] =
 .br (e1.toInt == f3.toInt) (.call 44 [] [a0, b2] fun yy1 =>
 .ret [D.bool ((yy1.getD 0 D.nil).toBool)])
 (.ret [D.bool false]) := by kernel_rfl

/-! scrim/scrimlaw04.part -/
def law04_part_orc : List (Nat × Orc) := []
theorem law04_part_tree (n : Nat) (n0 : D) : evFun Try.prog md law04_part_orc n 87 [] [n0] =
 .ret [D.agg [D.bool false, D.sl [D.int 1], D.sl [D.int n0.toInt]]] := by kernel_rfl

end Go.Proofs.Ytmjdldbbhfbdkaa
set_option maxRecDepth 100000
namespace Go.Proofs.Ytmjdldbbhfbdkaa
open Go.ChangeShapes Go.WideShapes Go.ChangeAt Go.RowKit

theorem nlen3 {α : Type} {l : List α} (h : l.length = 3) : ∃ a b c, l = [a, b, c] := by
  match l, h with
  | [a, b, c], _ => exact ⟨a, b, c, rfl⟩
theorem nfields_Num : (fieldsOf Try.prog 57).map (fun fs => fs.map (·.type)) = some [4, 22, 22] := by kernel_rfl
def numTs : List Nat := [4, 3, 79, 22, 57]
theorem numTs_plain : plainTs Try.prog numTs = true := by kernel_rfl
theorem nrd_num {w : World} {M : Nat → Prop} {y : D} {c : Nat → Option Value} (h : RdC Try.prog md w M (.ty 57) y c) : ∃ n : Num, y = dN n ∧ n.top.length ≤ maxLen ∧ n.bot.length ≤ maxLen := by
  obtain ⟨fs, hf, ht⟩ := Option.map_eq_some_iff.1 nfields_Num
  obtain ⟨ds, rfl, hl, hh⟩ := rd_struct h hf
  have : fs.length = 3 := by rw [← List.length_map (f := (·.type)), ht]; rfl
  obtain ⟨a, b, c, rfl⟩ := nlen3 (by rw [hl, this])
  obtain ⟨f0, hf0, e0⟩ := wtypes_at ht (i := 0) rfl
  obtain ⟨f1, hf1, e1⟩ := wtypes_at ht (i := 1) rfl
  obtain ⟨f2, hf2, e2⟩ := wtypes_at ht (i := 2) rfl
  obtain ⟨_, h0⟩ := hh 0 f0 a hf0 rfl
  obtain ⟨_, h1⟩ := hh 1 f1 b hf1 rfl
  obtain ⟨_, h2⟩ := hh 2 f2 c hf2 rfl
  rw [e0] at h0; rw [e1] at h1; rw [e2] at h2
  obtain ⟨n, rfl⟩ := rd_bool h0 (by kernel_rfl)
  obtain ⟨t, rfl, l1⟩ := rd_limbs h1 (e := 79) (by kernel_rfl) (by kernel_rfl)
  obtain ⟨t', rfl, l2⟩ := rd_limbs h2 (e := 79) (by kernel_rfl) (by kernel_rfl)
  exact ⟨⟨n, t, t'⟩, rfl, l1, l2⟩
section
variable {H : Type} {enc : TypeId × Value → H} {W : World} {sp : Nat → Bool} {held : Bool} {r : Reach} {b0 : Nat} {v : Value} {d : DataW H} {ps : List MemPlace}
theorem arg_num (hval : Value.okWide Try.prog W r b0 57 v) (h : DataW.Trod enc Try.prog W 0 sp held 57 v d ps) : ∃ n : Num, (n.top.length ≤ maxLen ∧ n.bot.length ≤ maxLen) ∧ Rd Try.prog md W (fun _ => False) (.ty 57) (dN n) v := by
  obtain ⟨y, hy, _⟩ := arg_rd (md := md) wfP numTs_plain (by decide) hval h
  obtain ⟨n, rfl, h1, h2⟩ := nrd_num hy.rd
  exact ⟨n, ⟨h1, h2⟩, hy⟩
end
end Go.Proofs.Ytmjdldbbhfbdkaa
set_option maxRecDepth 100000
namespace Go.Proofs.Ytmjdldbbhfbdkaa

theorem nz {n : Nat} (h : n ≠ 0) : (n : Int) ≠ 0 := by omega
theorem rn_ofZ {z : Int} (h : lenZ z ≤ 32) : RN (ofZ z) z 1 := ⟨(frac_one z).symm, by decide, Nat.coprime_one_right _, h, by rw [lb_one]; decide⟩
theorem lenZ_small {z : Int} (h1 : -100000 ≤ z := by decide) (h2 : z ≤ 100000 := by decide) : lenZ z ≤ 32 := lenZ_le (by
  have : 100000 < B ^ 32 := by decide
  omega)
theorem lb_small {n : Nat} (h0 : n ≠ 0) (h : n < B) : lb n = [BitVec.ofNat 32 n] := by rw [lb_pos h0, Nat.div_eq_of_lt h, lb_zero]
def partN (n : Nat) : Num := ⟨false, [1], [BitVec.ofNat 32 n]⟩
theorem law04_part_sp (n : Nat) (h : n < B) : Sp 87 [.int (n : Int)] [dN (partN n)] := by
  refine sound_ 0 (law04_part_tree _ _) (wp_ret ?_)
  rw [toInt_int, dB_ofNat h]; rfl
theorem part_rn {n : Nat} (h0 : n ≠ 0) (h : n < B) : RN (partN n) 1 n := by
  refine ⟨?_, h0, by simp [Nat.Coprime], lenZ_small, by rw [lb_small h0 h]; simp⟩
  unfold partN frac
  rw [lb_small h0 h]
  rw [show Int.natAbs 1 = 1 from rfl, lb_one]; rfl
theorem mkR_val {p q z : Int} {d : Nat} (hq : q ≠ 0) (h0 : d ≠ 0) (hc : Nat.Coprime z.natAbs d) (h1 : lenZ z ≤ 32) (h2 : (lb d).length ≤ 32) (e : p * (d : Int) = z * q) : mkR p q = (frac z d, 0) := by
  rw [mkR_unique (p' := z) (q' := (d : Int)) hq (by omega) e, mkR_self h0 hc h1 h2]
theorem law04_awake_sp : Sp 41 [] [.bool true] := by
  have p2 := part_rn (n := 2) (by decide) (by decide)
  have p3 := part_rn (n := 3) (by decide) (by decide)
  have e1 : addR (partN 2) (partN 3) = (frac 5 6, 0) := by
    unfold addR
    rw [p2.top, p2.bot, p3.top, p3.bot]
    exact mkR_val (by decide) (by decide) (by decide) lenZ_small (by rw [lb_small (by decide) (by decide)]; simp) (by decide)
  have o3 := rn_ofZ (z := 3) lenZ_small
  have o7 := rn_ofZ (z := -7) lenZ_small
  have e2 : modR (ofZ 3) (ofZ (-7)) = (ofZ 2, 0) := by
    have d1 : divR (ofZ (-7)) (ofZ 3) = (frac (-7) 3, 0) := by
      unfold divR
      rw [o3.top, o3.bot, o7.top, o7.bot]
      exact mkR_val (by decide) (by decide) (by decide) lenZ_small (by rw [lb_small (by decide) (by decide)]; simp) (by decide)
    have f1 : flrN (frac (-7) 3) = ofZ (-3) := by
      unfold flrN
      rw [numT_frac, numB_frac]; rfl
    have r3 := rn_ofZ (z := -3) lenZ_small
    have m1 : mulR (ofZ 3) (ofZ (-3)) = (ofZ (-9), 0) := by
      unfold mulR
      rw [o3.top, o3.bot, r3.top, r3.bot, ← frac_one (-9)]
      exact mkR_val (by decide) (by decide) (by decide) lenZ_small (by rw [lb_small (by decide) (by decide)]; simp) (by decide)
    have r9 := negN_rn (rn_ofZ (z := -9) lenZ_small)
    have s1 : subR (ofZ (-7)) (ofZ (-9)) = (ofZ 2, 0) := by
      unfold subR addR
      rw [o7.top, o7.bot, r9.top, r9.bot, ← frac_one 2]
      exact mkR_val (by decide) (by decide) (by decide) lenZ_small (by rw [lb_small (by decide) (by decide)]; simp) (by decide)
    unfold modR
    rw [if_neg (fun hh => absurd (o3.top0.1 hh) (by decide)), d1]
    unfold bindR
    simp only [if_true, f1, m1, s1]
  have a1 := ratio_Add_sp p2.sm p3.sm
  have a2 := ratio_Mod_sp o3 o7
  rw [e1] at a1
  rw [e2] at a2
  refine sound_ 0 (law04_awake_tree _) (wp_call (law04_part_sp 2 (by decide)) (wp_call (law04_part_sp 3 (by decide)) (wp_call a1 (wp_call (ratio_Of_sp 3 (by unfold inR; omega)) (wp_call (ratio_Of_sp (-7) (by unfold inR; omega)) (wp_call a2 ?_))))))
  have e3 : D.agg [D.bool false, D.sl [D.int 5], D.sl [D.int 6]] = dN (frac 5 6) := by
    unfold frac dN
    rw [show Int.natAbs 5 = 5 from rfl, lb_small (n := 5) (by decide) (by decide), lb_small (n := 6) (by decide) (by decide)]; rfl
  rw [e3]
  have s1 := ref04_Same_sp (frac 5 6) (frac 5 6) (by show (lb _).length ≤ _; rw [show Int.natAbs 5 = 5 from rfl, lb_small (n := 5) (by decide) (by decide)]; simp) (by show (lb _).length ≤ _; rw [lb_small (n := 6) (by decide) (by decide)]; simp)
  have o2 := rn_ofZ (z := 2) lenZ_small
  have s2 := ref04_Same_sp (ofZ 2) (ofZ 2) (by have := o2.len; omega) (by have := o2.len; omega)
  rw [decide_eq_true rfl] at s1 s2
  exact wp_tt rfl (wp_call s1 (wp_tt rfl (wp_tt rfl (wp_call (ref04_Of_sp 2 (by unfold inR; omega)) (wp_call s2 (wp_ret rfl))))))
theorem awake04 : Tw (.call 41 [] [] fun y => .ret [D.bool ((y.getD 0 D.nil).toBool)]) [.bool true] := wp_call law04_awake_sp (wp_ret rfl)
theorem same_self {n : Num} (h : SmN n) : Sp 44 [dN n, dN n] [.bool true] := by
  have := ref04_Same_sp n n (by have := h.1; omega) (by have := h.2; omega)
  rwa [decide_eq_true rfl] at this
theorem law04_alike_sp (r : Num × Int) (h : SmN r.1) : Sp 49 [dN r.1, .int r.2, dN r.1, .int r.2] [.bool true] := by
  refine sound_ 0 (law04_alike_tree _ _ _ _ _) (wp_tt (by simp) (wp_call (same_self h) (wp_ret rfl)))
theorem ratioSums_sp (a b : Num) (_ : a.top.length ≤ maxLen ∧ a.bot.length ≤ maxLen) (_ : b.top.length ≤ maxLen ∧ b.bot.length ≤ maxLen) : Sp 11 [dN a, dN b] [.bool true] := by
  refine sound_ 0 (law04_RatioSums_tree _ _ _) (wp_call (ref04_Right_sp a) (wp_br (fun _ => awake04) (fun e1 => wp_call (ref04_Right_sp b) (wp_br (fun _ => awake04) (fun e2 => ?_)))))
  obtain ⟨z, d, ra⟩ := rn_of (n := a) (by simpa using e1)
  obtain ⟨y, e, rb⟩ := rn_of (n := b) (by simpa using e2)
  refine wp_call (ratio_Add_sp ra.sm rb.sm) (wp_call (ratio_Sub_sp ra.sm rb) (wp_call (ratio_Mul_sp ra.sm rb.sm) (wp_call (ratio_Div_sp ra.sm rb.sm) ?_)))
  refine wp_call (ref04_Add_sp ra.sm rb.sm) (wp_call (ref04_Sub_sp ra.sm rb) (wp_call (ref04_Mul_sp ra.sm rb.sm) (wp_call (ref04_Div_sp ra.sm rb.sm) ?_)))
  refine wp_call (law04_alike_sp (addR a b) (mkR_sm _ _)) (wp_tt rfl (wp_call (law04_alike_sp (subR a b) (mkR_sm _ _)) (wp_tt rfl (wp_call (law04_alike_sp (mulR a b) (mkR_sm _ _)) (wp_tt rfl (wp_call (law04_alike_sp (divR a b) (mkR_sm _ _)) (wp_tt rfl ?_)))))))
  have o0 := rn_ofZ (z := 0) lenZ_small
  have c0 : cmpR a (ofZ 0) = sgnZ (numT a) := by
    unfold cmpR
    rw [o0.top, o0.bot, ← sgnZ_sub]; simp
  have cc := ref04_Cmp_sp ra.sm o0.sm
  rw [c0] at cc
  exact wp_call (ratio_Cmp_sp ra.sm rb.sm) (wp_call (ref04_Cmp_sp ra.sm rb.sm) (wp_tt (by simp) (wp_call (ratio_Sign_sp ra.sm) (wp_call (ref04_Of_sp 0 (by unfold inR; omega)) (wp_call cc (wp_tt (by simp) awake04))))))
theorem modR_sm {a b : Num} {z y : Int} {d e : Nat} (_ : RN a z d) (hb : RN b y e) : SmN (modR a b).1 := by
  have z0 : SmN Num.zero := ⟨by simp [Num.zero], by simp [Num.zero]⟩
  unfold modR bindR
  split
  · exact hb.sm
  · split
    · dsimp only
      split
      · exact mkR_sm _ _
      · exact z0
    · exact z0
theorem ratioRounds_sp (a b : Num) (_ : a.top.length ≤ maxLen ∧ a.bot.length ≤ maxLen) (_ : b.top.length ≤ maxLen ∧ b.bot.length ≤ maxLen) : Sp 10 [dN a, dN b] [.bool true] := by
  refine sound_ 0 (law04_RatioRounds_tree _ _ _) (wp_call (ref04_Right_sp a) (wp_br (fun _ => awake04) (fun e1 => wp_call (ref04_Right_sp b) (wp_br (fun _ => awake04) (fun e2 => ?_)))))
  obtain ⟨z, d, ra⟩ := rn_of (n := a) (by simpa using e1)
  obtain ⟨y, e, rb⟩ := rn_of (n := b) (by simpa using e2)
  have rn := negN_rn ra
  have rf := flr_rn ra
  have rg := flr_rn rn
  have rh := negN_rn rg
  refine wp_call (ratio_Mod_sp ra rb) (wp_call (ref04_Mod_sp ra rb) (wp_call (law04_alike_sp (modR a b) (modR_sm ra rb)) (wp_tt rfl ?_)))
  refine wp_call (ratio_Floor_sp ra) (wp_call (ref04_Floor_sp ra) (wp_call (same_self rf.sm) (wp_tt rfl ?_)))
  refine wp_call (ratio_Ceil_sp ra) (wp_call (ref04_Neg_sp a) (wp_call (ref04_Floor_sp rn) (wp_call (ref04_Neg_sp _) (wp_call (same_self rh.sm) (wp_tt rfl ?_)))))
  refine wp_call (ratio_Neg_sp ra) (wp_call (ref04_Neg_sp a) (wp_call (same_self rn.sm) (wp_tt rfl (wp_call (ratio_Abs_sp ra) ?_))))
  have sm : SmN ⟨false, a.top, a.bot⟩ := ra.sm
  simp only [dN_1, dN_2]
  exact wp_call (same_self sm) (wp_tt rfl awake04)
theorem powRt_sm (a : Num) (n : Int) : SmN (powRt a n).1 := by
  have z0 : SmN Num.zero := ⟨by simp [Num.zero], by simp [Num.zero]⟩
  have pd : ∀ p q, SmN (powD2 p q).1 := fun p q => by
    unfold powD2
    split
    · split
      · exact mkR_sm _ _
      · exact z0
    · exact z0
  unfold powRt
  split
  · split
    · exact z0
    · exact pd _ _
  · exact pd _ _
theorem gcdR_sm {a b : Num} {z y : Int} {d e : Nat} (ra : RN a z d) (rb : RN b y e) : SmN (gcdR a b).1 := by
  unfold gcdR
  split
  · exact (gcd_rn ra rb).sm
  · exact ⟨by simp [Num.zero], by simp [Num.zero]⟩
theorem lcmR_sm {a b : Num} {z y : Int} {d e : Nat} (ra : RN a z d) (rb : RN b y e) : SmN (lcmR a b).1 := by
  have z0 : SmN Num.zero := ⟨by simp [Num.zero], by simp [Num.zero]⟩
  unfold lcmR bindR
  split
  · dsimp only
    split
    · exact gcdR_sm ra rb
    · split
      · exact mkR_sm _ _
      · exact z0
  · exact z0
theorem ratioPowers_sp (a b : Num) (n : Int) (_ : a.top.length ≤ maxLen ∧ a.bot.length ≤ maxLen) (_ : b.top.length ≤ maxLen ∧ b.bot.length ≤ maxLen) (hn : inR n) : Sp 12 [dN a, dN b, .int n] [.bool true] := by
  refine sound_ 0 (law04_RatioPowers_tree _ _ _ _) (wp_call (ref04_Right_sp a) (wp_br (fun _ => awake04) (fun e1 => wp_call (ref04_Right_sp b) (wp_br (fun _ => awake04) (fun e2 => ?_)))))
  obtain ⟨z, d, ra⟩ := rn_of (n := a) (by simpa using e1)
  obtain ⟨y, e, rb⟩ := rn_of (n := b) (by simpa using e2)
  simp only [toInt_int]
  have fin : n ≤ 3000 ∧ (-3000 ≤ n ∨ n = -9223372036854775808) → Tw (.call 64 [] [dN a, D.int n] fun yy7 => .call 65 [] [dN a, D.int n] fun yy8 => .call 66 [] [dN a, dN b] fun yy9 => .call 67 [] [dN a, dN b] fun yy10 => .call 68 [] [dN a, dN b] fun yy11 => .call 69 [] [dN a, dN b] fun yy12 => .call 49 [] [yy7.getD 0 D.nil, D.int ((yy7.getD 1 D.nil).toInt), yy8.getD 0 D.nil, D.int ((yy8.getD 1 D.nil).toInt)] fun yy13 => .br ((yy13.getD 0 D.nil).toBool) (.call 49 [] [yy9.getD 0 D.nil, D.int ((yy9.getD 1 D.nil).toInt), yy10.getD 0 D.nil, D.int ((yy10.getD 1 D.nil).toInt)] fun yy14 => .br ((yy14.getD 0 D.nil).toBool) (.call 49 [] [yy11.getD 0 D.nil, D.int ((yy11.getD 1 D.nil).toInt), yy12.getD 0 D.nil, D.int ((yy12.getD 1 D.nil).toInt)] fun yy15 => .br ((yy15.getD 0 D.nil).toBool) (.call 41 [] [] fun yy16 => .ret [D.bool ((yy16.getD 0 D.nil).toBool)]) (.ret [D.bool false])) (.ret [D.bool false])) (.ret [D.bool false])) [.bool true] := fun h => by
    refine wp_call (ratio_Pow_sp ra n h) (wp_call (ref04_Pow_sp ra n h) (wp_call (ratio_Gcd_sp ra rb) (wp_call (ref04_Gcd_sp ra rb) (wp_call (ratio_Lcm_sp ra rb) (wp_call (ref04_Lcm_sp ra rb) ?_)))))
    exact wp_call (law04_alike_sp (powRt a n) (powRt_sm _ _)) (wp_tt rfl (wp_call (law04_alike_sp (gcdR a b) (gcdR_sm ra rb)) (wp_tt rfl (wp_call (law04_alike_sp (lcmR a b) (lcmR_sm ra rb)) (wp_tt rfl awake04)))))
  unfold inR at hn
  refine wp_decs (fun _ => awake04) (fun h1 => wp_decs (fun h2 => wp_decs (fun _ => awake04) (fun h3 => fin (by omega))) (fun h2 => fin (by omega)))
theorem ratioBack_sp (a b : Num) (_ : a.top.length ≤ maxLen ∧ a.bot.length ≤ maxLen) (_ : b.top.length ≤ maxLen ∧ b.bot.length ≤ maxLen) : Sp 8 [dN a, dN b] [.bool true] := by
  refine sound_ 0 (law04_RatioBack_tree _ _ _) (wp_call (ref04_Right_sp a) (wp_br (fun _ => awake04) (fun e1 => wp_call (ref04_Right_sp b) (wp_br (fun _ => awake04) (fun e2 => ?_)))))
  obtain ⟨z, d, ra⟩ := rn_of (n := a) (by simpa using e1)
  obtain ⟨y, e, rb⟩ := rn_of (n := b) (by simpa using e2)
  have ad0 := ra.d0
  have bd0 := rb.d0
  -- division
  have dv : Tw (.call 45 [] [dN a, dN b] fun yy9 => .br (((yy9.getD 1 D.nil).toInt) != 0) (.br (((yy9.getD 1 D.nil).toInt) == 7) (.call 41 [] [] fun yy10 => .ret [D.bool ((yy10.getD 0 D.nil).toBool)]) (.br (((((dN b).fld 1).els).length : Int) == 0) (.br (((yy9.getD 1 D.nil).toInt) == 3) (.call 41 [] [] fun yy11 => .ret [D.bool ((yy11.getD 0 D.nil).toBool)]) (.ret [D.bool false])) (.ret [D.bool false]))) (.call 46 [] [yy9.getD 0 D.nil, dN b] fun yy12 => .call 40 [] [yy9.getD 0 D.nil] fun yy13 => .br ((yy13.getD 0 D.nil).toBool) (.br (((yy12.getD 1 D.nil).toInt) == 0) (.call 44 [] [yy12.getD 0 D.nil, dN a] fun yy14 => .br ((yy14.getD 0 D.nil).toBool) (.call 41 [] [] fun yy15 => .ret [D.bool ((yy15.getD 0 D.nil).toBool)]) (.ret [D.bool false])) (.ret [D.bool false])) (.ret [D.bool false]))) [.bool true] := by
    refine wp_call (ratio_Div_sp ra.sm rb.sm) ?_
    simp only [retR, getD_c0, getD_c1, toInt_int, int_bne, int_beq, dN_1, els_dL, List.length_map]
    by_cases hy : y = 0
    · have e0 : divR a b = (.zero, 3) := by unfold divR mkR; rw [rb.top, hy, Int.mul_zero, if_pos rfl]
      rw [e0]
      exact wp_dec (by decide) (wp_ndec (by decide) (wp_dec (by rw [rb.top0.2 hy]; rfl) (wp_dec rfl awake04)))
    · have hq : numB a * numT b ≠ 0 := Int.mul_ne_zero ra.botnz (by rw [rb.top]; exact hy)
      have ok : ((divR a b).2 = 0 → ∃ x c, RN (divR a b).1 x c ∧ x * (numB a * numT b) = numT a * numB b * (c : Int) ∧ x.natAbs ≤ (numT a * numB b).natAbs ∧ c ≤ (numB a * numT b).natAbs) ∧ ((divR a b).2 = 0 ∨ divR a b = (.zero, 7)) := ⟨(mkR_ok hq).1, (mkR_ok hq).2.1⟩
      rcases ok.2 with h0 | h0
      · obtain ⟨x, c, rq, hx, _⟩ := ok.1 h0
        have c0 := rq.d0
        have em : mulR (divR a b).1 b = (a, 0) := by
          unfold mulR
          rw [rq.top, rq.bot, ← ra.self]
          refine mkR_unique (Int.mul_ne_zero (nz c0) rb.botnz) (nz ad0) ?_
          rw [ra.top, ra.bot, rb.top, rb.bot] at hx
          rw [rb.top, rb.bot]
          grind
        have ml := ratio_Mul_sp rq.sm rb.sm
        rw [em] at ml
        exact wp_ndec (by omega) (wp_call ml (wp_call (ref04_Right_sp _) (wp_tt rq.right (wp_dec rfl (wp_call (same_self ra.sm) (wp_tt rfl awake04))))))
      · rw [h0]
        exact wp_dec (by decide) (wp_dec rfl awake04)
  refine wp_call (ratio_Add_sp ra.sm rb.sm) ?_
  have hq : numB a * numB b ≠ 0 := Int.mul_ne_zero ra.botnz rb.botnz
  have ok : (addR a b).2 = 0 → ∃ x c, RN (addR a b).1 x c ∧ x * (numB a * numB b) = (numT a * numB b + numT b * numB a) * (c : Int) ∧ x.natAbs ≤ (numT a * numB b + numT b * numB a).natAbs ∧ c ≤ (numB a * numB b).natAbs := (mkR_ok hq).1
  refine wp_br (fun h0 => ?_) (fun _ => dv)
  have h0' : (addR a b).2 = 0 := by simpa [retR] using h0
  obtain ⟨x, c, rs, hx, _⟩ := ok h0'
  have c0 := rs.d0
  have es : subR (addR a b).1 b = (a, 0) := by
    have rn := negN_rn rb
    unfold subR addR
    rw [rn.top, rn.bot]
    show mkR (numT (addR a b).1 * (e : Int) + -y * numB (addR a b).1) (numB (addR a b).1 * (e : Int)) = (a, 0)
    rw [rs.top, rs.bot, ← ra.self]
    refine mkR_unique (Int.mul_ne_zero (nz c0) (nz bd0)) (nz ad0) ?_
    rw [ra.top, ra.bot, rb.top, rb.bot] at hx
    grind
  have sb := ratio_Sub_sp rs.sm rb
  rw [es] at sb
  exact wp_call sb (wp_call (ref04_Right_sp _) (wp_ff (by rw [getD_c0, rs.right]; rfl) (wp_ff rfl (wp_call (same_self ra.sm) (wp_ff rfl dv)))))
theorem rn_add {a b : Num} {z y : Int} {d e : Nat} {k l : Nat} (ha : RN a z d) (hb : RN b y e) (az : lenZ z ≤ k) (ad : (lb d).length ≤ k) (bz : lenZ y ≤ l) (bd : (lb e).length ≤ l) (hk : k + l + 1 ≤ 32) :
    (addR a b).2 = 0 ∧ ∃ x c, RN (addR a b).1 x c ∧ lenZ x ≤ k + l + 1 ∧ (lb c).length ≤ k + l ∧ x * ((d : Int) * (e : Int)) = (z * (e : Int) + y * (d : Int)) * (c : Int) := by
  have hq : numB a * numB b ≠ 0 := Int.mul_ne_zero ha.botnz hb.botnz
  have ld : lenZ (d : Int) ≤ k := by unfold lenZ; rw [Int.natAbs_natCast]; exact ad
  have le : lenZ (e : Int) ≤ l := by unfold lenZ; rw [Int.natAbs_natCast]; exact bd
  have m1 := lenZ_mul z (e : Int)
  have m2 := lenZ_mul y (d : Int)
  have m3 := lenZ_mul (d : Int) (e : Int)
  have s1 := lenZ_add (z * (e : Int)) (y * (d : Int))
  have hT : numT a * numB b + numT b * numB a = z * (e : Int) + y * (d : Int) := by rw [ha.top, ha.bot, hb.top, hb.bot]
  have hB : numB a * numB b = (d : Int) * (e : Int) := by rw [ha.bot, hb.bot]
  have b1 : lenZ (z * (e : Int) + y * (d : Int)) ≤ k + l + 1 := by omega
  have b2 : lenZ ((d : Int) * (e : Int)) ≤ k + l := by omega
  have h32 : k + l ≤ 32 := by omega
  obtain ⟨h1, _, h3⟩ := mkR_ok (p := numT a * numB b + numT b * numB a) hq
  have h0 := h3 (by rw [hT]; exact Nat.le_trans b1 hk) (by rw [hB]; exact Nat.le_trans b2 h32)
  obtain ⟨x, c, r1, r2, r3, r4⟩ := h1 h0
  refine ⟨h0, x, c, r1, ?_, ?_, by rw [← hT, ← hB]; exact r2⟩
  · rw [hT] at r3
    exact Nat.le_trans (lb_len.2 (Nat.lt_of_le_of_lt r3 (lb_len.1 (Nat.le_refl _)))) b1
  · rw [hB] at r4
    exact Nat.le_trans (lb_len.2 (Nat.lt_of_le_of_lt r4 (lb_len.1 (Nat.le_refl _)))) b2
theorem rn_mul {a b : Num} {z y : Int} {d e : Nat} {k l : Nat} (ha : RN a z d) (hb : RN b y e) (az : lenZ z ≤ k) (ad : (lb d).length ≤ k) (bz : lenZ y ≤ l) (bd : (lb e).length ≤ l) (hk : k + l ≤ 32) :
    (mulR a b).2 = 0 ∧ ∃ x c, RN (mulR a b).1 x c ∧ lenZ x ≤ k + l ∧ (lb c).length ≤ k + l ∧ x * ((d : Int) * (e : Int)) = z * y * (c : Int) := by
  have hq : numB a * numB b ≠ 0 := Int.mul_ne_zero ha.botnz hb.botnz
  have ld : lenZ (d : Int) ≤ k := by unfold lenZ; rw [Int.natAbs_natCast]; exact ad
  have le : lenZ (e : Int) ≤ l := by unfold lenZ; rw [Int.natAbs_natCast]; exact bd
  have m1 := lenZ_mul z y
  have m3 := lenZ_mul (d : Int) (e : Int)
  have hT : numT a * numT b = z * y := by rw [ha.top, hb.top]
  have hB : numB a * numB b = (d : Int) * (e : Int) := by rw [ha.bot, hb.bot]
  have b1 : lenZ (z * y) ≤ k + l := by omega
  have b2 : lenZ ((d : Int) * (e : Int)) ≤ k + l := by omega
  obtain ⟨h1, _, h3⟩ := mkR_ok (p := numT a * numT b) hq
  have h0 := h3 (by rw [hT]; exact Nat.le_trans b1 hk) (by rw [hB]; exact Nat.le_trans b2 hk)
  obtain ⟨x, c, r1, r2, r3, r4⟩ := h1 h0
  refine ⟨h0, x, c, r1, ?_, ?_, by rw [← hT, ← hB]; exact r2⟩
  · rw [hT] at r3
    exact Nat.le_trans (lb_len.2 (Nat.lt_of_le_of_lt r3 (lb_len.1 (Nat.le_refl _)))) b1
  · rw [hB] at r4
    exact Nat.le_trans (lb_len.2 (Nat.lt_of_le_of_lt r4 (lb_len.1 (Nat.le_refl _)))) b2
theorem rn_same {n m : Num} {z y : Int} {d e : Nat} (h : RN n z d) (h' : RN m y e) (he : z * (e : Int) = y * (d : Int)) : n = m := by
  obtain ⟨rfl, rfl⟩ := cop_unique h.d0 h'.d0 h.cop h'.cop he
  rw [h.eq, h'.eq]
theorem cancel {x y k : Int} (hk : k ≠ 0) (h : x * k = y * k) : x = y := Int.eq_of_mul_eq_mul_right hk h
theorem ratioField_sp (a b c : Num) (_ : a.top.length ≤ maxLen ∧ a.bot.length ≤ maxLen) (_ : b.top.length ≤ maxLen ∧ b.bot.length ≤ maxLen) (_ : c.top.length ≤ maxLen ∧ c.bot.length ≤ maxLen) : Sp 9 [dN a, dN b, dN c] [.bool true] := by
  refine sound_ 0 (law04_RatioField_tree _ _ _ _) (wp_call (ref04_Right_sp a) (wp_br (fun _ => awake04) (fun e1 => wp_call (ref04_Right_sp b) (wp_br (fun _ => awake04) (fun e2 => wp_call (ref04_Right_sp c) (wp_br (fun _ => awake04) (fun e3 => ?_)))))))
  simp only [dN_1, dN_2, els_dL, List.length_map]
  refine wp_decs (fun _ => awake04) (fun l1 => wp_decs (fun _ => awake04) (fun l2 => wp_decs (fun _ => awake04) (fun l3 => wp_decs (fun _ => awake04) (fun l4 => wp_decs (fun _ => awake04) (fun l5 => wp_decs (fun _ => awake04) (fun l6 => ?_))))))
  obtain ⟨z, d, ra⟩ := rn_of (n := a) (by simpa using e1)
  obtain ⟨y, e, rb⟩ := rn_of (n := b) (by simpa using e2)
  obtain ⟨x, f, rc⟩ := rn_of (n := c) (by simpa using e3)
  have az : lenZ z ≤ 4 := by have : a.top.length = lenZ z := by rw [ra.eq]; rfl
                             omega
  have ad : (lb d).length ≤ 4 := by have : a.bot.length = (lb d).length := by rw [ra.eq]; rfl
                                    omega
  have bz : lenZ y ≤ 4 := by have : b.top.length = lenZ y := by rw [rb.eq]; rfl
                             omega
  have bd : (lb e).length ≤ 4 := by have : b.bot.length = (lb e).length := by rw [rb.eq]; rfl
                                    omega
  have cz : lenZ x ≤ 4 := by have : c.top.length = lenZ x := by rw [rc.eq]; rfl
                             omega
  have cd : (lb f).length ≤ 4 := by have : c.bot.length = (lb f).length := by rw [rc.eq]; rfl
                                    omega
  obtain ⟨ok1, p1, q1, r1, u1, v1, w1⟩ := rn_add ra rb az ad bz bd (by omega)
  obtain ⟨ok2, p2, q2, r2, u2, v2, w2⟩ := rn_add rb rc bz bd cz cd (by omega)
  obtain ⟨ok3, p3, q3, r3, u3, v3, w3⟩ := rn_add r1 rc u1 (by omega) cz cd (by omega)
  obtain ⟨ok4, p4, q4, r4, u4, v4, w4⟩ := rn_add ra r2 az ad u2 (by omega) (by omega)
  obtain ⟨ok5, p5, q5, r5, u5, v5, w5⟩ := rn_mul ra r2 az ad u2 (by omega) (by omega)
  obtain ⟨ok6, p6, q6, r6, u6, v6, w6⟩ := rn_mul ra rb az ad bz bd (by omega)
  obtain ⟨ok7, p7, q7, r7, u7, v7, w7⟩ := rn_mul ra rc az ad cz cd (by omega)
  obtain ⟨ok8, p8, q8, r8, u8, v8, w8⟩ := rn_add r6 r7 u6 v6 u7 v7 (by omega)
  have d0 := nz ra.d0
  have e0 := nz rb.d0
  have f0 := nz rc.d0
  have n1 := nz r1.d0
  have n2 := nz r2.d0
  have n6 := nz r6.d0
  have n7 := nz r7.d0
  have s1 : (addR (addR a b).1 c).1 = (addR a (addR b c).1).1 := by
    refine rn_same r3 r4 (cancel (k := (q1 : Int) * (q2 : Int) * ((d : Int) * (e : Int) * (f : Int))) (Int.mul_ne_zero (Int.mul_ne_zero n1 n2) (Int.mul_ne_zero (Int.mul_ne_zero d0 e0) f0)) ?_)
    clear ok1 ok2 ok3 ok4 ok5 ok6 ok7 ok8 r1 r2 r3 r4 r5 r6 r7 r8 w5 w6 w7 w8
    grind
  have s2 : (mulR a (addR b c).1).1 = (addR (mulR a b).1 (mulR a c).1).1 := by
    refine rn_same r5 r8 (cancel (k := (q2 : Int) * ((q6 : Int) * (q7 : Int)) * ((d : Int) * (d : Int) * (e : Int) * (f : Int))) (Int.mul_ne_zero (Int.mul_ne_zero n2 (Int.mul_ne_zero n6 n7)) (Int.mul_ne_zero (Int.mul_ne_zero (Int.mul_ne_zero d0 d0) e0) f0)) ?_)
    clear ok1 ok2 ok3 ok4 ok5 ok6 ok7 ok8 r1 r2 r3 r4 r5 r6 r7 r8 w1 w3 w4
    grind
  have t1 : Sp 44 [dN (addR (addR a b).1 c).1, dN (addR a (addR b c).1).1] [.bool true] := by rw [s1]; exact same_self r4.sm
  have t2 : Sp 44 [dN (mulR a (addR b c).1).1, dN (addR (mulR a b).1 (mulR a c).1).1] [.bool true] := by rw [s2]; exact same_self r8.sm
  refine wp_call (ratio_Add_sp ra.sm rb.sm) (wp_call (ratio_Add_sp rb.sm rc.sm) (wp_call (ratio_Add_sp r1.sm rc.sm) (wp_call (ratio_Add_sp ra.sm r2.sm) ?_)))
  refine wp_call (ratio_Mul_sp ra.sm r2.sm) (wp_call (ratio_Mul_sp ra.sm rb.sm) (wp_call (ratio_Mul_sp ra.sm rc.sm) (wp_call (ratio_Add_sp r6.sm r7.sm) ?_)))
  simp only [retR, getD_c0, getD_c1, toInt_int, ok1, ok2, ok3, ok4, ok5, ok6, ok7, ok8]
  exact wp_tt rfl (wp_tt rfl (wp_tt rfl (wp_tt rfl (wp_tt rfl (wp_tt rfl (wp_tt rfl (wp_tt rfl (wp_call t1 (wp_tt rfl (wp_call t2 (wp_tt rfl awake04)))))))))))
end Go.Proofs.Ytmjdldbbhfbdkaa
set_option maxRecDepth 100000
namespace Go.Proofs.Ytmjdldbbhfbdkaa
open Go.ChangeShapes Go.WideShapes Go.ChangeAt Go.RowKit

set_option maxRecDepth 100000 in
theorem ratioField_lifted (os : Os) (started : os.Started) (H : Type) (enc : TypeId × Value → H) :
    ReturnsInHanded {} Try.checked os 9 .any (Rows.ratioFieldSpec.pre6 enc Try.prog Try.f9 Rows.ratioFieldRow.domain false) (Rows.ratioFieldSpec.post enc Try.prog Try.f9 false true false false) := by
  refine returnsInHanded_of_change_sized (C := Try.checked) knob started (by kernel_rfl) Try.func9
    (ChangeSpec.witness6 (enc := enc) (C := Try.checked) false ⟨#[], #[.agg #[.bool false, .slice none 0 0, .slice none 0 0], .agg #[.bool false, .slice none 0 0, .slice none 0 0], .agg #[.bool false, .slice none 0 0, .slice none 0 0]], []⟩ 16 (by kernel_rfl) (by kernel_rfl) (by kernel_rfl) (by kernel_rfl)) ?_
  intro W base args ds gs before hval0 hW hcnd hwt0 _
  have hval : ∀ (j : Nat) t v, Try.f9.params[j]? = some t → args[j]? = some v → Value.okWide Try.prog W .any base t v := hval0
  have hW' := hW
  obtain ⟨p, q, hA0, hV, rfl, hfz, hnd⟩ := hW
  have hA : DataW.TrodAll enc Try.prog W 0 (fun _ => true) true Try.f9.params.toList args.toList ds p := hA0
  rw [Try.params9] at hA hval
  obtain ⟨v0, vs0, d0, ds0, p0, q0, hargs, rfl, rfl, h0, r0⟩ := trodAll_cons hA
  obtain ⟨v1, vs1, d1, ds1, p1, q1, rfl, rfl, rfl, h1, r1⟩ := trodAll_cons r0
  obtain ⟨v2, vs2, d2, ds2, p2, q2, rfl, rfl, rfl, h2, r2⟩ := trodAll_cons r1
  obtain ⟨rfl, rfl, rfl⟩ := trodAll_nil r2
  obtain rfl : args = #[v0, v1, v2] := by cases args; simp_all
  have hwt : ∀ (j t : Nat) d, (Try.f9.params.toList)[j]? = some t → ([d0, d1, d2])[j]? = some d → ∀ z ∈ DataW.weights Try.prog t d, z ≤ reachBytes := fun j t d ht hd z hz => by
    have hl := (List.getElem?_eq_some_iff.1 ht).1
    have hl2 := (List.getElem?_eq_some_iff.1 hd).1
    have := List.all_eq_true.1 hwt0 z (DataW.weights_mem_each (j := j) (t := t) (d := d) (by rw [List.getElem?_append_left hl]; exact ht) (by rw [List.getElem?_append_left hl2]; exact hd) z hz)
    simpa using this
  obtain ⟨x0, hx0, hr0⟩ := arg_num (hval 0 57 v0 rfl rfl) h0
  obtain ⟨x1, hx1, hr1⟩ := arg_num (hval 1 57 v1 rfl rfl) h1
  obtain ⟨x2, hx2, hr2⟩ := arg_num (hval 2 57 v2 rfl rfl) h2
  refine (law_calls (vs := [v0, v1, v2]) (ratioField_sp x0 x1 x2 hx0 hx1 hx2) Try.func9 (by kernel_rfl) (by kernel_rfl) Try.underlying4 rfl rfl ?_).mono fun e W' ⟨he, hx⟩ => ⟨_, he, law_post laidOut hW' rfl (by kernel_rfl) Try.underlying4 rfl (by kernel_rfl) hx⟩
  intro i t x v ht hx hv
  match i with
  | 0 => cases (show some 57 = some t from ht); cases hx; cases hv; exact hr0
  | 1 => cases (show some 57 = some t from ht); cases hx; cases hv; exact hr1
  | 2 => cases (show some 57 = some t from ht); cases hx; cases hv; exact hr2
  | i + 3 => cases hx

theorem ratioField_holds : Rows.RatioFieldSaid :=
  OpenClaim.holds_of_wide 9 Try.f9 rfl rfl rfl rfl rfl rfl rfl ⟨rfl, rfl, rfl, rfl, rfl⟩ rfl rfl rfl rfl rfl (by kernel_rfl) Try.func9 (by kernel_rfl)
    (of_decide_eq_true (by kernel_rfl)) (by unfold Func.isWrapper; first | (rw [if_pos (by decide +kernel)]; kernel_rfl) | (rw [if_neg (by decide +kernel)]; exact ⟨rfl, rfl⟩))
    (fun os started H enc _ => ratioField_lifted os started H enc)

end Go.Proofs.Ytmjdldbbhfbdkaa
