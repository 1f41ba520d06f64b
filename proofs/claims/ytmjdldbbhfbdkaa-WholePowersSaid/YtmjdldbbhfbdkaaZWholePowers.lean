/- Proved: for any whole number and any int, the law WholePowers returns true and changes nothing. No condition. -/
import Derived.Test.YtmjdldbbhfbdkaaRows
import Derived.WalkKit
import Derived.WalkSpells
import Derived.WalkLawsBesides
import Derived.Lib.Hide
import Derived.Laws.CopyOwn
import Derived.Deep.QuietTactic
import Derived.BigQuiet
import Derived.Orders
import Derived.Defers
import Derived.Recover
import Derived.Test.YtmjdldbbhfbdkaaProg
import Derived.KernelRfl
import Derived.ProofKit
import Derived.OpenShut
import Derived.Test.YtmjdldbbhfbdkaaZe9f9e578
set_option linter.unusedSimpArgs false
set_option linter.unusedVariables false
set_option maxRecDepth 100000
namespace Go.Proofs.Ytmjdldbbhfbdkaa

theorem inr (z : Int) (h1 : -100000 ≤ z := by decide) (h2 : z ≤ 100000 := by decide) : inR z := by unfold inR; omega
theorem law03_Mine_sp (a : Wh) : Sp 15 [dW a] [dW a] := sound_ 0 (law03_Mine_tree _ _) (wp_ret rfl)
theorem law03_Theirs_sp (a : Wh) : Sp 22 [dW a] [dW a] := sound_ 0 (law03_Theirs_tree _ _) (wp_ret rfl)
theorem law03_same_sp (a : Wh) (h : a.mag.length ≤ 9223372036854775807) : Sp 17 [dW a, dW a] [.bool true] := by
  have := ref03_Same_sp a a h
  rw [show decide (a.neg = a.neg ∧ a.mag = a.mag) = true by simp] at this
  exact sound_ 0 (law03_same_tree _ _ _) (wp_call (law03_Theirs_sp a) (wp_call this (wp_ret rfl)))
theorem same_wz (z : Int) (h : lenZ z ≤ 100000) : Sp 17 [dW (wz z), dW (wz z)] [.bool true] := law03_same_sp _ (by have : (wz z).mag.length = lenZ z := rfl; omega)
def fewW (w : Wh) : Wh := ⟨w.neg, w.mag.take 36⟩
theorem fewW_len (w : Wh) : (fewW w).mag.length ≤ 36 := by simp only [fewW, List.length_take]; omega
theorem law03_few_sp (w : Wh) : Sp 13 [dW w] [dW (fewW w)] := by
  refine sound_ 0 (law03_few_tree _ _) ?_
  simp only [dW_0, dW_1, toBool_bool, els_dL, List.length_map]
  refine wp_decs (fun h => wp_tt (by decide) (wp_dec (by omega) (wp_ret ?_))) (fun h => wp_ret ?_)
  · rw [show Int.toNat 36 = 36 from rfl, dL_take]; rfl
  · unfold fewW; rw [List.take_of_length_le (by omega)]
theorem lenZ_le {z : Int} {k : Nat} (h : z.natAbs < B ^ k) : lenZ z ≤ k := lb_len.2 h
theorem lenZ_lt (z : Int) : z.natAbs < B ^ lenZ z := lb_len.1 (Nat.le_refl _)
theorem lenZ_add (x y : Int) : lenZ (x + y) ≤ max (lenZ x) (lenZ y) + 1 := by
  refine lenZ_le ?_
  have h1 : x.natAbs < B ^ max (lenZ x) (lenZ y) := Nat.lt_of_lt_of_le (lenZ_lt x) (Nat.pow_le_pow_right B_pos (Nat.le_max_left _ _))
  have h2 : y.natAbs < B ^ max (lenZ x) (lenZ y) := Nat.lt_of_lt_of_le (lenZ_lt y) (Nat.pow_le_pow_right B_pos (Nat.le_max_right _ _))
  have h3 := Int.natAbs_add_le x y
  rw [Nat.pow_succ]
  generalize B ^ max (lenZ x) (lenZ y) = q at *
  rw [B_eq]; omega
theorem lenZ_neg (x : Int) : lenZ (-x) = lenZ x := by unfold lenZ; rw [Int.natAbs_neg]
theorem lenZ_zv (w : Wh) : lenZ (zv w) ≤ w.mag.length := wz_len w
theorem law03_awake_sp : Sp 21 [] [.bool true] := by
  have l : ∀ z : Int, -100000 ≤ z → z ≤ 100000 → (wz z).mag.length ≤ 1 := fun z h1 h2 => wz_len_le (n := 1) (by rw [Nat.pow_one, B_eq]; omega)
  have n1 : ∀ z : Int, nv (wz z).mag = z.natAbs := fun z => nv_lb _
  have d1 := whole_DivMod_sp (wz (-7)) (wz 2) (by have := l (-7) (by decide) (by decide); omega) (by have := l 2 (by decide) (by decide); omega) (longOk_one _ _ (by rw [n1]; decide))
  have d2 := whole_DivMod_sp (wz 7) (wz (-2)) (by have := l 7 (by decide) (by decide); omega) (by have := l (-2) (by decide) (by decide); omega) (longOk_one _ _ (by rw [n1]; decide))
  rw [zv_wz, zv_wz] at d1 d2
  have r1 : dmD (-7) 2 = [dW (wz (-4)), dW (wz 1), .bool true] := rfl
  have r2 : dmD 7 (-2) = [dW (wz (-4)), dW (wz (-1)), .bool true] := rfl
  rw [r1] at d1
  rw [r2] at d2
  have s : ∀ z : Int, -100000 ≤ z → z ≤ 100000 → Sp 17 [dW (wz z), dW (wz z)] [.bool true] := fun z h1 h2 => law03_same_sp _ (by have := l z h1 h2; omega)
  refine sound_ 0 (law03_awake_tree _) (wp_call (whole_Of_sp (-7) (inr (-7))) (wp_call (whole_Of_sp 2 (inr 2)) (wp_call d1 (wp_call (whole_Of_sp 7 (inr 7)) (wp_call (whole_Of_sp (-2) (inr (-2))) (wp_call d2 (wp_tt rfl (wp_tt rfl ?_))))))))
  refine wp_call (ref03_Of_sp (-4) (inr (-4))) (wp_call (s (-4) (by decide) (by decide)) (wp_tt rfl (wp_call (ref03_Of_sp 1 (inr 1)) (wp_call (s 1 (by decide) (by decide)) (wp_tt rfl ?_)))))
  exact wp_call (ref03_Of_sp (-4) (inr (-4))) (wp_call (s (-4) (by decide) (by decide)) (wp_tt rfl (wp_call (ref03_Of_sp (-1) (inr (-1))) (wp_call (s (-1) (by decide) (by decide)) (wp_ret rfl)))))
theorem awake03 : Tw (.call 21 [] [] fun y => .ret [D.bool ((y.getD 0 D.nil).toBool)]) [.bool true] := wp_call law03_awake_sp (wp_ret rfl)
theorem wzl (z : Int) : (wz z).mag.length = lenZ z := rfl
theorem wholeRing_sp (a b c : Wh) (_ : a.mag.length ≤ 9223372036854775807) (_ : b.mag.length ≤ 9223372036854775807) (_ : c.mag.length ≤ 9223372036854775807) : Sp 4 [dW a, dW b, dW c] [.bool true] := by
  refine sound_ 0 (law03_WholeRing_tree _ _ _ _) ?_
  simp only [dW_1, els_dL, List.length_map]
  refine wp_decs (fun _ => awake03) (fun h1 => wp_decs (fun _ => awake03) (fun h2 => wp_decs (fun _ => awake03) (fun h3 => ?_)))
  have la := lenZ_zv a
  have lb_ := lenZ_zv b
  have lc := lenZ_zv c
  have ab := lenZ_add (zv a) (zv b)
  have bc := lenZ_add (zv b) (zv c)
  have mab := lenZ_mul (zv a) (zv b)
  have mbc := lenZ_mul (zv b) (zv c)
  have mac := lenZ_mul (zv a) (zv c)
  have abc := lenZ_add (zv a + zv b) (zv c)
  have mabc := lenZ_mul (zv a * zv b) (zv c)
  have dis := lenZ_mul (zv a) (zv b + zv c)
  have p1 := whole_Add_sp a b (by omega) (by omega)
  have p2 := whole_Add_sp b a (by omega) (by omega)
  rw [Int.add_comm (zv b)] at p2
  have p3 := whole_Mul_sp a b (by omega) (by omega)
  have p4 := whole_Mul_sp b a (by omega) (by omega)
  rw [Int.mul_comm (zv b)] at p4
  have p5 := whole_Add_sp (wz (zv a + zv b)) c (by rw [wzl]; omega) (by omega)
  rw [zv_wz] at p5
  have p6 := whole_Add_sp b c (by omega) (by omega)
  have p7 := whole_Add_sp a (wz (zv b + zv c)) (by omega) (by rw [wzl]; omega)
  rw [zv_wz, ← Int.add_assoc] at p7
  have p8 := whole_Mul_sp (wz (zv a * zv b)) c (by rw [wzl]; omega) (by omega)
  rw [zv_wz] at p8
  have p9 := whole_Mul_sp b c (by omega) (by omega)
  have p10 := whole_Mul_sp a (wz (zv b * zv c)) (by omega) (by rw [wzl]; omega)
  rw [zv_wz, ← Int.mul_assoc] at p10
  have p11 := whole_Mul_sp a (wz (zv b + zv c)) (by omega) (by rw [wzl]; omega)
  rw [zv_wz] at p11
  have p12 := whole_Mul_sp a c (by omega) (by omega)
  have p13 := whole_Add_sp (wz (zv a * zv b)) (wz (zv a * zv c)) (by rw [wzl]; omega) (by rw [wzl]; omega)
  rw [zv_wz, zv_wz, ← Int.mul_add] at p13
  refine wp_call (law03_Mine_sp a) (wp_call (law03_Mine_sp b) (wp_call (law03_Mine_sp c) ?_))
  refine wp_call p1 (wp_call p2 (wp_call (law03_Theirs_sp _) (wp_call (same_wz _ (by omega)) (wp_ff rfl ?_))))
  refine wp_call p3 (wp_call p4 (wp_call (law03_Theirs_sp _) (wp_call (same_wz _ (by omega)) (wp_ff rfl ?_))))
  refine wp_call p1 (wp_call p5 (wp_call p6 (wp_call p7 (wp_call (law03_Theirs_sp _) (wp_call (same_wz _ (by omega)) (wp_ff rfl ?_))))))
  refine wp_call p3 (wp_call p8 (wp_call p9 (wp_call p10 (wp_call (law03_Theirs_sp _) (wp_call (same_wz _ (by omega)) (wp_ff rfl ?_))))))
  exact wp_call p6 (wp_call p11 (wp_call p3 (wp_call p12 (wp_call p13 (wp_call (law03_Theirs_sp _) (wp_call (same_wz _ (by omega)) (wp_tt rfl awake03)))))))
theorem wholeSmall_sp (n : Int) (a : Wh) (hn : inR n) (_ : a.mag.length ≤ 9223372036854775807) : Sp 5 [.int n, dW a] [.bool true] := by
  refine sound_ 0 (law03_WholeSmall_tree _ _ _) (wp_call (law03_few_sp a) ?_)
  have hl := fewW_len a
  generalize fewW a = w at *
  have l1 : (wz n).mag.length ≤ 2 := wz_len_le (n := 2) (by unfold inR at hn; show n.natAbs < 18446744073709551616; omega)
  have sm := whole_Small_sp (wz n) (by omega)
  rw [zv_wz] at sm
  have e : smallZ n = [.int n, .bool true] := by unfold smallZ; rw [if_pos hn]
  rw [e] at sm
  simp only [toInt_int]
  refine wp_call (whole_Of_sp n hn) (wp_call sm (wp_call (law03_Mine_sp w) (wp_call (whole_Small_sp w (by omega)) (wp_call (ref03_Small_sp w (by omega)) (wp_call (ref03_Of_sp n hn) (wp_call (law03_same_sp _ (by omega)) (wp_tt rfl (wp_tt rfl (wp_tt (by simp) (wp_tt (by simp) (wp_tt (by simp) awake03)))))))))))
theorem wholeSums_sp (a b : Wh) (_ : a.mag.length ≤ 9223372036854775807) (_ : b.mag.length ≤ 9223372036854775807) : Sp 6 [dW a, dW b] [.bool true] := by
  refine sound_ 0 (law03_WholeSums_tree _ _ _) (wp_call (law03_few_sp a) (wp_call (law03_few_sp b) ?_))
  have h1 := fewW_len a
  have h2 := fewW_len b
  generalize fewW a = x at *
  generalize fewW b = y at *
  have la := lenZ_zv x
  have lb_ := lenZ_zv y
  have ab := lenZ_add (zv x) (zv y)
  have sb := lenZ_add (zv x) (-zv y)
  rw [lenZ_neg, ← Int.sub_eq_add_neg] at sb
  have mab := lenZ_mul (zv x) (zv y)
  refine wp_call (law03_Mine_sp x) (wp_call (law03_Mine_sp y) ?_)
  refine wp_call (whole_Add_sp x y (by omega) (by omega)) (wp_call (ref03_Add_sp x y (by omega) (by omega)) (wp_call (same_wz _ (by omega)) (wp_ff rfl ?_)))
  refine wp_call (whole_Sub_sp x y (by omega) (by omega)) (wp_call (ref03_Sub_sp x y (by omega) (by omega)) (wp_call (same_wz _ (by omega)) (wp_ff rfl ?_)))
  refine wp_call (whole_Mul_sp x y (by omega) (by omega)) (wp_call (ref03_Mul_sp x y (by omega) (by omega)) (wp_call (same_wz _ (by omega)) (wp_ff rfl ?_)))
  refine wp_call (whole_Cmp_sp x y (by omega) (by omega)) (wp_call (ref03_Cmp_sp x y (by omega) (by omega)) (wp_ff (by simp) ?_))
  refine wp_call (whole_Sign_sp x (by omega)) (wp_call (ref03_Sign_sp x (by omega)) (wp_tt (by simp) ?_))
  refine wp_call (whole_Neg_sp x (by omega)) (wp_call (ref03_Neg_sp x (by omega)) (wp_call (same_wz _ (by rw [lenZ_neg]; omega)) (wp_tt rfl ?_)))
  exact wp_call (whole_Norm_sp x (by omega)) (wp_call (ref03_Norm_sp x (by omega)) (wp_call (same_wz _ (by omega)) (wp_tt rfl awake03)))
theorem powR_len : ∀ (k n : Nat) (out base : Int), lenZ out ≤ 100 → lenZ (powR k n out base).1 ≤ 100
  | 0, _, out, base, h => h
  | k + 1, n, out, base, h => by
    have z0 : lenZ 0 ≤ 100 := by unfold lenZ; rw [show Int.natAbs 0 = 0 from rfl, lb_zero]; simp
    rw [powR]
    generalize (if n % 2 = 1 then out * base else out) = o
    split
    · exact h
    split
    · exact z0
    split
    · exact z0
    rename_i h3
    split
    · show lenZ o ≤ 100; omega
    · exact powR_len k _ o _ (by omega)
theorem wholePowers_sp (a : Wh) (n : Int) (_ : a.mag.length ≤ 9223372036854775807) (_ : inR n) : Sp 7 [dW a, .int n] [.bool true] := by
  refine sound_ 0 (law03_WholePowers_tree _ _ _) (wp_call (law03_few_sp a) ?_)
  have h1 := fewW_len a
  generalize fewW a = x at *
  simp only [toInt_int]
  refine wp_decs (fun _ => awake03) (fun h => wp_call (law03_Mine_sp x) (wp_call (whole_Pow_sp x n (by omega) (by omega)) (wp_call (ref03_Pow_sp x n (by omega) (by omega)) ?_)))
  have hl : lenZ (powZ (zv x) n).1 ≤ 100 := by
    unfold powZ
    split
    · show lenZ 0 ≤ 100; unfold lenZ; rw [show Int.natAbs 0 = 0 from rfl, lb_zero]; simp
    · exact powR_len _ _ _ _ (lb_len.2 (by show 1 < B ^ 100; exact Nat.one_lt_pow (by decide) (by decide)))
  exact wp_call (same_wz _ (by omega)) (wp_tt rfl (wp_tt (by simp [powD]) awake03))
end Go.Proofs.Ytmjdldbbhfbdkaa
set_option maxRecDepth 100000
namespace Go.Proofs.Ytmjdldbbhfbdkaa
open Go.ChangeShapes Go.WideShapes Go.ChangeAt Go.RowKit

set_option maxRecDepth 100000 in
theorem wholePowers_lifted (os : Os) (started : os.Started) (H : Type) (enc : TypeId × Value → H) :
    ReturnsInHanded {} Try.checked os 7 .any (Rows.wholePowersSpec.pre6 enc Try.prog Try.f7 Rows.wholePowersRow.domain false) (Rows.wholePowersSpec.post enc Try.prog Try.f7 false true false false) := by
  refine returnsInHanded_of_change_sized (C := Try.checked) knob started (by kernel_rfl) Try.func7
    (ChangeSpec.witness6 (enc := enc) (C := Try.checked) false ⟨#[], #[.agg #[.bool false, .slice none 0 0], .int .i64 0], []⟩ 16 (by kernel_rfl) (by kernel_rfl) (by kernel_rfl) (by kernel_rfl)) ?_
  intro W base args ds gs before hval0 hW hcnd hwt0 _
  have hval : ∀ (j : Nat) t v, Try.f7.params[j]? = some t → args[j]? = some v → Value.okWide Try.prog W .any base t v := hval0
  have hW' := hW
  obtain ⟨p, q, hA0, hV, rfl, hfz, hnd⟩ := hW
  have hA : DataW.TrodAll enc Try.prog W 0 (fun _ => true) true Try.f7.params.toList args.toList ds p := hA0
  rw [Try.params7] at hA hval
  obtain ⟨v0, vs0, d0, ds0, p0, q0, hargs, rfl, rfl, h0, r0⟩ := trodAll_cons hA
  obtain ⟨v1, vs1, d1, ds1, p1, q1, rfl, rfl, rfl, h1, r1⟩ := trodAll_cons r0
  obtain ⟨rfl, rfl, rfl⟩ := trodAll_nil r1
  obtain rfl : args = #[v0, v1] := by cases args; simp_all
  have hwt : ∀ (j t : Nat) d, (Try.f7.params.toList)[j]? = some t → ([d0, d1])[j]? = some d → ∀ z ∈ DataW.weights Try.prog t d, z ≤ reachBytes := fun j t d ht hd z hz => by
    have hl := (List.getElem?_eq_some_iff.1 ht).1
    have hl2 := (List.getElem?_eq_some_iff.1 hd).1
    have := List.all_eq_true.1 hwt0 z (DataW.weights_mem_each (j := j) (t := t) (d := d) (by rw [List.getElem?_append_left hl]; exact ht) (by rw [List.getElem?_append_left hl2]; exact hd) z hz)
    simpa using this
  obtain ⟨x0, hx0, hr0⟩ := arg_who (hval 0 24 v0 rfl rfl) h0
  obtain ⟨x1, hx1, hr1⟩ := arg_inth (hval 1 3 v1 rfl rfl) h1
  refine (law_calls (vs := [v0, v1]) (wholePowers_sp x0 x1 hx0 hx1) Try.func7 (by kernel_rfl) (by kernel_rfl) Try.underlying4 rfl rfl ?_).mono fun e W' ⟨he, hx⟩ => ⟨_, he, law_post laidOut hW' rfl (by kernel_rfl) Try.underlying4 rfl (by kernel_rfl) hx⟩
  intro i t x v ht hx hv
  match i with
  | 0 => cases (show some 24 = some t from ht); cases hx; cases hv; exact hr0
  | 1 => cases (show some 3 = some t from ht); cases hx; cases hv; exact hr1
  | i + 2 => cases hx

theorem wholePowers_holds : Rows.WholePowersSaid :=
  OpenClaim.holds_of_wide 7 Try.f7 rfl rfl rfl rfl rfl rfl rfl ⟨rfl, rfl, rfl, rfl, rfl⟩ rfl rfl rfl rfl rfl (by kernel_rfl) Try.func7 (by kernel_rfl)
    (of_decide_eq_true (by kernel_rfl)) (by unfold Func.isWrapper; first | (rw [if_pos (by decide +kernel)]; kernel_rfl) | (rw [if_neg (by decide +kernel)]; exact ⟨rfl, rfl⟩))
    (fun os started H enc _ => wholePowers_lifted os started H enc)

end Go.Proofs.Ytmjdldbbhfbdkaa
