/- Proved: for any int and any two numbers, the law ScalarNumbers returns true and changes nothing. No condition. -/
import Derived.Test.YtjmddikeadbmjaaGreatRows
import Derived.WalkKit
import Derived.WalkSpells
import Derived.WalkLawsBesides
import Derived.Lib.Hide
import Derived.Laws.CopyOwn
import Derived.Deep.QuietTactic
import Derived.BigQuiet
import Derived.Orders
import Derived.Defers
import Derived.Recover
import Derived.Test.YtjmddikeadbmjaaGreatProg
import Derived.KernelRfl
import Derived.ProofKit
import Derived.OpenShut
import Derived.Test.YtjmddikeadbmjaaGreatZ7f218194
set_option linter.unusedSimpArgs false
set_option linter.unusedVariables false
set_option maxRecDepth 100000
namespace Go.Proofs.YtjmddikeadbmjaaGreat

theorem scalar_content_sp {d : Nat} (c : Cell) (h : rightC d c = true) : Sp 96 [dC c] [dA (contC c)] := by
  refine sound_ 0 (scalar_content_tree _ _) ?_
  simp only [dA_0, dA_1, dA_2, dC_0, dC_1, dC_2, dC_3, dC_4, dN_0, dN_1, dN_2, els_sl, els_dI, els_dL, List.length_map, Int.toNat_natCast, toInt_int, toInt_dB, toBool_bool, getD_c0, getD_c1, int_beq, int_bne, not_dec, dInt_dB, Int.toNat_zero]
  unfold contC
  have hs := rightC_sml h
  refine wp_decs (fun h1 => ?_) (fun h1 => ?_)
  · rcases rightC_cases h with ⟨g1, _⟩ | ⟨g1, _⟩ | ⟨g1, g2, g3, x, e, g4, g5, g6, g7⟩
    · omega
    · omega
    · rw [if_pos h1, g5]
      exact wp_call (scalar_inside_sp c x g5) (wp_ret rfl)
  · rw [if_neg h1]
    have e0 : D.agg [D.int 0, D.int c.kind, dN c.n, D.int c.c, D.sl (c.inn.map dA)] = dC ⟨0, c.kind, c.n, c.c, c.inn⟩ := by rw [dC_eq]; rfl
    rw [e0]
    exact wp_call (array_Scalar_sp (d := d) ⟨0, c.kind, c.n, c.c, c.inn⟩ hs) (wp_ret rfl)
theorem ref10_inner_sp {d : Nat} (c : Cell) (h : rightC d c = true) : Sp 100 [dC c] [dA (contC c)] := by
  refine sound_ 0 (ref10_inner_tree _ _) ?_
  simp only [dA_0, dA_1, dA_2, dC_0, dC_1, dC_2, dC_3, dC_4, dN_0, dN_1, dN_2, els_sl, els_dI, els_dL, List.length_map, Int.toNat_natCast, toInt_int, toInt_dB, toBool_bool, getD_c0, getD_c1, int_beq, int_bne, not_dec, dInt_dB, Int.toNat_zero]
  unfold contC
  refine wp_decs (fun h1 => ?_) (fun h1 => wp_ret ?_)
  · rcases rightC_cases h with ⟨g1, _⟩ | ⟨g1, _⟩ | ⟨g1, g2, g3, x, e, g4, g5, g6, g7⟩
    · omega
    · omega
    · rw [if_pos h1, g5]
      exact wp_dec (by omega) (wp_dec (by simp) (wp_ret rfl))
  · rw [if_neg h1, dA_eq]
    simp only [Arr.cells_mk, Arr.s_mk, Arr.shape_mk, List.map_cons, List.map_nil, dC_eq]; rfl
theorem dC_lab (l : Lab) (n : Num) : D.agg [dB l, D.int 0, dN n, D.int 0, D.sl []] = dC ⟨l, 0, n, 0, []⟩ := by rw [dC_eq]; rfl
theorem dC_lab0 (l : Lab) : D.agg [dB l, D.int 0, D.agg [D.bool false, D.sl [], D.sl []], D.int 0, D.sl []] = dC ⟨l, 0, .zero, 0, []⟩ := by rw [dC_eq]; rfl
section
variable {d : Nat} {x y : Cell} {f : Int} {r : Arr → Arr → Arr × Int}
theorem not_box (hx : rightC 0 x = true) : ¬ x.kind = 2 := by
  rcases rightC_cases hx with ⟨g1, _⟩ | ⟨g1, _⟩ | ⟨_, _, _, _, e, g4, _⟩
  · omega
  · omega
  · omega
theorem kind_is (hx : rightC d x = true) : x.kind = 0 ∨ x.kind = 1 ∨ x.kind = 2 := by
  rcases rightC_cases hx with ⟨g1, _⟩ | ⟨g1, _⟩ | ⟨g1, _⟩
  · exact .inl g1
  · exact .inr (.inl g1)
  · exact .inr (.inr g1)
theorem num_is (hx : rightC d x = true) (h : x.kind = 0) : rightN x.n = true := by
  rcases rightC_cases hx with ⟨_, _, _, g4⟩ | ⟨g1, _⟩ | ⟨g1, _⟩
  · exact g4
  · omega
  · omega
theorem box_is (hx : rightC d x = true) (h : x.kind = 2) : ∃ X, x.inn = [X] := by
  rcases rightC_cases hx with ⟨g1, _⟩ | ⟨g1, _⟩ | ⟨_, _, _, X, _, _, g5, _⟩
  · omega
  · omega
  · exact ⟨X, g5⟩
theorem scalar_twoCells_sp (hx : rightC d x = true) (hy : rightC d y = true) (hp : f = 42 → ExpOkC y)
    (ih : ∀ e, d = e + 1 → ∀ X Y, rightA e X = true → rightA e Y = true → (f = 42 → ExpOk Y) → Sp 11 [.int f, dA X, dA Y] [dA (r X Y).1, .int (r X Y).2]) : Sp 41 [.int f, dC x, dC y] [dC (twoC r f x y).1, .int (twoC r f x y).2] := by
  refine sound_ 0 (scalar_twoCells_tree _ _ _ _) ?_
  simp only [dA_0, dA_1, dA_2, dC_0, dC_1, dC_2, dC_3, dC_4, dN_0, dN_1, dN_2, els_sl, els_dI, els_dL, List.length_map, Int.toNat_natCast, toInt_int, toInt_dB, toBool_bool, getD_c0, getD_c1, int_beq, int_bne, not_dec, dInt_dB, Int.toNat_zero]
  refine wp_call (label_Join_sp x.l y.l) ?_
  simp only [dA_0, dA_1, dA_2, dC_0, dC_1, dC_2, dC_3, dC_4, dN_0, dN_1, dN_2, els_sl, els_dI, els_dL, List.length_map, Int.toNat_natCast, toInt_int, toInt_dB, toBool_bool, getD_c0, getD_c1, int_beq, int_bne, not_dec, dInt_dB, Int.toNat_zero]
  have box : x.kind = 2 ∨ y.kind = 2 → Tw (.call 96 [] [dC x] fun yy2 => .call 96 [] [dC y] fun yy3 => .call 11 [] [D.int f, yy2.getD 0 D.nil, yy3.getD 0 D.nil] fun yy4 => .ret [D.agg [dB (x.l ||| y.l), D.int 2, D.agg [D.bool false, D.sl [], D.sl []], D.int 0, D.sl [yy4.getD 0 D.nil]], D.int ((yy4.getD 1 D.nil).toInt)]) [dC (twoC r f x y).1, .int (twoC r f x y).2] := fun hk => by
    cases d with
    | zero => rcases hk with hk | hk; exact absurd hk (not_box hx); exact absurd hk (not_box hy)
    | succ e =>
      obtain ⟨c1, _⟩ := contC_right hx
      obtain ⟨c2, _⟩ := contC_right hy
      refine wp_call (scalar_content_sp x hx) (wp_call (scalar_content_sp y hy) (wp_call (ih e rfl _ _ c1 c2 (fun hf => contC_exp (hp hf) (box_is hy))) (wp_ret ?_)))
      unfold twoC
      rw [if_pos hk, dC_eq]; rfl
  refine wp_decs (fun h1 => box (.inl h1)) (fun h1 => wp_decs (fun h2 => box (.inr h2)) (fun h2 => ?_))
  unfold twoC
  rw [if_neg (fun hh => hh.elim h1 h2)]
  have chars : ¬ (x.kind = 0 ∧ y.kind = 0) → Tw (.br (decide (f = 61)) (.br (decide (x.kind = y.kind)) (.call 97 [] [D.bool (decide (x.c = y.c) == decide (f = 61))] fun yy13 => .ret [D.agg [dB (x.l ||| y.l), D.int 0, yy13.getD 0 D.nil, D.int 0, D.sl []], D.int 0]) (.call 97 [] [D.bool (false == decide (f = 61))] fun yy14 => .ret [D.agg [dB (x.l ||| y.l), D.int 0, yy14.getD 0 D.nil, D.int 0, D.sl []], D.int 0])) (.br (decide (f = 8800)) (.br (decide (x.kind = y.kind)) (.call 97 [] [D.bool (decide (x.c = y.c) == decide (f = 61))] fun yy15 => .ret [D.agg [dB (x.l ||| y.l), D.int 0, yy15.getD 0 D.nil, D.int 0, D.sl []], D.int 0]) (.call 97 [] [D.bool (false == decide (f = 61))] fun yy16 => .ret [D.agg [dB (x.l ||| y.l), D.int 0, yy16.getD 0 D.nil, D.int 0, D.sl []], D.int 0])) (.ret [D.agg [dB (x.l ||| y.l), D.int 0, D.agg [D.bool false, D.sl [], D.sl []], D.int 0, D.sl []], D.int 3])))
      [dC (if x.kind = 0 ∧ y.kind = 0 then ((⟨x.l ||| y.l, 0, (twoN f x.n y.n).1, 0, []⟩, (twoN f x.n y.n).2) : Cell × Int) else if f = 61 then (⟨x.l ||| y.l, 0, truN (decide (x.kind = y.kind ∧ x.c = y.c)), 0, []⟩, 0) else if f = 8800 then (⟨x.l ||| y.l, 0, truN (decide (¬ (x.kind = y.kind ∧ x.c = y.c))), 0, []⟩, 0) else (⟨x.l ||| y.l, 0, .zero, 0, []⟩, 3)).1, .int (if x.kind = 0 ∧ y.kind = 0 then ((⟨x.l ||| y.l, 0, (twoN f x.n y.n).1, 0, []⟩, (twoN f x.n y.n).2) : Cell × Int) else if f = 61 then (⟨x.l ||| y.l, 0, truN (decide (x.kind = y.kind ∧ x.c = y.c)), 0, []⟩, 0) else if f = 8800 then (⟨x.l ||| y.l, 0, truN (decide (¬ (x.kind = y.kind ∧ x.c = y.c))), 0, []⟩, 0) else (⟨x.l ||| y.l, 0, .zero, 0, []⟩, 3)).2] := fun hk => by
    rw [if_neg hk]
    refine wp_decs (fun h3 => wp_decs (fun h4 => wp_call (scalar_truth_sp _) (wp_ret ?_)) (fun h4 => wp_call (scalar_truth_sp _) (wp_ret ?_))) (fun h3 => wp_decs (fun h3' => wp_decs (fun h4 => wp_call (scalar_truth_sp _) (wp_ret ?_)) (fun h4 => wp_call (scalar_truth_sp _) (wp_ret ?_))) (fun h3' => wp_ret ?_))
    · rw [if_pos h3, getD_c0, dC_lab]; simp [h3, h4]
    · rw [if_pos h3, getD_c0, dC_lab]; simp [h3, h4]
    · rw [if_neg h3, if_pos h3', getD_c0, dC_lab]; simp [h3, h4]
    · rw [if_neg h3, if_pos h3', getD_c0, dC_lab]; simp [h3, h4]
    · rw [if_neg h3, if_neg h3', dC_lab0]
  refine wp_decs (fun h3 => wp_decs (fun h4 => ?_) (fun h4 => chars (fun hh => h4 hh.2))) (fun h3 => chars (fun hh => h3 hh.1))
  rw [if_pos ⟨h3, h4⟩]
  obtain ⟨z, q, rx⟩ := rn_of (num_is hx h3)
  obtain ⟨z', q', ry⟩ := rn_of (num_is hy h4)
  refine wp_call (scalar_Numbers_sp f rx ry (fun hf => (hp hf).1)) (wp_ret ?_)
  simp only [retR, getD_c0, getD_c1, toInt_int, dC_lab]
theorem ref10_two_sp (hx : rightC d x = true) (hy : rightC d y = true) (hp : f = 42 → ExpOkC y)
    (ih : ∀ e, d = e + 1 → ∀ X Y, rightA e X = true → rightA e Y = true → (f = 42 → ExpOk Y) → Sp 12 [.int f, dA X, dA Y] [dA (r X Y).1, .int (r X Y).2]) : Sp 45 [.int f, dC x, dC y] [dC (twoC r f x y).1, .int (twoC r f x y).2] := by
  refine sound_ 0 (ref10_two_tree _ _ _ _) ?_
  simp only [dA_0, dA_1, dA_2, dC_0, dC_1, dC_2, dC_3, dC_4, dN_0, dN_1, dN_2, els_sl, els_dI, els_dL, List.length_map, Int.toNat_natCast, toInt_int, toInt_dB, toBool_bool, getD_c0, getD_c1, int_beq, int_bne, not_dec, dInt_dB, Int.toNat_zero]
  refine wp_call (ref01_Join_sp x.l y.l) ?_
  simp only [dA_0, dA_1, dA_2, dC_0, dC_1, dC_2, dC_3, dC_4, dN_0, dN_1, dN_2, els_sl, els_dI, els_dL, List.length_map, Int.toNat_natCast, toInt_int, toInt_dB, toBool_bool, getD_c0, getD_c1, int_beq, int_bne, not_dec, dInt_dB, Int.toNat_zero]
  have box : x.kind = 2 ∨ y.kind = 2 → Tw (.call 100 [] [dC x] fun yy2 => .call 100 [] [dC y] fun yy3 => .call 12 [] [D.int f, yy2.getD 0 D.nil, yy3.getD 0 D.nil] fun yy4 => .ret [D.agg [dB (x.l ||| y.l), D.int 2, D.agg [D.bool false, D.sl [], D.sl []], D.int 0, D.sl [yy4.getD 0 D.nil]], D.int ((yy4.getD 1 D.nil).toInt)]) [dC (twoC r f x y).1, .int (twoC r f x y).2] := fun hk => by
    cases d with
    | zero => rcases hk with hk | hk; exact absurd hk (not_box hx); exact absurd hk (not_box hy)
    | succ e =>
      obtain ⟨c1, _⟩ := contC_right hx
      obtain ⟨c2, _⟩ := contC_right hy
      refine wp_call (ref10_inner_sp x hx) (wp_call (ref10_inner_sp y hy) (wp_call (ih e rfl _ _ c1 c2 (fun hf => contC_exp (hp hf) (box_is hy))) (wp_ret ?_)))
      unfold twoC
      rw [if_pos hk, dC_eq]; rfl
  refine wp_decs (fun h1 => box (.inl h1)) (fun h1 => wp_decs (fun h2 => box (.inr h2)) (fun h2 => ?_))
  unfold twoC
  rw [if_neg (fun hh => hh.elim h1 h2)]
  have tr : ∀ b : Bool, ∀ t : Bool, b = t → Tw (.call 85 [] [D.bool b] fun yy => .ret [D.agg [dB (x.l ||| y.l), D.int 0, yy.getD 0 D.nil, D.int 0, D.sl []], D.int ((yy.getD 1 D.nil).toInt)]) [dC ⟨x.l ||| y.l, 0, truN t, 0, []⟩, .int 0] := fun b t hb => by
    subst hb
    refine wp_call (ref10_truth_sp b) (wp_ret ?_)
    simp only [retR, getD_c0, getD_c1, toInt_int, dC_lab]
  have chars : ¬ (x.kind = 0 ∧ y.kind = 0) → Tw (.br (decide (f = 61)) (.br (decide (x.kind = y.kind)) (.call 85 [] [D.bool (decide (x.c = y.c))] fun yy13 => .ret [D.agg [dB (x.l ||| y.l), D.int 0, yy13.getD 0 D.nil, D.int 0, D.sl []], D.int ((yy13.getD 1 D.nil).toInt)]) (.call 85 [] [D.bool false] fun yy14 => .ret [D.agg [dB (x.l ||| y.l), D.int 0, yy14.getD 0 D.nil, D.int 0, D.sl []], D.int ((yy14.getD 1 D.nil).toInt)])) (.br (decide (f = 8800)) (.br (decide (¬ x.kind = y.kind)) (.call 85 [] [D.bool true] fun yy15 => .ret [D.agg [dB (x.l ||| y.l), D.int 0, yy15.getD 0 D.nil, D.int 0, D.sl []], D.int ((yy15.getD 1 D.nil).toInt)]) (.call 85 [] [D.bool (decide (¬ x.c = y.c))] fun yy16 => .ret [D.agg [dB (x.l ||| y.l), D.int 0, yy16.getD 0 D.nil, D.int 0, D.sl []], D.int ((yy16.getD 1 D.nil).toInt)])) (.ret [D.agg [dB (x.l ||| y.l), D.int 0, D.agg [D.bool false, D.sl [], D.sl []], D.int 0, D.sl []], D.int 3])))
      [dC (if x.kind = 0 ∧ y.kind = 0 then ((⟨x.l ||| y.l, 0, (twoN f x.n y.n).1, 0, []⟩, (twoN f x.n y.n).2) : Cell × Int) else if f = 61 then (⟨x.l ||| y.l, 0, truN (decide (x.kind = y.kind ∧ x.c = y.c)), 0, []⟩, 0) else if f = 8800 then (⟨x.l ||| y.l, 0, truN (decide (¬ (x.kind = y.kind ∧ x.c = y.c))), 0, []⟩, 0) else (⟨x.l ||| y.l, 0, .zero, 0, []⟩, 3)).1, .int (if x.kind = 0 ∧ y.kind = 0 then ((⟨x.l ||| y.l, 0, (twoN f x.n y.n).1, 0, []⟩, (twoN f x.n y.n).2) : Cell × Int) else if f = 61 then (⟨x.l ||| y.l, 0, truN (decide (x.kind = y.kind ∧ x.c = y.c)), 0, []⟩, 0) else if f = 8800 then (⟨x.l ||| y.l, 0, truN (decide (¬ (x.kind = y.kind ∧ x.c = y.c))), 0, []⟩, 0) else (⟨x.l ||| y.l, 0, .zero, 0, []⟩, 3)).2] := fun hk => by
    rw [if_neg hk]
    refine wp_decs (fun h3 => wp_decs (fun h4 => ?_) (fun h4 => ?_)) (fun h3 => wp_decs (fun h3' => wp_decs (fun h4 => ?_) (fun h4 => ?_)) (fun h3' => wp_ret ?_))
    · rw [if_pos h3]; exact tr _ _ (by simp [h4])
    · rw [if_pos h3]; exact tr _ _ (by simp [h4])
    · rw [if_neg h3, if_pos h3']; exact tr _ _ (by simp [h4])
    · rw [if_neg h3, if_pos h3']; exact tr _ _ (by have := Classical.not_not.1 h4; simp [this])
    · rw [if_neg h3, if_neg h3', dC_lab0]
  refine wp_decs (fun h3 => wp_decs (fun h4 => ?_) (fun h4 => chars (fun hh => h4 hh.2))) (fun h3 => chars (fun hh => h3 hh.1))
  rw [if_pos ⟨h3, h4⟩]
  obtain ⟨z, q, rx⟩ := rn_of (num_is hx h3)
  obtain ⟨z', q', ry⟩ := rn_of (num_is hy h4)
  refine wp_call (ref10_Numbers_sp f rx ry (fun hf => (hp hf).1)) (wp_ret ?_)
  simp only [retR, getD_c0, getD_c1, toInt_int, dC_lab]
end
theorem scalar_TwoG_sp (f : Int) (d : Nat) (a b : Arr) (r : Arr → Arr → Arr × Int) (ih : ∀ e, d = e + 1 → ∀ X Y, rightA e X = true → rightA e Y = true → (f = 42 → ExpOk Y) → Sp 11 [.int f, dA X, dA Y] [dA (r X Y).1, .int (r X Y).2])
    (ha : rightA d a = true) (hb : rightA d b = true) (hp : f = 42 → ExpOk b) : Sp 11 [.int f, dA a, dA b] [dA (twoG r f a b).1, .int (twoG r f a b).2] := by
  have hs := rightA_sml ha
  have hs' := rightA_sml hb
  have hl := hs.2.1
  have hl' := hs'.2.1
  have hcnt : cntA a b ≤ 1048576 := by unfold cntA; split <;> omega
  refine sound_ (cntA a b + 1) (scalar_Two_tree _ _ _ _) (wp_call (scalar_IsTwo_sp f) ?_)
  simp only [dA_0, dA_1, dA_2, dC_0, dC_1, dC_2, dC_3, dC_4, dN_0, dN_1, dN_2, els_sl, els_dI, els_dL, List.length_map, Int.toNat_natCast, toInt_int, toInt_dB, toBool_bool, getD_c0, getD_c1, int_beq, int_bne, not_dec, dInt_dB, Int.toNat_zero, dA_none, dC_none']
  refine wp_decs (fun h => wp_ret ?_) (fun h => wp_call (scalar_Conform_sp a b hs hs') ?_)
  · unfold twoG; rw [if_neg h]
  have hf := Classical.not_not.1 h
  simp only [dA_0, dA_1, dA_2, dC_0, dC_1, dC_2, dC_3, dC_4, dN_0, dN_1, dN_2, els_sl, els_dI, els_dL, List.length_map, Int.toNat_natCast, toInt_int, toInt_dB, toBool_bool, getD_c0, getD_c1, int_beq, int_bne, not_dec, dInt_dB, Int.toNat_zero, dA_none]
  refine wp_decs (fun h1 => wp_ret ?_) (fun h1 => ?_)
  · unfold twoG; rw [if_pos hf, if_neg h1]
  have hc := Classical.not_not.1 h1
  rw [twoG_D r f a b hf hc]
  have key := loop_up (P := Tryz.prog) (md := md) (cntA a b) (fun m k (pre : List Cell) => scalar_Two_l11 (cntA a b + 1) m f ((cntA a b : Nat) : Int) (k : Int) (dA a) (dA b) 0 ((a.s ||| b.s).toNat : Int) (dI (confA a b).1) (pre.map dC ++ List.replicate (cntA a b - k) (dC Cell.none)))
    (fun k pre => twR (a.s ||| b.s) (confA a b).1 pre (twoCs (fun i => twoC r f (pickZ a i) (pickZ b i)) (cntA a b - k) k)) (fun k pre => pre.length = k)
    (fun m pre hI => by
      simp only [scalar_Two_l11_succ, dA_0, dA_1, dA_2, dC_0, dC_1, dC_2, dC_3, dC_4, dN_0, dN_1, dN_2, els_sl, els_dI, els_dL, List.length_map, Int.toNat_natCast, toInt_int, toInt_dB, toBool_bool, getD_c0, getD_c1, int_beq, int_bne, not_dec, dInt_dB, Int.toNat_zero]
      refine wp_ndec (by omega) (wp_ret ?_)
      rw [Nat.sub_self, List.replicate_zero, List.append_nil, twoCs]
      unfold twR
      rw [if_pos rfl, dA_eq]
      simp [dI, dB])
    (fun m k pre hk hI ih' => by
      have hlen : (pre.map dC ++ List.replicate (cntA a b - k) (dC Cell.none)).length = cntA a b := by simp; omega
      obtain ⟨p1, p2⟩ := pick_in ha hb hc hk
      have r1 := (rightA_cells ha).2 _ p1
      have r2 := (rightA_cells hb).2 _ p2
      simp only [scalar_Two_l11_succ, dA_0, dA_1, dA_2, dC_0, dC_1, dC_2, dC_3, dC_4, dN_0, dN_1, dN_2, els_sl, els_dI, els_dL, List.length_map, Int.toNat_natCast, toInt_int, toInt_dB, toBool_bool, getD_c0, getD_c1, int_beq, int_bne, not_dec, dInt_dB, Int.toNat_zero, hlen, wrap_succ (show k < 9223372036854775807 by omega)]
      refine wp_dec (by omega) (wp_call (scalar_pick_sp a (k : Int)) (wp_call (scalar_pick_sp b (k : Int)) (wp_call (scalar_twoCells_sp (r := r) r1 r2 (fun hf => (hp hf).cell _ p2) ih) ?_)))
      simp only [getD_c0, getD_c1, toInt_int, int_bne, dA_none]
      rw [show cntA a b - k = (cntA a b - (k + 1)) + 1 by omega]
      refine wp_decs (fun he => wp_ret ?_) (fun he => wp_dec (by omega) (wp_dec (by omega) ?_))
      · rw [twR_err he]
      · have he' := Classical.not_not.1 he
        rw [twR_cons he', ← hI, set_next, hI]
        exact ih' (pre ++ [(twoC r f (pickZ a k) (pickZ b k)).1]) (by simp [hI]))
    (cntA a b + 1) 0 [] (by omega) (by omega) rfl
  have e0 : ([] : List Cell).map dC ++ List.replicate (cntA a b - 0) (dC Cell.none) = List.replicate (cntA a b) (dC Cell.none) := by simp
  rw [e0] at key
  refine wp_decs (fun h2 => wp_call (label_Join_sp a.s b.s) (wp_dec (by omega) (wp_dec (by omega) (wp_dec (by simp only [bigN]; omega) ?_)))) (fun h2 => wp_call (label_Join_sp a.s b.s) (wp_dec (by omega) (wp_dec (by omega) (wp_dec (by simp only [bigN]; omega) ?_))))
  · have : cntA a b = b.cells.length := by unfold cntA; rw [if_pos (List.length_eq_zero_iff.1 (by omega))]
    simp only [dA_0, dA_1, dA_2, dC_0, dC_1, dC_2, dC_3, dC_4, dN_0, dN_1, dN_2, els_sl, els_dI, els_dL, List.length_map, Int.toNat_natCast, toInt_int, toInt_dB, toBool_bool, getD_c0, getD_c1, int_beq, int_bne, not_dec, dInt_dB, Int.toNat_zero]
    rw [this] at key
    simpa [this] using key
  · have : cntA a b = a.cells.length := by unfold cntA; rw [if_neg (fun hh => h2 (by rw [hh]; rfl))]
    simp only [dA_0, dA_1, dA_2, dC_0, dC_1, dC_2, dC_3, dC_4, dN_0, dN_1, dN_2, els_sl, els_dI, els_dL, List.length_map, Int.toNat_natCast, toInt_int, toInt_dB, toBool_bool, getD_c0, getD_c1, int_beq, int_bne, not_dec, dInt_dB, Int.toNat_zero]
    rw [this] at key
    simpa [this] using key
theorem scalar_Two_sp (f : Int) : ∀ (d : Nat) (a b : Arr), rightA d a = true → rightA d b = true → (f = 42 → ExpOk b) → Sp 11 [.int f, dA a, dA b] [dA (twoA d f a b).1, .int (twoA d f a b).2]
  | 0, a, b, ha, hb, hp => scalar_TwoG_sp f 0 a b _ (fun e he => by omega) ha hb hp
  | d + 1, a, b, ha, hb, hp => scalar_TwoG_sp f (d + 1) a b _ (fun e he => by
      have : e = d := by omega
      subst this
      exact scalar_Two_sp f e) ha hb hp
theorem ref10_TwoG_sp (f : Int) (d : Nat) (a b : Arr) (r : Arr → Arr → Arr × Int) (ih : ∀ e, d = e + 1 → ∀ X Y, rightA e X = true → rightA e Y = true → (f = 42 → ExpOk Y) → Sp 12 [.int f, dA X, dA Y] [dA (r X Y).1, .int (r X Y).2])
    (ha : rightA d a = true) (hb : rightA d b = true) (hp : f = 42 → ExpOk b) : Sp 12 [.int f, dA a, dA b] [dA (twoG r f a b).1, .int (twoG r f a b).2] := by
  have hs := rightA_sml ha
  have hs' := rightA_sml hb
  have hl := hs.2.1
  have hl' := hs'.2.1
  have hcnt : cntA a b ≤ 1048576 := by unfold cntA; split <;> omega
  refine sound_ (cntA a b + 1) (ref10_Two_tree _ _ _ _) (wp_call ref10_Twos_sp (wp_call (ref06_In_sp twosL f (by decide)) ?_))
  simp only [dA_0, dA_1, dA_2, dC_0, dC_1, dC_2, dC_3, dC_4, dN_0, dN_1, dN_2, els_sl, els_dI, els_dL, List.length_map, Int.toNat_natCast, toInt_int, toInt_dB, toBool_bool, getD_c0, getD_c1, int_beq, int_bne, not_dec, dInt_dB, Int.toNat_zero, dA_none]
  refine wp_decs (fun h => wp_ret ?_) (fun h => wp_call (ref10_Conform_sp a b hs hs') ?_)
  · unfold twoG; rw [if_neg h]
  have hf := Classical.not_not.1 h
  simp only [dA_0, dA_1, dA_2, dC_0, dC_1, dC_2, dC_3, dC_4, dN_0, dN_1, dN_2, els_sl, els_dI, els_dL, List.length_map, Int.toNat_natCast, toInt_int, toInt_dB, toBool_bool, getD_c0, getD_c1, int_beq, int_bne, not_dec, dInt_dB, Int.toNat_zero, dA_none]
  refine wp_decs (fun h1 => wp_ret ?_) (fun h1 => ?_)
  · unfold twoG; rw [if_pos hf, if_neg h1]
  have hc := Classical.not_not.1 h1
  rw [twoG_D r f a b hf hc]
  have cc := ref07_Count_sp (confA a b).1
  rw [conf_count ha hb hc] at cc
  refine wp_call cc (wp_call (ref01_Join_sp a.s b.s) ?_)
  simp only [dA_0, dA_1, dA_2, dC_0, dC_1, dC_2, dC_3, dC_4, dN_0, dN_1, dN_2, els_sl, els_dI, els_dL, List.length_map, Int.toNat_natCast, toInt_int, toInt_dB, toBool_bool, getD_c0, getD_c1, int_beq, int_bne, not_dec, dInt_dB, Int.toNat_zero]
  have key := loop_up (P := Tryz.prog) (md := md) (cntA a b) (fun m k (pre : List Cell) => ref10_Two_l9 (cntA a b + 1) m f ((cntA a b : Nat) : Int) (k : Int) (dA a) (dA b) 0 ((a.s ||| b.s).toNat : Int) (dI (confA a b).1) (pre.map dC))
    (fun k pre => twR (a.s ||| b.s) (confA a b).1 pre (twoCs (fun i => twoC r f (pickZ a i) (pickZ b i)) (cntA a b - k) k)) (fun k pre => pre.length = k)
    (fun m pre hI => by
      simp only [ref10_Two_l9_succ, dA_0, dA_1, dA_2, dC_0, dC_1, dC_2, dC_3, dC_4, dN_0, dN_1, dN_2, els_sl, els_dI, els_dL, List.length_map, Int.toNat_natCast, toInt_int, toInt_dB, toBool_bool, getD_c0, getD_c1, int_beq, int_bne, not_dec, dInt_dB, Int.toNat_zero]
      refine wp_ndec (by omega) (wp_ret ?_)
      rw [Nat.sub_self, twoCs]
      unfold twR
      rw [if_pos rfl, dA_eq]
      simp [dI, dB])
    (fun m k pre hk hI ih' => by
      obtain ⟨p1, p2⟩ := pick_in ha hb hc hk
      have r1 := (rightA_cells ha).2 _ p1
      have r2 := (rightA_cells hb).2 _ p2
      simp only [ref10_Two_l9_succ, dA_0, dA_1, dA_2, dC_0, dC_1, dC_2, dC_3, dC_4, dN_0, dN_1, dN_2, els_sl, els_dI, els_dL, List.length_map, Int.toNat_natCast, toInt_int, toInt_dB, toBool_bool, getD_c0, getD_c1, int_beq, int_bne, not_dec, dInt_dB, Int.toNat_zero, wrap_succ (show k < 9223372036854775807 by omega)]
      refine wp_dec (by omega) (wp_call (ref10_Pick_sp a (k : Int)) (wp_call (ref10_Pick_sp b (k : Int)) (wp_call (ref10_two_sp (r := r) r1 r2 (fun hf => (hp hf).cell _ p2) ih) ?_)))
      simp only [getD_c0, getD_c1, toInt_int, int_bne, dA_none]
      rw [show cntA a b - k = (cntA a b - (k + 1)) + 1 by omega]
      refine wp_decs (fun he => wp_ret ?_) (fun he => wp_dec (by simp only [List.length_cons, List.length_nil, bigN]; omega) ?_)
      · rw [twR_err he]
      · have he' := Classical.not_not.1 he
        rw [twR_cons he']
        have := ih' (pre ++ [(twoC r f (pickZ a k) (pickZ b k)).1]) (by simp [hI])
        rw [List.map_append] at this
        exact this)
    (cntA a b + 1) 0 [] (by omega) (by omega) rfl
  exact key
theorem ref10_Two_sp (f : Int) : ∀ (d : Nat) (a b : Arr), rightA d a = true → rightA d b = true → (f = 42 → ExpOk b) → Sp 12 [.int f, dA a, dA b] [dA (twoA d f a b).1, .int (twoA d f a b).2]
  | 0, a, b, ha, hb, hp => ref10_TwoG_sp f 0 a b _ (fun e he => by omega) ha hb hp
  | d + 1, a, b, ha, hb, hp => ref10_TwoG_sp f (d + 1) a b _ (fun e he => by
      have : e = d := by omega
      subst this
      exact ref10_Two_sp f e) ha hb hp
end Go.Proofs.YtjmddikeadbmjaaGreat
set_option maxRecDepth 100000
namespace Go.Proofs.YtjmddikeadbmjaaGreat
/-! scrim/scrimref09.Alike -/
def ref09_Alike_orc : List (Nat × Orc) := [(6, ⟨[(2, none), (3, none), (4, none), (7, none)], [(3, true), (4, true)], []⟩)]
def ref09_Alike_ps : List Nat := [26, 26, 22]
def ref09_Alike_rs : List ResultVar := [.tmp 6]
def ref09_Alike_ts : List Nat := [4]
noncomputable def ref09_Alike_l6 (n m6 : Nat) (o2 : Int) (i7 : Int) (a3 : D) (b4 : D) : Tree :=
  evLoop Tryz.prog md (ev Tryz.prog md n ref09_Alike_orc (cAt (bodyOf Tryz.prog 33) [1, 1, 1, 0, 1, 0, 0])) (orcAt ref09_Alike_orc 6) m6 ⟨[.undef, .undef, .i .u64 o2, .ptr 3 [], .ptr 4 [], .undef, .undef, .i .i64 i7, .undef, .undef, .undef, .undef, .undef, .undef, .undef, .undef, .undef, .undef, .undef, .undef, .undef, .undef, .undef, .undef, .undef, .undef, .undef, .undef, .undef, .undef, .undef, .undef, .undef, .undef, .undef, .undef, .undef, .undef, .undef, .undef, .undef, .undef, .undef, .undef, .undef, .undef, .undef, .undef, .undef, .undef, .undef, .undef, .undef, .undef, .undef, .undef, .undef, .undef, .undef, .undef, .undef, .undef, .undef, .undef, .undef, .undef, .undef, .undef, .undef, .undef, .undef], [(3, .var 26 (.d 26 a3) true), (4, .var 26 (.d 26 b4) true)], [3, 4], [], []⟩
   (blockK 0 (seqK (joinE Tryz.prog md (joinAt ref09_Alike_orc (cAt (bodyOf Tryz.prog 33) [1, 1, 1, 1])) (ev Tryz.prog md n ref09_Alike_orc (cAt (bodyOf Tryz.prog 33) [1, 1, 1, 1]))) (retK Tryz.prog md (md 33) ref09_Alike_ps ref09_Alike_rs ref09_Alike_ts)))
theorem ref09_Alike_l6_succ (n m6 : Nat) (o2 : Int) (i7 : Int) (a3 : D) (b4 : D) : ref09_Alike_l6 n (m6 + 1) o2 i7 a3 b4 =
 .br (decide (i7 < (((a3.fld 2).els).length : Int))) (.br (decide (0 ≤ i7)) (.br (decide (i7 < (((a3.fld 2).els).length : Int))) (.br (decide (0 ≤ i7)) (.br (decide (i7 < (((b4.fld 2).els).length : Int))) (.call 91 [] [((a3.fld 2).els).getD (Int.toNat i7) D.nil, ((b4.fld 2).els).getD (Int.toNat i7) D.nil, D.int o2] fun yy8 =>
 .br (!((yy8.getD 0 D.nil).toBool)) (.ret [D.bool false])
 (ref09_Alike_l6 n m6 o2 (IntKind.wrap .i64 (i7 + 1)) a3 b4)) .fail) .fail) .fail) .fail)
 (.ret [D.bool true]) := by kernel_rfl
theorem ref09_Alike_tree (n : Nat) (a0 : D) (b1 : D) (o2 : D) : evFun Tryz.prog md ref09_Alike_orc n 33 [] [a0, b1, o2] =
 .call 90 [] [D.int ((a0.fld 0).toInt), D.int o2.toInt] fun yy1 =>
 .br (!((yy1.getD 0 D.nil).toBool)) (.call 90 [] [D.int ((a0.fld 0).toInt), D.int o2.toInt] fun yy2 =>
 .call 90 [] [D.int ((b1.fld 0).toInt), D.int o2.toInt] fun yy3 =>
 .ret [D.bool (((yy2.getD 0 D.nil).toBool) == ((yy3.getD 0 D.nil).toBool))])
 (.call 90 [] [D.int ((b1.fld 0).toInt), D.int o2.toInt] fun yy4 =>
 .br (!((yy4.getD 0 D.nil).toBool)) (.call 90 [] [D.int ((a0.fld 0).toInt), D.int o2.toInt] fun yy5 =>
 .call 90 [] [D.int ((b1.fld 0).toInt), D.int o2.toInt] fun yy6 =>
 .ret [D.bool (((yy5.getD 0 D.nil).toBool) == ((yy6.getD 0 D.nil).toBool))])
 (.br (((a0.fld 0).toInt) != ((b1.fld 0).toInt)) (.ret [D.bool false])
 (.call 17 [] [a0.fld 1, b1.fld 1] fun yy7 =>
 .br (!((yy7.getD 0 D.nil).toBool)) (.ret [D.bool false])
 (.br ((((a0.fld 2).els).length : Int) != (((b1.fld 2).els).length : Int)) (.ret [D.bool false])
 (ref09_Alike_l6 n n o2.toInt 0 a0 b1))))) := by kernel_rfl

/-! scrim/scrimref09.cells -/
def ref09_cells_orc : List (Nat × Orc) := [(6, ⟨[(2, none), (3, none), (4, none), (7, none)], [(3, true), (4, true)], []⟩)]
def ref09_cells_ps : List Nat := [66, 66, 22]
def ref09_cells_rs : List ResultVar := [.tmp 6]
def ref09_cells_ts : List Nat := [4]
noncomputable def ref09_cells_l6 (n m6 : Nat) (o2 : Int) (i7 : Int) (a3 : D) (b4 : D) : Tree :=
  evLoop Tryz.prog md (ev Tryz.prog md n ref09_cells_orc (cAt (bodyOf Tryz.prog 91) [1, 1, 1, 0, 1, 0, 0])) (orcAt ref09_cells_orc 6) m6 ⟨[.undef, .undef, .i .u64 o2, .ptr 3 [], .ptr 4 [], .undef, .undef, .i .i64 i7, .undef, .undef, .undef, .undef, .undef, .undef, .undef, .undef, .undef, .undef, .undef, .undef, .undef, .undef, .undef, .undef, .undef, .undef, .undef, .undef, .undef, .undef, .undef, .undef, .undef, .undef, .undef, .undef, .undef, .undef, .undef, .undef, .undef, .undef, .undef, .undef, .undef, .undef, .undef, .undef, .undef, .undef, .undef, .undef, .undef, .undef, .undef, .undef, .undef, .undef, .undef, .undef, .undef, .undef, .undef, .undef, .undef, .undef, .undef, .undef, .undef, .undef, .undef, .undef, .undef, .undef, .undef, .undef, .undef, .undef, .undef, .undef, .undef, .undef, .undef, .undef, .undef], [(3, .var 66 (.d 66 a3) true), (4, .var 66 (.d 66 b4) true)], [3, 4], [], []⟩
   (blockK 0 (seqK (joinE Tryz.prog md (joinAt ref09_cells_orc (cAt (bodyOf Tryz.prog 91) [1, 1, 1, 1])) (ev Tryz.prog md n ref09_cells_orc (cAt (bodyOf Tryz.prog 91) [1, 1, 1, 1]))) (retK Tryz.prog md (md 91) ref09_cells_ps ref09_cells_rs ref09_cells_ts)))
theorem ref09_cells_l6_succ (n m6 : Nat) (o2 : Int) (i7 : Int) (a3 : D) (b4 : D) : ref09_cells_l6 n (m6 + 1) o2 i7 a3 b4 =
 .br (decide (i7 < (((a3.fld 4).els).length : Int))) (.br (decide (0 ≤ i7)) (.br (decide (i7 < (((a3.fld 4).els).length : Int))) (.br (decide (0 ≤ i7)) (.br (decide (i7 < (((b4.fld 4).els).length : Int))) (.call 33 [] [((a3.fld 4).els).getD (Int.toNat i7) D.nil, ((b4.fld 4).els).getD (Int.toNat i7) D.nil, D.int o2] fun yy8 =>
 .br (!((yy8.getD 0 D.nil).toBool)) (.ret [D.bool false])
 (ref09_cells_l6 n m6 o2 (IntKind.wrap .i64 (i7 + 1)) a3 b4)) .fail) .fail) .fail) .fail)
 (.ret [D.bool true]) := by kernel_rfl
theorem ref09_cells_tree (n : Nat) (a0 : D) (b1 : D) (o2 : D) : evFun Tryz.prog md ref09_cells_orc n 91 [] [a0, b1, o2] =
 .call 90 [] [D.int ((a0.fld 0).toInt), D.int o2.toInt] fun yy1 =>
 .br (!((yy1.getD 0 D.nil).toBool)) (.call 90 [] [D.int ((a0.fld 0).toInt), D.int o2.toInt] fun yy2 =>
 .call 90 [] [D.int ((b1.fld 0).toInt), D.int o2.toInt] fun yy3 =>
 .ret [D.bool (((yy2.getD 0 D.nil).toBool) == ((yy3.getD 0 D.nil).toBool))])
 (.call 90 [] [D.int ((b1.fld 0).toInt), D.int o2.toInt] fun yy4 =>
 .br (!((yy4.getD 0 D.nil).toBool)) (.call 90 [] [D.int ((a0.fld 0).toInt), D.int o2.toInt] fun yy5 =>
 .call 90 [] [D.int ((b1.fld 0).toInt), D.int o2.toInt] fun yy6 =>
 .ret [D.bool (((yy5.getD 0 D.nil).toBool) == ((yy6.getD 0 D.nil).toBool))])
 (.br (((a0.fld 0).toInt) != ((b1.fld 0).toInt)) (.ret [D.bool false])
 (.br (((a0.fld 1).toInt) != ((b1.fld 1).toInt)) (.ret [D.bool false])
 (.br (((a0.fld 3).toInt) != ((b1.fld 3).toInt)) (.ret [D.bool false])
 (.call 30 [] [a0.fld 2, b1.fld 2] fun yy7 =>
 .br (!((yy7.getD 0 D.nil).toBool)) (.ret [D.bool false])
 (.br ((((a0.fld 4).els).length : Int) != (((b1.fld 4).els).length : Int)) (.ret [D.bool false])
 (ref09_cells_l6 n n o2.toInt 0 a0 b1))))))) := by kernel_rfl

end Go.Proofs.YtjmddikeadbmjaaGreat
set_option maxRecDepth 100000
namespace Go.Proofs.YtjmddikeadbmjaaGreat

/-- A loop that asks whether two lists are the same, as they are seen. -/
theorem same_loopF {α β : Type} {P : Program} {md : Nat → FMode} (φ : α → β) (a b : List α) (e : α → α → Bool) (he : ∀ x ∈ a, ∀ y, e x y = true ↔ φ x = φ y) (hlen : a.length = b.length) (r : Bool) (hr : r = true ↔ a.map φ = b.map φ) (L : Nat → Nat → Tree)
    (hend : ∀ m, ∀ Q : List D → Prop, Q [.bool true] → (L (m + 1) a.length).wp P md Q)
    (hstep : ∀ m k x y, ∀ Q : List D → Prop, a[k]? = some x → b[k]? = some y → (e x y = false → Q [.bool false]) → (e x y = true → (L m (k + 1)).wp P md Q) → (L (m + 1) k).wp P md Q) (N : Nat) (hN : a.length < N) : (L N 0).wp P md (fun zs => zs = [.bool r]) := by
  have key := loop_up (P := P) (md := md) a.length (fun m k (_ : Unit) => L m k) (fun _ _ => [.bool r]) (fun k _ => (a.take k).map φ = (b.take k).map φ)
    (fun m s h => by
      refine hend m _ ?_
      rw [List.take_of_length_le (Nat.le_refl _), List.take_of_length_le (by omega)] at h
      rw [hr.2 h])
    (fun m k s hk h ih => by
      have ha : a[k]? = some a[k] := List.getElem?_eq_getElem _
      have hb : b[k]? = some (b[k]'(by omega)) := List.getElem?_eq_getElem _
      refine hstep m k _ _ _ ha hb (fun hf => ?_) (fun ht => ih () ?_)
      · have : r = false := by
          cases hrr : r with
          | false => rfl
          | true =>
            have h2 := hr.1 hrr
            have h3 : (a.map φ)[k]? = (b.map φ)[k]? := by rw [h2]
            rw [List.getElem?_map, List.getElem?_map, ha, hb] at h3
            have h4 : φ a[k] = φ b[k] := by simpa using h3
            rw [(he a[k] (List.getElem_mem _) _).2 h4] at hf; cases hf
        rw [this]
      · have : φ a[k] = φ b[k] := (he a[k] (List.getElem_mem _) _).1 ht
        rw [List.take_succ_eq_append_getElem hk, List.take_succ_eq_append_getElem (by omega), List.map_append, List.map_append, h]
        simp [this])
    N 0 () (by omega) (by omega) (by simp)
  exact key
/-- As an array is seen: with labels, or without. -/
def gl (lb : Bool) (l : Lab) : Lab := if lb then l else 0
noncomputable def eqL (lb : Bool) (a b : Arr) : Bool := eqA (relA (gl lb) a) (relA (gl lb) b)
noncomputable def eqLC (lb : Bool) (a b : Cell) : Bool := eqC (relC (gl lb) a) (relC (gl lb) b)
theorem eqL_true (a b : Arr) : eqL true a b = eqA a b := by unfold eqL; rw [relA_id (gl true) (fun _ => rfl) a, relA_id (gl true) (fun _ => rfl) b]
noncomputable def pd (p : Prop) : Bool := @decide p (Classical.propDecidable _)
theorem pd_iff {p : Prop} : pd p = true ↔ p := @decide_eq_true_iff _ (Classical.propDecidable _)
theorem pd_not {p : Prop} (h : ¬ p) : pd p = false := @decide_eq_false _ (Classical.propDecidable _) h
theorem ite_max {o x : Nat} {z : Int} (h : z = (x : Int)) : (if (o : Int) < z then z else (o : Int)) = ((max o x : Nat) : Int) := by subst h; split <;> omega
theorem eqL_false (a b : Arr) : eqL false a b = matA a b := rfl
theorem eqL_iff {lb : Bool} {a b : Arr} : eqL lb a b = true ↔ relA (gl lb) a = relA (gl lb) b := eqA_iff
theorem eqLC_iff {lb : Bool} {a b : Cell} : eqLC lb a b = true ↔ relC (gl lb) a = relC (gl lb) b := eqC_iff
theorem eqLC_iff' {lb : Bool} {a b : Cell} : eqLC lb a b = true ↔ (gl lb a.l = gl lb b.l ∧ a.kind = b.kind ∧ a.c = b.c ∧ a.n = b.n ∧ a.inn.map (relA (gl lb)) = b.inn.map (relA (gl lb))) := by rw [eqLC_iff, relC_eq, relC_eq, cell_eq]
theorem eqL_iff' {lb : Bool} {a b : Arr} : eqL lb a b = true ↔ (gl lb a.s = gl lb b.s ∧ a.shape = b.shape ∧ a.cells.map (relC (gl lb)) = b.cells.map (relC (gl lb))) := by rw [eqL_iff, relA_eq, relA_eq, arr_eq]; simp
theorem bool_false {b : Bool} (h : ¬ b = true) : b = false := by cases b with | false => rfl | true => exact absurd rfl h
mutual
def depA : Arr → Nat
  | .mk s sh cs => if simpleA (.mk s sh cs) then 0 else depCs cs + 1
def depCs : List (CellF Arr) → Nat
  | [] => 0
  | c :: cs => max (depC c) (depCs cs)
def depC : CellF Arr → Nat
  | ⟨_, _, _, _, inn⟩ => depAs inn
def depAs : List Arr → Nat
  | [] => 0
  | a :: as_ => max (depA a) (depAs as_)
end
theorem depA_eq (a : Arr) : depA a = if simpleA a then 0 else depCs a.cells + 1 := by cases a; rw [depA]; rfl
theorem depC_eq (c : Cell) : depC c = depAs c.inn := by cases c; rw [depC]
theorem depCs_le {k : Nat} : ∀ {cs : List Cell}, (∀ c ∈ cs, depC c ≤ k) → depCs cs ≤ k
  | [], _ => by rw [depCs]; omega
  | c :: cs, h => by
    have h1 := h c (by simp)
    have h2 := depCs_le (fun x hx => h x (List.mem_cons_of_mem _ hx))
    rw [depCs]; omega
theorem depAs_le {k : Nat} : ∀ {as_ : List Arr}, (∀ a ∈ as_, depA a ≤ k) → depAs as_ ≤ k
  | [], _ => by rw [depAs]; omega
  | a :: as_, h => by
    have h1 := h a (by simp)
    have h2 := depAs_le (fun x hx => h x (List.mem_cons_of_mem _ hx))
    rw [depAs]; omega
theorem depC_mem : ∀ {cs : List Cell} {c : Cell}, c ∈ cs → depC c ≤ depCs cs
  | d :: cs, c, h => by
    rw [depCs]
    rcases List.mem_cons.1 h with rfl | h
    · omega
    · have := depC_mem h; omega
theorem depA_mem : ∀ {as_ : List Arr} {a : Arr}, a ∈ as_ → depA a ≤ depAs as_
  | d :: as_, a, h => by
    rw [depAs]
    rcases List.mem_cons.1 h with rfl | h
    · omega
    · have := depA_mem h; omega
theorem depA_sml : ∀ {d : Nat} {a : Arr}, Sml d a → depA a ≤ d
  | 0, _, h => h.elim
  | d + 1, a, h => by
    rw [depA_eq]
    have : depCs a.cells ≤ d := depCs_le (fun c hc => by rw [depC_eq]; exact depAs_le (fun x hx => depA_sml ((h.cell c hc).2.2.2 x hx)))
    split <;> omega
end Go.Proofs.YtjmddikeadbmjaaGreat
set_option maxRecDepth 100000
namespace Go.Proofs.YtjmddikeadbmjaaGreat

def allL : Lab := BitVec.allOnes 64
def secA : Arr := .mk allL [] []
def secC : Cell := ⟨allL, 0, .zero, 0, []⟩
mutual
def hidA (o : Lab) : Arr → Arr
  | .mk s sh cs => if flows s o then .mk s sh (hidCs o cs) else secA
def hidCs (o : Lab) : List (CellF Arr) → List (CellF Arr)
  | [] => []
  | c :: cs => hidC o c :: hidCs o cs
def hidC (o : Lab) : CellF Arr → CellF Arr
  | ⟨l, k, n, c, inn⟩ => if flows l o then ⟨l, k, n, c, hidAs o inn⟩ else secC
def hidAs (o : Lab) : List Arr → List Arr
  | [] => []
  | a :: as_ => hidA o a :: hidAs o as_
end
theorem hidCs_map (o : Lab) : ∀ cs, hidCs o cs = cs.map (hidC o)
  | [] => by simp [hidCs]
  | c :: cs => by simp [hidCs, hidCs_map o cs]
theorem hidAs_map (o : Lab) : ∀ as_, hidAs o as_ = as_.map (hidA o)
  | [] => by simp [hidAs]
  | a :: as_ => by simp [hidAs, hidAs_map o as_]
theorem hidA_eq (o : Lab) (a : Arr) : hidA o a = if flows a.s o then .mk a.s a.shape (a.cells.map (hidC o)) else secA := by cases a; rw [hidA, hidCs_map]; rfl
theorem hidC_eq (o : Lab) (c : Cell) : hidC o c = if flows c.l o then ⟨c.l, c.kind, c.n, c.c, c.inn.map (hidA o)⟩ else secC := by cases c; simp [hidC, hidAs_map]
theorem flows_or {a b o : Lab} : flows (a ||| b) o = (flows a o && flows b o) := by
  rw [Bool.eq_iff_iff, Bool.and_eq_true, flows_iff, flows_iff, flows_iff]
  constructor
  · exact fun h => ⟨fun t ht => h t (by simp [ht]), fun t ht => h t (by simp [ht])⟩
  · rintro ⟨h1, h2⟩ t ht
    simp only [BitVec.getLsbD_or, Bool.or_eq_true] at ht
    exact ht.elim (h1 t) (h2 t)
theorem flows_self (a : Lab) : flows a a = true := flows_iff.2 fun _ h => h
theorem flows_zero (o : Lab) : flows 0 o = true := flows_iff.2 fun t h => by simp at h
theorem flows_trans {a b c : Lab} (h : flows a b = true) (k : flows b c = true) : flows a c = true := flows_iff.2 fun t ht => flows_iff.1 k t (flows_iff.1 h t ht)
theorem flows_all {o : Lab} (h : flows allL o = true) (a : Lab) : flows a o = true := by
  rw [flows_64] at h ⊢
  intro t ht _
  exact h t ht (by unfold allL; rw [BitVec.getLsbD_allOnes]; exact decide_eq_true ht)
theorem hid_vis {o : Lab} {a : Arr} (h : flows a.s o = true) : hidA o a = .mk a.s a.shape (a.cells.map (hidC o)) := by rw [hidA_eq, if_pos h]
theorem hid_hid {o : Lab} {a : Arr} (h : flows a.s o = false) : hidA o a = secA := by rw [hidA_eq, if_neg (by simp [h])]
theorem hidC_vis {o : Lab} {c : Cell} (h : flows c.l o = true) : hidC o c = ⟨c.l, c.kind, c.n, c.c, c.inn.map (hidA o)⟩ := by rw [hidC_eq, if_pos h]
theorem hidC_hid {o : Lab} {c : Cell} (h : flows c.l o = false) : hidC o c = secC := by rw [hidC_eq, if_neg (by simp [h])]
/-- Two that are alike. -/
theorem alike_cases {o : Lab} {a b : Arr} (h : hidA o a = hidA o b) : (flows a.s o = false ∧ flows b.s o = false) ∨ (flows a.s o = true ∧ flows b.s o = true ∧ a.s = b.s ∧ a.shape = b.shape ∧ a.cells.map (hidC o) = b.cells.map (hidC o)) := by
  cases ha : flows a.s o <;> cases hb : flows b.s o
  · exact .inl ⟨rfl, rfl⟩
  · rw [hid_hid ha, hid_vis hb] at h
    have : allL = b.s := congrArg Arr.s h
    rw [← this] at hb
    rw [flows_all hb] at ha; cases ha
  · rw [hid_vis ha, hid_hid hb] at h
    have : a.s = allL := congrArg Arr.s h
    rw [this] at ha
    rw [flows_all ha] at hb; cases hb
  · rw [hid_vis ha, hid_vis hb, arr_eq] at h
    exact .inr ⟨rfl, rfl, h.1, h.2.1, h.2.2⟩
theorem alikeC_cases {o : Lab} {a b : Cell} (h : hidC o a = hidC o b) : (flows a.l o = false ∧ flows b.l o = false) ∨ (flows a.l o = true ∧ flows b.l o = true ∧ a.l = b.l ∧ a.kind = b.kind ∧ a.c = b.c ∧ a.n = b.n ∧ a.inn.map (hidA o) = b.inn.map (hidA o)) := by
  cases ha : flows a.l o <;> cases hb : flows b.l o
  · exact .inl ⟨rfl, rfl⟩
  · rw [hidC_hid ha, hidC_vis hb] at h
    have : allL = b.l := congrArg CellF.l h
    rw [← this] at hb
    rw [flows_all hb] at ha; cases ha
  · rw [hidC_vis ha, hidC_hid hb] at h
    have : a.l = allL := congrArg CellF.l h
    rw [this] at ha
    rw [flows_all ha] at hb; cases hb
  · rw [hidC_vis ha, hidC_vis hb, cell_eq] at h
    exact .inr ⟨rfl, rfl, h⟩
theorem alike_hid {o : Lab} {a b : Arr} (ha : flows a.s o = false) (hb : flows b.s o = false) : hidA o a = hidA o b := by rw [hid_hid ha, hid_hid hb]
theorem alike_vis {o : Lab} {a b : Arr} (h1 : a.s = b.s) (h2 : a.shape = b.shape) (h3 : a.cells.map (hidC o) = b.cells.map (hidC o)) : hidA o a = hidA o b := by rw [hidA_eq, hidA_eq, h1, h2, h3]
theorem alikeC_hid {o : Lab} {a b : Cell} (ha : flows a.l o = false) (hb : flows b.l o = false) : hidC o a = hidC o b := by rw [hidC_hid ha, hidC_hid hb]
theorem alikeC_vis {o : Lab} {a b : Cell} (h1 : a.l = b.l) (h2 : a.kind = b.kind) (h3 : a.c = b.c) (h4 : a.n = b.n) (h5 : a.inn.map (hidA o) = b.inn.map (hidA o)) : hidC o a = hidC o b := by rw [hidC_eq, hidC_eq, h1, h2, h3, h4, h5]
noncomputable def alk (o : Lab) (a b : Arr) : Bool := eqA (hidA o a) (hidA o b)
noncomputable def alkC (o : Lab) (a b : Cell) : Bool := eqC (hidC o a) (hidC o b)
theorem alk_iff {o : Lab} {a b : Arr} : alk o a b = true ↔ hidA o a = hidA o b := eqA_iff
theorem alkC_iff {o : Lab} {a b : Cell} : alkC o a b = true ↔ hidC o a = hidC o b := eqC_iff
theorem alk_any {o : Lab} {a b : Arr} (h : ¬ (flows a.s o = true ∧ flows b.s o = true)) : alk o a b = (flows a.s o == flows b.s o) := by
  rw [Bool.eq_iff_iff, alk_iff, beq_iff_eq]
  constructor
  · intro hh
    rcases alike_cases hh with ⟨h1, h2⟩ | ⟨h1, h2, _⟩
    · rw [h1, h2]
    · exact absurd ⟨h1, h2⟩ h
  · intro hh
    cases ha : flows a.s o with
    | true => exact absurd ⟨ha, hh.symm.trans ha⟩ h
    | false => exact alike_hid ha (hh.symm.trans ha)
theorem alkC_any {o : Lab} {a b : Cell} (h : ¬ (flows a.l o = true ∧ flows b.l o = true)) : alkC o a b = (flows a.l o == flows b.l o) := by
  rw [Bool.eq_iff_iff, alkC_iff, beq_iff_eq]
  constructor
  · intro hh
    rcases alikeC_cases hh with ⟨h1, h2⟩ | ⟨h1, h2, _⟩
    · rw [h1, h2]
    · exact absurd ⟨h1, h2⟩ h
  · intro hh
    cases ha : flows a.l o with
    | true => exact absurd ⟨ha, hh.symm.trans ha⟩ h
    | false => exact alikeC_hid ha (hh.symm.trans ha)
theorem alk_both {o : Lab} {a b : Arr} (ha : flows a.s o = true) : alk o a b = true ↔ (a.s = b.s ∧ a.shape = b.shape ∧ a.cells.map (hidC o) = b.cells.map (hidC o)) := by
  rw [alk_iff]
  constructor
  · intro hh
    rcases alike_cases hh with ⟨h1, h2⟩ | ⟨_, _, h⟩
    · rw [ha] at h1; cases h1
    · exact h
  · exact fun h => alike_vis h.1 h.2.1 h.2.2
theorem alkC_both {o : Lab} {a b : Cell} (ha : flows a.l o = true) : alkC o a b = true ↔ (a.l = b.l ∧ a.kind = b.kind ∧ a.c = b.c ∧ a.n = b.n ∧ a.inn.map (hidA o) = b.inn.map (hidA o)) := by
  rw [alkC_iff]
  constructor
  · intro hh
    rcases alikeC_cases hh with ⟨h1, h2⟩ | ⟨_, _, h⟩
    · rw [ha] at h1; cases h1
    · exact h
  · exact fun h => alikeC_vis h.1 h.2.1 h.2.2.1 h.2.2.2.1 h.2.2.2.2
theorem ref09_Alike_sp (o : Lab) : ∀ (d : Nat) (a b : Arr), Sml d a → Sp 33 [dA a, dA b, dB o] [.bool (alk o a b)]
  | 0, _, _, h => h.elim
  | d + 1, a, b, h => by
    have hcell : ∀ (x y : Cell), SmlC d x → Sp 91 [dC x, dC y, dB o] [.bool (alkC o x y)] := fun x y hx => by
      have hlx := hx.2.2.1
      refine sound_ (x.inn.length + 1) (ref09_cells_tree _ _ _ _) ?_
      simp only [dA_0, dA_1, dA_2, dC_0, dC_1, dC_2, dC_3, dC_4, dN_0, dN_1, dN_2, els_sl, els_dI, els_dL, List.length_map, Int.toNat_natCast, toInt_int, toInt_dB, toBool_bool, getD_c0, getD_c1, int_beq, int_bne, not_dec, dInt_dB, Int.toNat_zero]
      refine wp_call (ref01_Flows_sp x.l o) (wp_br (fun h1 => ?_) (fun h1 => wp_call (ref01_Flows_sp y.l o) (wp_br (fun h2 => ?_) (fun h2 => ?_))))
      · have h1' : flows x.l o = false := by simpa using h1
        refine wp_call (ref01_Flows_sp x.l o) (wp_call (ref01_Flows_sp y.l o) (wp_ret ?_))
        rw [alkC_any (by rw [h1']; simp)]; rfl
      · have h2' : flows y.l o = false := by simpa using h2
        refine wp_call (ref01_Flows_sp x.l o) (wp_call (ref01_Flows_sp y.l o) (wp_ret ?_))
        rw [alkC_any (by rw [h2']; simp)]; rfl
      have h1' : flows x.l o = true := by simpa using h1
      have hb := alkC_both (b := y) h1'
      refine wp_decs (fun h => wp_ret ?_) (fun h3 => wp_decs (fun h => wp_ret ?_) (fun h4 => wp_decs (fun h => wp_ret ?_) (fun h5 => wp_call (ref04_Same_sp x.n y.n hx.fits.1 hx.fits.2.1) ?_)))
      · rw [bool_false (b := alkC o x y) (fun hh => h (by rw [(hb.1 hh).1]))]
      · rw [bool_false (b := alkC o x y) (fun hh => h (hb.1 hh).2.1)]
      · rw [bool_false (b := alkC o x y) (fun hh => h (hb.1 hh).2.2.1)]
      simp only [getD_c0, toBool_bool, not_dec]
      refine wp_decs (fun h => wp_ret ?_) (fun h6 => wp_decs (fun h => wp_ret ?_) (fun h7 => ?_))
      · rw [bool_false (b := alkC o x y) (fun hh => h (hb.1 hh).2.2.2.1)]
      · rw [bool_false (b := alkC o x y) (fun hh => h (by have := congrArg List.length (hb.1 hh).2.2.2.2; simp at this; omega))]
      refine same_loopF (P := Tryz.prog) (md := md) (hidA o) x.inn y.inn (alk o) (fun p _ q => alk_iff) (by omega) (alkC o x y) ?_ (fun m k => ref09_cells_l6 (x.inn.length + 1) m (o.toNat : Int) (k : Int) (dC x) (dC y)) ?_ ?_ (x.inn.length + 1) (by omega)
      · rw [hb]
        exact ⟨fun hh => hh.2.2.2.2, fun hh => ⟨BitVec.eq_of_toNat_eq (by omega), Classical.not_not.1 h4, Classical.not_not.1 h5, Classical.not_not.1 h6, hh⟩⟩
      · intro m Q hQ
        simp only [ref09_cells_l6_succ, dA_0, dA_1, dA_2, dC_0, dC_1, dC_2, dC_3, dC_4, dN_0, dN_1, dN_2, els_sl, els_dI, els_dL, List.length_map, Int.toNat_natCast, toInt_int, toInt_dB, toBool_bool, getD_c0, getD_c1, int_beq, int_bne, not_dec, dInt_dB, Int.toNat_zero]
        exact wp_ndec (by omega) (wp_ret hQ)
      · intro m k p q Q hp hq hF hT
        have hk : k < x.inn.length := (List.getElem?_eq_some_iff.1 hp).1
        simp only [ref09_cells_l6_succ, dA_0, dA_1, dA_2, dC_0, dC_1, dC_2, dC_3, dC_4, dN_0, dN_1, dN_2, els_sl, els_dI, els_dL, List.length_map, Int.toNat_natCast, toInt_int, toInt_dB, toBool_bool, getD_c0, getD_c1, int_beq, int_bne, not_dec, dInt_dB, Int.toNat_zero, getD_map hp, getD_map hq, wrap_succ (show k < 9223372036854775807 by omega)]
        repeat (refine wp_dec (by omega) ?_)
        refine wp_call (ref09_Alike_sp o d p q (hx.2.2.2 p (List.mem_of_getElem? hp))) ?_
        simp only [getD_c0, toBool_bool]
        exact wp_br (fun h => wp_ret (hF (by simpa using h))) (fun h => hT (by simpa using h))
    have hla := h.2.1
    refine sound_ (a.cells.length + 1) (ref09_Alike_tree _ _ _ _) ?_
    simp only [dA_0, dA_1, dA_2, dC_0, dC_1, dC_2, dC_3, dC_4, dN_0, dN_1, dN_2, els_sl, els_dI, els_dL, List.length_map, Int.toNat_natCast, toInt_int, toInt_dB, toBool_bool, getD_c0, getD_c1, int_beq, int_bne, not_dec, dInt_dB, Int.toNat_zero]
    refine wp_call (ref01_Flows_sp a.s o) (wp_br (fun h1 => ?_) (fun h1 => wp_call (ref01_Flows_sp b.s o) (wp_br (fun h2 => ?_) (fun h2 => ?_))))
    · have h1' : flows a.s o = false := by simpa using h1
      refine wp_call (ref01_Flows_sp a.s o) (wp_call (ref01_Flows_sp b.s o) (wp_ret ?_))
      rw [alk_any (by rw [h1']; simp)]; rfl
    · have h2' : flows b.s o = false := by simpa using h2
      refine wp_call (ref01_Flows_sp a.s o) (wp_call (ref01_Flows_sp b.s o) (wp_ret ?_))
      rw [alk_any (by rw [h2']; simp)]; rfl
    have h1' : flows a.s o = true := by simpa using h1
    have hb := alk_both (b := b) h1'
    refine wp_decs (fun h => wp_ret ?_) (fun h3 => wp_call (ref07_Ints_sp a.shape b.shape (by have := h.1; omega)) ?_)
    · rw [bool_false (b := alk o a b) (fun hh => h (by rw [(hb.1 hh).1]))]
    simp only [getD_c0, toBool_bool, not_dec]
    refine wp_decs (fun h => wp_ret ?_) (fun h4 => wp_decs (fun h => wp_ret ?_) (fun h5 => ?_))
    · rw [bool_false (b := alk o a b) (fun hh => h (hb.1 hh).2.1)]
    · rw [bool_false (b := alk o a b) (fun hh => h (by have := congrArg List.length (hb.1 hh).2.2; simp at this; omega))]
    refine same_loopF (P := Tryz.prog) (md := md) (hidC o) a.cells b.cells (alkC o) (fun p _ q => alkC_iff) (by omega) (alk o a b) ?_ (fun m k => ref09_Alike_l6 (a.cells.length + 1) m (o.toNat : Int) (k : Int) (dA a) (dA b)) ?_ ?_ (a.cells.length + 1) (by omega)
    · rw [hb]
      exact ⟨fun hh => hh.2.2, fun hh => ⟨BitVec.eq_of_toNat_eq (by omega), Classical.not_not.1 h4, hh⟩⟩
    · intro m Q hQ
      simp only [ref09_Alike_l6_succ, dA_0, dA_1, dA_2, dC_0, dC_1, dC_2, dC_3, dC_4, dN_0, dN_1, dN_2, els_sl, els_dI, els_dL, List.length_map, Int.toNat_natCast, toInt_int, toInt_dB, toBool_bool, getD_c0, getD_c1, int_beq, int_bne, not_dec, dInt_dB, Int.toNat_zero]
      exact wp_ndec (by omega) (wp_ret hQ)
    · intro m k p q Q hp hq hF hT
      have hk : k < a.cells.length := (List.getElem?_eq_some_iff.1 hp).1
      simp only [ref09_Alike_l6_succ, dA_0, dA_1, dA_2, dC_0, dC_1, dC_2, dC_3, dC_4, dN_0, dN_1, dN_2, els_sl, els_dI, els_dL, List.length_map, Int.toNat_natCast, toInt_int, toInt_dB, toBool_bool, getD_c0, getD_c1, int_beq, int_bne, not_dec, dInt_dB, Int.toNat_zero, getD_map hp, getD_map hq, wrap_succ (show k < 9223372036854775807 by omega)]
      repeat (refine wp_dec (by omega) ?_)
      refine wp_call (hcell p q (h.cell p (List.mem_of_getElem? hp))) ?_
      simp only [getD_c0, toBool_bool]
      exact wp_br (fun h => wp_ret (hF (by simpa using h))) (fun h => hT (by simpa using h))
/-- All labels joined. -/
theorem totAs_or (as_ : List Arr) (x y : Lab) : as_.foldl (fun l a => l ||| totA a) (x ||| y) = x ||| as_.foldl (fun l a => l ||| totA a) y := by
  induction as_ generalizing y with
  | nil => rfl
  | cons a as_ ih => simp only [List.foldl_cons]; rw [BitVec.or_assoc, ih]
theorem totC_or (x y : Lab) (c : Cell) : totC (x ||| y) c = x ||| totC y c := by rw [totC_eq, totC_eq, BitVec.or_assoc, totAs_or]
theorem totCs_or (cs : List Cell) (x y : Lab) : cs.foldl totC (x ||| y) = x ||| cs.foldl totC y := by
  induction cs generalizing y with
  | nil => rfl
  | cons c cs ih => simp only [List.foldl_cons]; rw [totC_or, ih]
theorem totA_raise (a : Arr) (l : Lab) : totA (raiseA a l) = l ||| totA a := by rw [totA_eq, totA_eq]; show a.cells.foldl totC (a.s ||| l) = _; rw [BitVec.or_comm, totCs_or]
theorem flows_foldA {o : Lab} : ∀ {as_ : List Arr} {x : Lab}, flows (as_.foldl (fun l a => l ||| totA a) x) o = true ↔ (flows x o = true ∧ ∀ a ∈ as_, flows (totA a) o = true)
  | [], x => by simp
  | a :: as_, x => by
    simp only [List.foldl_cons]
    rw [flows_foldA, flows_or, Bool.and_eq_true]
    simp only [List.mem_cons, forall_eq_or_imp]
    exact and_assoc
theorem flows_totC {o x : Lab} {c : Cell} : flows (totC x c) o = true ↔ (flows x o = true ∧ flows c.l o = true ∧ ∀ a ∈ c.inn, flows (totA a) o = true) := by
  rw [totC_eq, flows_foldA, flows_or, Bool.and_eq_true]; exact and_assoc
theorem flows_foldC {o : Lab} : ∀ {cs : List Cell} {x : Lab}, flows (cs.foldl totC x) o = true ↔ (flows x o = true ∧ ∀ c ∈ cs, flows c.l o = true ∧ ∀ a ∈ c.inn, flows (totA a) o = true)
  | [], x => by simp
  | c :: cs, x => by
    simp only [List.foldl_cons]
    rw [flows_foldC, flows_totC]
    simp only [List.mem_cons, forall_eq_or_imp]
    exact ⟨fun h => ⟨h.1.1, h.1.2, h.2⟩, fun h => ⟨⟨h.1, h.2.1⟩, h.2.2⟩⟩
theorem flows_totA {o : Lab} {a : Arr} : flows (totA a) o = true ↔ (flows a.s o = true ∧ ∀ c ∈ a.cells, flows c.l o = true ∧ ∀ x ∈ c.inn, flows (totA x) o = true) := by rw [totA_eq, flows_foldC]
/-- Where all is seen, nothing is hidden. -/
theorem hid_total {o : Lab} {a : Arr} : flows (totA a) o = true → hidA o a = a := by
  induction a using Arr.ind with
  | h s sh cs IH =>
    intro h
    obtain ⟨h1, h2⟩ := flows_totA.1 h
    rw [hid_vis h1]
    have : cs.map (hidC o) = cs := by
      conv => rhs; rw [← List.map_id cs]
      refine List.map_congr_left (fun c hc => ?_)
      obtain ⟨g1, g2⟩ := h2 c hc
      rw [hidC_vis g1]
      have : c.inn.map (hidA o) = c.inn := by
        conv => rhs; rw [← List.map_id c.inn]
        exact List.map_congr_left (fun x hx => IH c hc x hx (g2 x hx))
      rw [this]; rfl
    show Arr.mk s sh (cs.map (hidC o)) = _
    rw [this]
theorem total_hid {o : Lab} {a : Arr} : flows (totA (hidA o a)) o = true → hidA o a = a := by
  induction a using Arr.ind with
  | h s sh cs IH =>
    intro h
    cases hs : flows (Arr.mk s sh cs).s o with
    | false =>
      rw [hid_hid hs] at h
      have := flows_all (flows_totA.1 h).1 (Arr.mk s sh cs).s
      rw [hs] at this; cases this
    | true =>
      rw [hid_vis hs] at h ⊢
      obtain ⟨_, h2⟩ := flows_totA.1 h
      have : cs.map (hidC o) = cs := by
        conv => rhs; rw [← List.map_id cs]
        refine List.map_congr_left (fun c hc => ?_)
        obtain ⟨g1, g2⟩ := h2 (hidC o c) (List.mem_map.2 ⟨c, hc, rfl⟩)
        cases hl : flows c.l o with
        | false =>
          rw [hidC_hid hl] at g1
          have := flows_all g1 c.l
          rw [hl] at this; cases this
        | true =>
          rw [hidC_vis hl] at g2 ⊢
          have : c.inn.map (hidA o) = c.inn := by
            conv => rhs; rw [← List.map_id c.inn]
            exact List.map_congr_left (fun x hx => IH c hc x hx (g2 (hidA o x) (List.mem_map.2 ⟨x, hx, rfl⟩)))
          rw [this]; rfl
      show Arr.mk s sh (cs.map (hidC o)) = _
      rw [this]
/-- Alike, and all seen: the same. -/
theorem alike_total {o : Lab} {a b : Arr} (h : hidA o a = hidA o b) (ht : flows (totA a) o = true) : a = b := by
  have h1 := hid_total ht
  rw [h1] at h
  rw [h] at ht
  rw [h]; exact total_hid ht
theorem alike_totals {o : Lab} {a b : Arr} (h : hidA o a = hidA o b) : a = b ∨ (flows (totA a) o = false ∧ flows (totA b) o = false) := by
  cases ha : flows (totA a) o with
  | true => exact .inl (alike_total h ha)
  | false =>
    cases hb : flows (totA b) o with
    | true => exact .inl (alike_total h.symm hb).symm
    | false => exact .inr ⟨rfl, rfl⟩
theorem raise_alike {o l : Lab} {a b : Arr} (h : hidA o a = hidA o b) : hidA o (raiseA a l) = hidA o (raiseA b l) := by
  rcases alike_cases h with ⟨h1, h2⟩ | ⟨h1, h2, h3, h4, h5⟩
  · exact alike_hid (by show flows (a.s ||| l) o = false; rw [flows_or, h1]; rfl) (by show flows (b.s ||| l) o = false; rw [flows_or, h2]; rfl)
  · exact alike_vis (by show a.s ||| l = b.s ||| l; rw [h3]) h4 h5
theorem raise_hid {o l : Lab} {a b : Arr} {m : Lab} (h1 : flows l o = false) (h2 : flows m o = false) : hidA o (raiseA a l) = hidA o (raiseA b m) :=
  alike_hid (by show flows (a.s ||| l) o = false; rw [flows_or, h1, Bool.and_false]) (by show flows (b.s ||| m) o = false; rw [flows_or, h2, Bool.and_false])
theorem unpC_alike {o : Lab} {c d : Cell} (h : hidC o c = hidC o d) : hidA o (unpC c) = hidA o (unpC d) := by
  rcases alikeC_cases h with ⟨h1, h2⟩ | ⟨h1, h2, h3, h4, h5, h6, h7⟩
  · have hu : ∀ x : Cell, flows x.l o = false → flows (unpC x).s o = false := fun x hx => by
      unfold unpC
      split
      · split
        · show flows (_ ||| x.l) o = false; rw [flows_or, hx, Bool.and_false]
        · exact hx
      · exact hx
    exact alike_hid (hu c h1) (hu d h2)
  · have hl : c.inn.length = d.inn.length := by have := congrArg List.length h7; simpa using this
    by_cases hb : c.kind = 2 ∧ c.inn.length = 1
    · obtain ⟨x, hx⟩ := len_one hb.2
      obtain ⟨y, hy⟩ := len_one (hl ▸ hb.2)
      rw [unpC_pos hb.1 hx, unpC_pos (h4 ▸ hb.1) hy, h3]
      rw [hx, hy] at h7
      exact raise_alike (by simpa using h7)
    · rw [unpC_neg hb, unpC_neg (by rw [← h4, ← hl]; exact hb)]
      exact alike_vis h3 rfl (by simpa using h)
end Go.Proofs.YtjmddikeadbmjaaGreat
set_option maxRecDepth 100000
namespace Go.Proofs.YtjmddikeadbmjaaGreat

theorem twoCs_len {g : Nat → Cell × Int} : ∀ {m k : Nat}, (twoCs g m k).2 = 0 → (twoCs g m k).1.length = m
  | 0, _, _ => by simp [twoCs]
  | m + 1, k, h => by
    rw [twoCs] at h ⊢
    split at h
    · rename_i h1
      rw [if_pos h1]
      split at h
      · rename_i h2; rw [if_pos h2]; simp [twoCs_len h2]
      · rename_i h2; exact absurd h h2
    · rename_i h1; exact absurd h h1
theorem twoCs_mem {g : Nat → Cell × Int} : ∀ {m k : Nat}, (twoCs g m k).2 = 0 → ∀ y ∈ (twoCs g m k).1, ∃ i, k ≤ i ∧ i < k + m ∧ (g i).2 = 0 ∧ y = (g i).1
  | 0, _, _, y, hy => by simp [twoCs] at hy
  | m + 1, k, h, y, hy => by
    rw [twoCs] at h hy
    split at h
    · rename_i h1
      rw [if_pos h1] at hy
      split at h
      · rename_i h2
        rw [if_pos h2] at hy
        rcases List.mem_cons.1 hy with rfl | hy
        · exact ⟨k, by omega, by omega, h1, rfl⟩
        · obtain ⟨i, g1, g2, g3⟩ := twoCs_mem h2 y hy
          exact ⟨i, by omega, by omega, g3⟩
      · rename_i h2; exact absurd h h2
    · rename_i h1; exact absurd h h1
/-- It is told without an error: so it is made. -/
theorem twoG_ok {r : Arr → Arr → Arr × Int} {f : Int} {a b : Arr} (h : (twoG r f a b).2 = 0) : f ∈ twosL ∧ (confA a b).2 = 0 ∧ (twoCs (fun i => twoC r f (pickZ a i) (pickZ b i)) (cntA a b) 0).2 = 0 ∧ (twoG r f a b).1 = .mk (a.s ||| b.s) (confA a b).1 (twoCs (fun i => twoC r f (pickZ a i) (pickZ b i)) (cntA a b) 0).1 := by
  unfold twoG at h ⊢
  split at h
  · rename_i h1
    split at h
    · rename_i h2
      split at h
      · rename_i h3
        rw [if_pos h1, if_pos h2, if_pos h3]
        exact ⟨h1, h2, h3, rfl⟩
      · rename_i h3; exact absurd h h3
    · rename_i h2; exact absurd h h2
  · cases h
theorem conf_nil {a b : Arr} (hc : (confA a b).2 = 0) (h : (confA a b).1 = []) : a.shape = [] ∧ b.shape = [] := by
  unfold confA at hc h
  by_cases h1 : a.shape = []
  · rw [if_pos h1] at h; exact ⟨h1, h⟩
  · rw [if_neg h1] at hc h
    by_cases h2 : b.shape = []
    · rw [if_pos h2] at h; exact absurd h h1
    · rw [if_neg h2] at hc h
      split at hc
      · cases hc
      · rename_i h3
        rw [if_neg h3] at h
        split at hc
        · rename_i h4; rw [if_pos h4] at h; exact absurd h h1
        · cases hc
theorem simple_kind {a : Arr} {c : Cell} (hs : a.shape = []) (hc : a.cells = [c]) (h : simpleA a = false) : c.kind = 2 := by
  rcases Decidable.em (c.kind = 2) with hh | hh
  · exact hh
  · have := (simple_iff a).2 ⟨hs, c, hc, hh⟩
    rw [h] at this; cases this
theorem pick_one {a : Arr} {c : Cell} (hs : a.shape = []) (hc : a.cells = [c]) (i : Int) : pickZ a i = c := by
  unfold pickZ
  rw [if_pos hs, if_neg (by rw [hc]; simp), hc]; rfl
theorem twoG_right {r : Arr → Arr → Arr × Int} {f : Int} {d : Nat} {a b : Arr} (ih : ∀ e, d = e + 1 → ∀ X Y, rightA e X = true → rightA e Y = true → (r X Y).2 = 0 → rightA e (r X Y).1 = true ∧ (simpleA X = false ∨ simpleA Y = false → simpleA (r X Y).1 = false))
    (ha : rightA d a = true) (hb : rightA d b = true) (h : (twoG r f a b).2 = 0) : rightA d (twoG r f a b).1 = true ∧ (simpleA a = false ∨ simpleA b = false → simpleA (twoG r f a b).1 = false) := by
  obtain ⟨h1, h2, h3, h4⟩ := twoG_ok h
  rw [h4]
  refine ⟨rightA_of (by simp only [Arr.shape_mk, Arr.cells_mk, twoCs_len h3]; exact conf_count ha hb h2) (fun y hy => ?_), fun hn => ?_⟩
  · obtain ⟨i, _, hi, g1, rfl⟩ := twoCs_mem h3 y hy
    obtain ⟨p1, p2⟩ := pick_in ha hb h2 (i := i) (by omega)
    have r1 := (rightA_cells ha).2 _ p1
    have r2 := (rightA_cells hb).2 _ p2
    replace g1 : (twoC r f (pickZ a (i : Int)) (pickZ b (i : Int))).2 = 0 := g1
    show rightC d (twoC r f (pickZ a (i : Int)) (pickZ b (i : Int))).1 = true
    generalize pickZ a (i : Int) = x at *
    generalize pickZ b (i : Int) = z at *
    unfold twoC at g1 ⊢
    by_cases k1 : x.kind = 2 ∨ z.kind = 2
    · rw [if_pos k1] at g1 ⊢
      cases d with
      | zero => rcases k1 with k1 | k1; exact absurd k1 (not_box r1); exact absurd k1 (not_box r2)
      | succ e =>
        obtain ⟨c1, _, c2, _⟩ := contC_right r1
        obtain ⟨c3, _, c4, _⟩ := contC_right r2
        obtain ⟨q1, q2⟩ := ih e rfl _ _ c1 c3 g1
        exact rightC_box (q2 (k1.imp c2 c4)) q1
    · rw [if_neg k1] at g1 ⊢
      by_cases k2 : x.kind = 0 ∧ z.kind = 0
      · rw [if_pos k2] at g1 ⊢
        obtain ⟨_, _, rx⟩ := rn_of (num_is r1 k2.1)
        obtain ⟨_, _, ry⟩ := rn_of (num_is r2 k2.2)
        obtain ⟨_, _, rr⟩ := twoN_rn f rx ry g1
        exact rightC_num rr.right
      · rw [if_neg k2] at g1 ⊢
        by_cases k3 : f = 61
        · rw [if_pos k3]
          obtain ⟨_, hz⟩ := truN_rn (decide (x.kind = z.kind ∧ x.c = z.c))
          exact rightC_num hz.right
        · rw [if_neg k3] at g1 ⊢
          by_cases k4 : f = 8800
          · rw [if_pos k4]
            obtain ⟨_, hz⟩ := truN_rn (decide (¬ (x.kind = z.kind ∧ x.c = z.c)))
            exact rightC_num hz.right
          · rw [if_neg k4] at g1; cases g1
  · cases hq : simpleA (Arr.mk (a.s ||| b.s) (confA a b).1 (twoCs (fun i => twoC r f (pickZ a i) (pickZ b i)) (cntA a b) 0).1) with
    | false => rfl
    | true =>
      exfalso
      obtain ⟨q1, c', q2, q3⟩ := (simple_iff _).1 hq
      simp only [Arr.shape_mk, Arr.cells_mk] at q1 q2
      obtain ⟨s1, s2⟩ := conf_nil h2 q1
      obtain ⟨cx, hx⟩ := right_nil ha s1
      obtain ⟨cy, hy⟩ := right_nil hb s2
      obtain ⟨i, _, _, _, e1⟩ := twoCs_mem h3 c' (by rw [q2]; simp)
      simp only [pick_one s1 hx, pick_one s2 hy] at e1
      apply q3
      rw [e1]
      unfold twoC
      rw [if_pos (hn.imp (simple_kind s1 hx) (simple_kind s2 hy))]
theorem twoA_right (f : Int) : ∀ (d : Nat) (a b : Arr), rightA d a = true → rightA d b = true → (twoA d f a b).2 = 0 → rightA d (twoA d f a b).1 = true ∧ (simpleA a = false ∨ simpleA b = false → simpleA (twoA d f a b).1 = false)
  | 0, a, b, ha, hb, h => twoG_right (fun e he => by omega) ha hb h
  | d + 1, a, b, ha, hb, h => twoG_right (fun e he => by
      have : e = d := by omega
      subst this
      exact twoA_right f e) ha hb h
end Go.Proofs.YtjmddikeadbmjaaGreat
set_option maxRecDepth 100000
namespace Go.Proofs.YtjmddikeadbmjaaGreat
/-! scrim/scrimlaw10.ScalarTwo -/
def law10_ScalarTwo_orc : List (Nat × Orc) := []
theorem law10_ScalarTwo_tree (n : Nat) (f0 : D) (a1 : D) (b2 : D) : evFun Tryz.prog md law10_ScalarTwo_orc n 3 [] [f0, a1, b2] =
 .call 7 [] [a1] fun yy1 =>
 .br (!((yy1.getD 0 D.nil).toBool)) (.call 10 [] [] fun yy2 =>
 .ret [D.bool ((yy2.getD 0 D.nil).toBool)])
 (.call 7 [] [b2] fun yy3 =>
 .br (!((yy3.getD 0 D.nil).toBool)) (.call 10 [] [] fun yy4 =>
 .ret [D.bool ((yy4.getD 0 D.nil).toBool)])
 (.call 8 [] [a1] fun yy5 =>
 .br (!((yy5.getD 0 D.nil).toBool)) (.call 10 [] [] fun yy6 =>
 .ret [D.bool ((yy6.getD 0 D.nil).toBool)])
 (.call 8 [] [b2] fun yy7 =>
 .br (!((yy7.getD 0 D.nil).toBool)) (.call 10 [] [] fun yy8 =>
 .ret [D.bool ((yy8.getD 0 D.nil).toBool)])
 (.br (f0.toInt == 42) (.call 9 [] [b2] fun yy9 =>
 .br (!((yy9.getD 0 D.nil).toBool)) (.call 10 [] [] fun yy10 =>
 .ret [D.bool ((yy10.getD 0 D.nil).toBool)])
 (.call 11 [] [D.int f0.toInt, a1, b2] fun yy11 =>
 .call 12 [] [D.int f0.toInt, a1, b2] fun yy12 =>
 .call 13 [] [a1, b2] fun yy13 =>
 .call 14 [] [a1, b2] fun yy14 =>
 .call 15 [] [yy11.getD 0 D.nil, D.int ((yy11.getD 1 D.nil).toInt), yy12.getD 0 D.nil, D.int ((yy12.getD 1 D.nil).toInt)] fun yy15 =>
 .br ((yy15.getD 0 D.nil).toBool) (.br (((yy11.getD 1 D.nil).toInt) != 0) (.call 17 [] [yy13.getD 0 D.nil, yy14.getD 0 D.nil] fun yy16 =>
 .br ((yy16.getD 0 D.nil).toBool) (.br (((yy13.getD 1 D.nil).toInt) == ((yy14.getD 1 D.nil).toInt)) (.call 10 [] [] fun yy17 =>
 .ret [D.bool ((yy17.getD 0 D.nil).toBool)])
 (.ret [D.bool false]))
 (.ret [D.bool false]))
 (.call 16 [] [yy11.getD 0 D.nil, D.int 8] fun yy18 =>
 .br ((yy18.getD 0 D.nil).toBool) (.call 17 [] [yy13.getD 0 D.nil, yy14.getD 0 D.nil] fun yy19 =>
 .br ((yy19.getD 0 D.nil).toBool) (.br (((yy13.getD 1 D.nil).toInt) == ((yy14.getD 1 D.nil).toInt)) (.call 10 [] [] fun yy20 =>
 .ret [D.bool ((yy20.getD 0 D.nil).toBool)])
 (.ret [D.bool false]))
 (.ret [D.bool false]))
 (.ret [D.bool false])))
 (.ret [D.bool false])))
 (.call 11 [] [D.int f0.toInt, a1, b2] fun yy21 =>
 .call 12 [] [D.int f0.toInt, a1, b2] fun yy22 =>
 .call 13 [] [a1, b2] fun yy23 =>
 .call 14 [] [a1, b2] fun yy24 =>
 .call 15 [] [yy21.getD 0 D.nil, D.int ((yy21.getD 1 D.nil).toInt), yy22.getD 0 D.nil, D.int ((yy22.getD 1 D.nil).toInt)] fun yy25 =>
 .br ((yy25.getD 0 D.nil).toBool) (.br (((yy21.getD 1 D.nil).toInt) != 0) (.call 17 [] [yy23.getD 0 D.nil, yy24.getD 0 D.nil] fun yy26 =>
 .br ((yy26.getD 0 D.nil).toBool) (.br (((yy23.getD 1 D.nil).toInt) == ((yy24.getD 1 D.nil).toInt)) (.call 10 [] [] fun yy27 =>
 .ret [D.bool ((yy27.getD 0 D.nil).toBool)])
 (.ret [D.bool false]))
 (.ret [D.bool false]))
 (.call 16 [] [yy21.getD 0 D.nil, D.int 8] fun yy28 =>
 .br ((yy28.getD 0 D.nil).toBool) (.call 17 [] [yy23.getD 0 D.nil, yy24.getD 0 D.nil] fun yy29 =>
 .br ((yy29.getD 0 D.nil).toBool) (.br (((yy23.getD 1 D.nil).toInt) == ((yy24.getD 1 D.nil).toInt)) (.call 10 [] [] fun yy30 =>
 .ret [D.bool ((yy30.getD 0 D.nil).toBool)])
 (.ret [D.bool false]))
 (.ret [D.bool false]))
 (.ret [D.bool false])))
 (.ret [D.bool false])))))) := by kernel_rfl

/-! scrim/scrimlaw10.ScalarNumbers -/
def law10_ScalarNumbers_orc : List (Nat × Orc) := []
theorem law10_ScalarNumbers_tree (n : Nat) (f0 : D) (a1 : D) (b2 : D) : evFun Tryz.prog md law10_ScalarNumbers_orc n 4 [] [f0, a1, b2] =
 .call 18 [] [D.int f0.toInt] fun yy1 =>
 .call 20 [] [] fun yy2 =>
 .call 19 [] [yy2.getD 0 D.nil, D.int f0.toInt] fun yy3 =>
 .br (!(((yy1.getD 0 D.nil).toBool) == ((yy3.getD 0 D.nil).toBool))) (.ret [D.bool false])
 (.call 21 [] [D.int f0.toInt] fun yy4 =>
 .call 22 [] [] fun yy5 =>
 .call 19 [] [yy5.getD 0 D.nil, D.int f0.toInt] fun yy6 =>
 .br (!(((yy4.getD 0 D.nil).toBool) == ((yy6.getD 0 D.nil).toBool))) (.ret [D.bool false])
 (.call 23 [] [b2] fun yy7 =>
 .call 24 [] [a1] fun yy8 =>
 .br (!((yy8.getD 0 D.nil).toBool)) (.call 10 [] [] fun yy9 =>
 .ret [D.bool ((yy9.getD 0 D.nil).toBool)])
 (.call 24 [] [b2] fun yy10 =>
 .br (!((yy10.getD 0 D.nil).toBool)) (.call 10 [] [] fun yy11 =>
 .ret [D.bool ((yy11.getD 0 D.nil).toBool)])
 (.call 25 [] [a1] fun yy12 =>
 .br (!((yy12.getD 0 D.nil).toBool)) (.call 10 [] [] fun yy13 =>
 .ret [D.bool ((yy13.getD 0 D.nil).toBool)])
 (.call 25 [] [b2] fun yy14 =>
 .br (!((yy14.getD 0 D.nil).toBool)) (.call 10 [] [] fun yy15 =>
 .ret [D.bool ((yy15.getD 0 D.nil).toBool)])
 (.br (f0.toInt == 42) (.br ((yy7.getD 1 D.nil).toBool) (.br (decide (300 < ((yy7.getD 0 D.nil).toInt))) (.call 10 [] [] fun yy16 =>
 .ret [D.bool ((yy16.getD 0 D.nil).toBool)])
 (.br (decide (((yy7.getD 0 D.nil).toInt) < (-300))) (.call 10 [] [] fun yy17 =>
 .ret [D.bool ((yy17.getD 0 D.nil).toBool)])
 (.call 26 [] [D.int f0.toInt, a1] fun yy18 =>
 .call 27 [] [D.int f0.toInt, a1] fun yy19 =>
 .call 28 [] [D.int f0.toInt, a1, b2] fun yy20 =>
 .call 29 [] [D.int f0.toInt, a1, b2] fun yy21 =>
 .br (((yy18.getD 1 D.nil).toInt) == ((yy19.getD 1 D.nil).toInt)) (.call 30 [] [yy18.getD 0 D.nil, yy19.getD 0 D.nil] fun yy22 =>
 .br ((yy22.getD 0 D.nil).toBool) (.br (((yy20.getD 1 D.nil).toInt) == ((yy21.getD 1 D.nil).toInt)) (.call 30 [] [yy20.getD 0 D.nil, yy21.getD 0 D.nil] fun yy23 =>
 .br ((yy23.getD 0 D.nil).toBool) (.call 10 [] [] fun yy24 =>
 .ret [D.bool ((yy24.getD 0 D.nil).toBool)])
 (.ret [D.bool false]))
 (.ret [D.bool false]))
 (.ret [D.bool false]))
 (.ret [D.bool false]))))
 (.call 26 [] [D.int f0.toInt, a1] fun yy25 =>
 .call 27 [] [D.int f0.toInt, a1] fun yy26 =>
 .call 28 [] [D.int f0.toInt, a1, b2] fun yy27 =>
 .call 29 [] [D.int f0.toInt, a1, b2] fun yy28 =>
 .br (((yy25.getD 1 D.nil).toInt) == ((yy26.getD 1 D.nil).toInt)) (.call 30 [] [yy25.getD 0 D.nil, yy26.getD 0 D.nil] fun yy29 =>
 .br ((yy29.getD 0 D.nil).toBool) (.br (((yy27.getD 1 D.nil).toInt) == ((yy28.getD 1 D.nil).toInt)) (.call 30 [] [yy27.getD 0 D.nil, yy28.getD 0 D.nil] fun yy30 =>
 .br ((yy30.getD 0 D.nil).toBool) (.call 10 [] [] fun yy31 =>
 .ret [D.bool ((yy31.getD 0 D.nil).toBool)])
 (.ret [D.bool false]))
 (.ret [D.bool false]))
 (.ret [D.bool false]))
 (.ret [D.bool false])))
 (.call 26 [] [D.int f0.toInt, a1] fun yy32 =>
 .call 27 [] [D.int f0.toInt, a1] fun yy33 =>
 .call 28 [] [D.int f0.toInt, a1, b2] fun yy34 =>
 .call 29 [] [D.int f0.toInt, a1, b2] fun yy35 =>
 .br (((yy32.getD 1 D.nil).toInt) == ((yy33.getD 1 D.nil).toInt)) (.call 30 [] [yy32.getD 0 D.nil, yy33.getD 0 D.nil] fun yy36 =>
 .br ((yy36.getD 0 D.nil).toBool) (.br (((yy34.getD 1 D.nil).toInt) == ((yy35.getD 1 D.nil).toInt)) (.call 30 [] [yy34.getD 0 D.nil, yy35.getD 0 D.nil] fun yy37 =>
 .br ((yy37.getD 0 D.nil).toBool) (.call 10 [] [] fun yy38 =>
 .ret [D.bool ((yy38.getD 0 D.nil).toBool)])
 (.ret [D.bool false]))
 (.ret [D.bool false]))
 (.ret [D.bool false]))
 (.ret [D.bool false])))))))) := by kernel_rfl

/-! scrim/scrimlaw10.ScalarOne -/
def law10_ScalarOne_orc : List (Nat × Orc) := []
theorem law10_ScalarOne_tree (n : Nat) (f0 : D) (a1 : D) : evFun Tryz.prog md law10_ScalarOne_orc n 5 [] [f0, a1] =
 .call 7 [] [a1] fun yy1 =>
 .br (!((yy1.getD 0 D.nil).toBool)) (.call 10 [] [] fun yy2 =>
 .ret [D.bool ((yy2.getD 0 D.nil).toBool)])
 (.call 8 [] [a1] fun yy3 =>
 .br (!((yy3.getD 0 D.nil).toBool)) (.call 10 [] [] fun yy4 =>
 .ret [D.bool ((yy4.getD 0 D.nil).toBool)])
 (.call 31 [] [D.int f0.toInt, a1] fun yy5 =>
 .call 32 [] [D.int f0.toInt, a1] fun yy6 =>
 .call 15 [] [yy5.getD 0 D.nil, D.int ((yy5.getD 1 D.nil).toInt), yy6.getD 0 D.nil, D.int ((yy6.getD 1 D.nil).toInt)] fun yy7 =>
 .br ((yy7.getD 0 D.nil).toBool) (.br (((yy5.getD 1 D.nil).toInt) != 0) (.call 10 [] [] fun yy8 =>
 .ret [D.bool ((yy8.getD 0 D.nil).toBool)])
 (.call 16 [] [yy5.getD 0 D.nil, D.int 8] fun yy9 =>
 .br ((yy9.getD 0 D.nil).toBool) (.call 10 [] [] fun yy10 =>
 .ret [D.bool ((yy10.getD 0 D.nil).toBool)])
 (.ret [D.bool false])))
 (.ret [D.bool false]))) := by kernel_rfl

/-! scrim/scrimlaw10.Light -/
def law10_Light_orc : List (Nat × Orc) := [(2, ⟨[(1, none), (3, none)], [(1, true)], []⟩), (11, ⟨[(1, none), (3, none), (4, none), (7, none)], [(1, true), (4, true)], []⟩)]
def law10_Light_ps : List Nat := [26]
def law10_Light_rs : List ResultVar := [.tmp 2]
def law10_Light_ts : List Nat := [4]
noncomputable def law10_Light_l11 (n m2 m11 : Nat) (i3 : Int) (j7 : Int) (a1 : D) (c4 : D) : Tree :=
  evLoop Tryz.prog md (ev Tryz.prog md n law10_Light_orc (cAt (bodyOf Tryz.prog 8) [1, 0, 1, 0, 0, 1, 0, 0, 1, 1, 1, 1, 1, 0, 0])) (orcAt law10_Light_orc 11) m11 ⟨[.undef, .ptr 1 [], .undef, .i .i64 i3, .ptr 4 [], .undef, .undef, .i .i64 j7, .undef, .undef, .undef, .undef, .undef, .undef, .undef, .undef, .undef, .undef, .undef, .undef, .undef, .undef, .undef, .undef, .undef, .undef, .undef, .undef, .undef, .undef, .undef, .undef, .undef, .undef, .undef, .undef, .undef, .undef, .undef, .undef, .undef, .undef, .undef, .undef, .undef, .undef, .undef, .undef, .undef, .undef, .undef, .undef, .undef, .undef, .undef, .undef, .undef, .undef, .undef, .undef, .undef, .undef, .undef, .undef, .undef, .undef, .undef, .undef, .undef, .undef, .undef, .undef, .undef, .undef, .undef, .undef, .undef, .undef, .undef], [(1, .var 26 (.d 26 a1) true), (4, .var 66 (.d 66 c4) true)], [1, 4], [], []⟩
   (blockK 2 (blockK 1 (seqK (joinE Tryz.prog md (joinAt law10_Light_orc (cAt (bodyOf Tryz.prog 8) [1, 0, 1, 0, 0, 1, 1])) (ev Tryz.prog md n law10_Light_orc (cAt (bodyOf Tryz.prog 8) [1, 0, 1, 0, 0, 1, 1]))) (loopK Tryz.prog md (orcAt law10_Light_orc 2) (fun s1 => evLoop Tryz.prog md (ev Tryz.prog md n law10_Light_orc (cAt (bodyOf Tryz.prog 8) [1, 0, 1, 0, 0])) (orcAt law10_Light_orc 2) m2 s1 (blockK 0 (seqK (joinE Tryz.prog md (joinAt law10_Light_orc (cAt (bodyOf Tryz.prog 8) [1, 1])) (ev Tryz.prog md n law10_Light_orc (cAt (bodyOf Tryz.prog 8) [1, 1]))) (retK Tryz.prog md (md 8) law10_Light_ps law10_Light_rs law10_Light_ts)))) (blockK 0 (seqK (joinE Tryz.prog md (joinAt law10_Light_orc (cAt (bodyOf Tryz.prog 8) [1, 1])) (ev Tryz.prog md n law10_Light_orc (cAt (bodyOf Tryz.prog 8) [1, 1]))) (retK Tryz.prog md (md 8) law10_Light_ps law10_Light_rs law10_Light_ts)))))))
noncomputable def law10_Light_l2 (n m2 : Nat) (i3 : Int) (a1 : D) : Tree :=
  evLoop Tryz.prog md (ev Tryz.prog md n law10_Light_orc (cAt (bodyOf Tryz.prog 8) [1, 0, 1, 0, 0])) (orcAt law10_Light_orc 2) m2 ⟨[.undef, .ptr 1 [], .undef, .i .i64 i3, .undef, .undef, .undef, .undef, .undef, .undef, .undef, .undef, .undef, .undef, .undef, .undef, .undef, .undef, .undef, .undef, .undef, .undef, .undef, .undef, .undef, .undef, .undef, .undef, .undef, .undef, .undef, .undef, .undef, .undef, .undef, .undef, .undef, .undef, .undef, .undef, .undef, .undef, .undef, .undef, .undef, .undef, .undef, .undef, .undef, .undef, .undef, .undef, .undef, .undef, .undef, .undef, .undef, .undef, .undef, .undef, .undef, .undef, .undef, .undef, .undef, .undef, .undef, .undef, .undef, .undef, .undef, .undef, .undef, .undef, .undef, .undef, .undef, .undef, .undef], [(1, .var 26 (.d 26 a1) true)], [1], [], []⟩
   (blockK 0 (seqK (joinE Tryz.prog md (joinAt law10_Light_orc (cAt (bodyOf Tryz.prog 8) [1, 1])) (ev Tryz.prog md n law10_Light_orc (cAt (bodyOf Tryz.prog 8) [1, 1]))) (retK Tryz.prog md (md 8) law10_Light_ps law10_Light_rs law10_Light_ts)))
theorem law10_Light_l11_succ (n m2 m11 : Nat) (i3 : Int) (j7 : Int) (a1 : D) (c4 : D) : law10_Light_l11 n m2 (m11 + 1) i3 j7 a1 c4 =
 .br (decide (j7 < (((c4.fld 4).els).length : Int))) (.br (decide (0 ≤ j7)) (.br (decide (j7 < (((c4.fld 4).els).length : Int))) (.call 8 [] [((c4.fld 4).els).getD (Int.toNat j7) D.nil] fun yy2 =>
 .br (!((yy2.getD 0 D.nil).toBool)) (.ret [D.bool false])
 (law10_Light_l11 n m2 m11 i3 (IntKind.wrap .i64 (j7 + 1)) a1 c4)) .fail) .fail)
 (law10_Light_l2 n m2 (IntKind.wrap .i64 (i3 + 1)) a1) := by kernel_rfl
theorem law10_Light_l2_succ (n m2 : Nat) (i3 : Int) (a1 : D) : law10_Light_l2 n (m2 + 1) i3 a1 =
 .br (decide (i3 < (((a1.fld 2).els).length : Int))) (.br (decide (0 ≤ i3)) (.br (decide (i3 < (((a1.fld 2).els).length : Int))) (.call 23 [] [(((a1.fld 2).els).getD (Int.toNat i3) D.nil).fld 2] fun yy1 =>
 .br (decide (4 < (((((((a1.fld 2).els).getD (Int.toNat i3) D.nil).fld 2).fld 1).els).length : Int))) (.ret [D.bool false])
 (.br (decide (4 < (((((((a1.fld 2).els).getD (Int.toNat i3) D.nil).fld 2).fld 2).els).length : Int))) (.ret [D.bool false])
 (.br ((yy1.getD 1 D.nil).toBool) (.br (decide (300 < ((yy1.getD 0 D.nil).toInt))) (.br (decide (1 < (((((((a1.fld 2).els).getD (Int.toNat i3) D.nil).fld 2).fld 1).els).length : Int))) (.ret [D.bool false])
 (.br ((yy1.getD 1 D.nil).toBool) (.br (decide (100000 < ((yy1.getD 0 D.nil).toInt))) (.ret [D.bool false])
 (.br (decide (((yy1.getD 0 D.nil).toInt) < (-100000))) (.ret [D.bool false])
 (law10_Light_l11 n m2 n i3 0 a1 (((a1.fld 2).els).getD (Int.toNat i3) D.nil))))
 (law10_Light_l11 n m2 n i3 0 a1 (((a1.fld 2).els).getD (Int.toNat i3) D.nil))))
 (.br (decide (((yy1.getD 0 D.nil).toInt) < (-300))) (.br (decide (1 < (((((((a1.fld 2).els).getD (Int.toNat i3) D.nil).fld 2).fld 1).els).length : Int))) (.ret [D.bool false])
 (.br ((yy1.getD 1 D.nil).toBool) (.br (decide (100000 < ((yy1.getD 0 D.nil).toInt))) (.ret [D.bool false])
 (.br (decide (((yy1.getD 0 D.nil).toInt) < (-100000))) (.ret [D.bool false])
 (law10_Light_l11 n m2 n i3 0 a1 (((a1.fld 2).els).getD (Int.toNat i3) D.nil))))
 (law10_Light_l11 n m2 n i3 0 a1 (((a1.fld 2).els).getD (Int.toNat i3) D.nil))))
 (.br ((yy1.getD 1 D.nil).toBool) (.br (decide (100000 < ((yy1.getD 0 D.nil).toInt))) (.ret [D.bool false])
 (.br (decide (((yy1.getD 0 D.nil).toInt) < (-100000))) (.ret [D.bool false])
 (law10_Light_l11 n m2 n i3 0 a1 (((a1.fld 2).els).getD (Int.toNat i3) D.nil))))
 (law10_Light_l11 n m2 n i3 0 a1 (((a1.fld 2).els).getD (Int.toNat i3) D.nil)))))
 (.br ((yy1.getD 1 D.nil).toBool) (.br (decide (100000 < ((yy1.getD 0 D.nil).toInt))) (.ret [D.bool false])
 (.br (decide (((yy1.getD 0 D.nil).toInt) < (-100000))) (.ret [D.bool false])
 (law10_Light_l11 n m2 n i3 0 a1 (((a1.fld 2).els).getD (Int.toNat i3) D.nil))))
 (law10_Light_l11 n m2 n i3 0 a1 (((a1.fld 2).els).getD (Int.toNat i3) D.nil)))))) .fail) .fail)
 (.ret [D.bool true]) := by kernel_rfl
theorem law10_Light_tree (n : Nat) (a0 : D) : evFun Tryz.prog md law10_Light_orc n 8 [] [a0] =
 law10_Light_l2 n n 0 a0 := by kernel_rfl

/-! scrim/scrimlaw10.exponents -/
def law10_exponents_orc : List (Nat × Orc) := [(2, ⟨[(1, none), (3, none)], [(1, true)], []⟩), (8, ⟨[(1, none), (3, none), (6, none)], [(1, true)], []⟩)]
def law10_exponents_ps : List Nat := [26]
def law10_exponents_rs : List ResultVar := [.tmp 2]
def law10_exponents_ts : List Nat := [4]
noncomputable def law10_exponents_l8 (n m2 m8 : Nat) (i3 : Int) (j6 : Int) (a1 : D) : Tree :=
  evLoop Tryz.prog md (ev Tryz.prog md n law10_exponents_orc (cAt (bodyOf Tryz.prog 9) [1, 0, 1, 0, 0, 1, 0, 0, 1, 1, 1, 0, 0])) (orcAt law10_exponents_orc 8) m8 ⟨[.undef, .ptr 1 [], .undef, .i .i64 i3, .undef, .undef, .i .i64 j6, .undef, .undef, .undef, .undef, .undef, .undef, .undef, .undef, .undef, .undef, .undef, .undef, .undef, .undef, .undef, .undef, .undef, .undef, .undef, .undef, .undef, .undef, .undef, .undef, .undef, .undef, .undef, .undef, .undef, .undef, .undef, .undef, .undef, .undef, .undef, .undef, .undef, .undef, .undef, .undef, .undef, .undef, .undef, .undef, .undef, .undef, .undef, .undef], [(1, .var 26 (.d 26 a1) true)], [1], [], []⟩
   (blockK 2 (blockK 1 (seqK (joinE Tryz.prog md (joinAt law10_exponents_orc (cAt (bodyOf Tryz.prog 9) [1, 0, 1, 0, 0, 1, 1])) (ev Tryz.prog md n law10_exponents_orc (cAt (bodyOf Tryz.prog 9) [1, 0, 1, 0, 0, 1, 1]))) (loopK Tryz.prog md (orcAt law10_exponents_orc 2) (fun s1 => evLoop Tryz.prog md (ev Tryz.prog md n law10_exponents_orc (cAt (bodyOf Tryz.prog 9) [1, 0, 1, 0, 0])) (orcAt law10_exponents_orc 2) m2 s1 (blockK 0 (seqK (joinE Tryz.prog md (joinAt law10_exponents_orc (cAt (bodyOf Tryz.prog 9) [1, 1])) (ev Tryz.prog md n law10_exponents_orc (cAt (bodyOf Tryz.prog 9) [1, 1]))) (retK Tryz.prog md (md 9) law10_exponents_ps law10_exponents_rs law10_exponents_ts)))) (blockK 0 (seqK (joinE Tryz.prog md (joinAt law10_exponents_orc (cAt (bodyOf Tryz.prog 9) [1, 1])) (ev Tryz.prog md n law10_exponents_orc (cAt (bodyOf Tryz.prog 9) [1, 1]))) (retK Tryz.prog md (md 9) law10_exponents_ps law10_exponents_rs law10_exponents_ts)))))))
noncomputable def law10_exponents_l2 (n m2 : Nat) (i3 : Int) (a1 : D) : Tree :=
  evLoop Tryz.prog md (ev Tryz.prog md n law10_exponents_orc (cAt (bodyOf Tryz.prog 9) [1, 0, 1, 0, 0])) (orcAt law10_exponents_orc 2) m2 ⟨[.undef, .ptr 1 [], .undef, .i .i64 i3, .undef, .undef, .undef, .undef, .undef, .undef, .undef, .undef, .undef, .undef, .undef, .undef, .undef, .undef, .undef, .undef, .undef, .undef, .undef, .undef, .undef, .undef, .undef, .undef, .undef, .undef, .undef, .undef, .undef, .undef, .undef, .undef, .undef, .undef, .undef, .undef, .undef, .undef, .undef, .undef, .undef, .undef, .undef, .undef, .undef, .undef, .undef, .undef, .undef, .undef, .undef], [(1, .var 26 (.d 26 a1) true)], [1], [], []⟩
   (blockK 0 (seqK (joinE Tryz.prog md (joinAt law10_exponents_orc (cAt (bodyOf Tryz.prog 9) [1, 1])) (ev Tryz.prog md n law10_exponents_orc (cAt (bodyOf Tryz.prog 9) [1, 1]))) (retK Tryz.prog md (md 9) law10_exponents_ps law10_exponents_rs law10_exponents_ts)))
theorem law10_exponents_l8_succ (n m2 m8 : Nat) (i3 : Int) (j6 : Int) (a1 : D) : law10_exponents_l8 n m2 (m8 + 1) i3 j6 a1 =
 .br (decide (0 ≤ i3)) (.br (decide (i3 < (((a1.fld 2).els).length : Int))) (.br (decide (j6 < ((((((a1.fld 2).els).getD (Int.toNat i3) D.nil).fld 4).els).length : Int))) (.br (decide (0 ≤ i3)) (.br (decide (i3 < (((a1.fld 2).els).length : Int))) (.br (decide (0 ≤ j6)) (.br (decide (j6 < ((((((a1.fld 2).els).getD (Int.toNat i3) D.nil).fld 4).els).length : Int))) (.call 9 [] [(((((a1.fld 2).els).getD (Int.toNat i3) D.nil).fld 4).els).getD (Int.toNat j6) D.nil] fun yy2 =>
 .br (!((yy2.getD 0 D.nil).toBool)) (.ret [D.bool false])
 (law10_exponents_l8 n m2 m8 i3 (IntKind.wrap .i64 (j6 + 1)) a1)) .fail) .fail) .fail) .fail)
 (law10_exponents_l2 n m2 (IntKind.wrap .i64 (i3 + 1)) a1)) .fail) .fail := by kernel_rfl
theorem law10_exponents_l2_succ (n m2 : Nat) (i3 : Int) (a1 : D) : law10_exponents_l2 n (m2 + 1) i3 a1 =
 .br (decide (i3 < (((a1.fld 2).els).length : Int))) (.br (decide (0 ≤ i3)) (.br (decide (i3 < (((a1.fld 2).els).length : Int))) (.call 23 [] [(((a1.fld 2).els).getD (Int.toNat i3) D.nil).fld 2] fun yy1 =>
 .br ((yy1.getD 1 D.nil).toBool) (.br (decide (300 < ((yy1.getD 0 D.nil).toInt))) (.ret [D.bool false])
 (.br (decide (((yy1.getD 0 D.nil).toInt) < (-300))) (.ret [D.bool false])
 (law10_exponents_l8 n m2 n i3 0 a1)))
 (law10_exponents_l8 n m2 n i3 0 a1)) .fail) .fail)
 (.ret [D.bool true]) := by kernel_rfl
theorem law10_exponents_tree (n : Nat) (a0 : D) : evFun Tryz.prog md law10_exponents_orc n 9 [] [a0] =
 law10_exponents_l2 n n 0 a0 := by kernel_rfl

/-! scrim/scrimlaw10.awake -/
def law10_awake_orc : List (Nat × Orc) := []
theorem law10_awake_tree (n : Nat)  : evFun Tryz.prog md law10_awake_orc n 10 [] [] =
 .call 36 [] [D.int 10] fun yy1 =>
 .call 36 [] [D.int 1] fun yy2 =>
 .call 36 [] [D.int 2] fun yy3 =>
 .call 37 [] [D.sl [yy2.getD 0 D.nil, yy3.getD 0 D.nil]] fun yy4 =>
 .call 38 [] [D.agg [D.int 4, D.int (((yy1.getD 0 D.nil).fld 1).toInt), (yy1.getD 0 D.nil).fld 2, D.int (((yy1.getD 0 D.nil).fld 3).toInt), (yy1.getD 0 D.nil).fld 4]] fun yy5 =>
 .call 11 [] [D.int 43, yy4.getD 0 D.nil, yy5.getD 0 D.nil] fun yy6 =>
 .br (((yy6.getD 1 D.nil).toInt) == 0) (.br (((((yy6.getD 0 D.nil).fld 2).els).length : Int) == 2) (.br (decide (0 ≤ 1)) (.br (decide (1 < ((((yy6.getD 0 D.nil).fld 2).els).length : Int))) (.call 39 [] [D.int 12] fun yy7 =>
 .call 30 [] [((((yy6.getD 0 D.nil).fld 2).els).getD (Int.toNat 1) D.nil).fld 2, yy7.getD 0 D.nil] fun yy8 =>
 .br ((yy8.getD 0 D.nil).toBool) (.br (decide (0 ≤ 1)) (.br (decide (1 < ((((yy6.getD 0 D.nil).fld 2).els).length : Int))) (.ret [D.bool (((((((yy6.getD 0 D.nil).fld 2).els).getD (Int.toNat 1) D.nil).fld 0).toInt) == 4)]) .fail) .fail)
 (.ret [D.bool false])) .fail) .fail)
 (.ret [D.bool false]))
 (.ret [D.bool false]) := by kernel_rfl

/-! scrim/scrimlaw10.small -/
def law10_small_orc : List (Nat × Orc) := []
theorem law10_small_tree (n : Nat) (n0 : D) : evFun Tryz.prog md law10_small_orc n 25 [] [n0] =
 .br (decide ((((n0.fld 1).els).length : Int) ≤ 8)) (.ret [D.bool (decide ((((n0.fld 2).els).length : Int) ≤ 8))])
 (.ret [D.bool false]) := by kernel_rfl

end Go.Proofs.YtjmddikeadbmjaaGreat
set_option maxRecDepth 100000
namespace Go.Proofs.YtjmddikeadbmjaaGreat

/-- It answers yes or no, and of the answer this is so. -/
def Tells (t : Tree) (Q : Bool → Prop) : Prop := ∃ b, Tw t [.bool b] ∧ Q b
theorem Tells.ret {b : Bool} {Q : Bool → Prop} (h : Q b) : Tells (.ret [D.bool b]) Q := ⟨b, wp_ret rfl, h⟩
theorem Tells.br {c : Bool} {t e : Tree} {Q : Bool → Prop} (h1 : c = true → Tells t Q) (h2 : c = false → Tells e Q) : Tells (.br c t e) Q := by
  cases h : c with
  | true => obtain ⟨b, h3, h4⟩ := h1 h; exact ⟨b, wp_tt rfl h3, h4⟩
  | false => obtain ⟨b, h3, h4⟩ := h2 h; exact ⟨b, wp_ff rfl h3, h4⟩
theorem Tells.decs {c : Prop} [Decidable c] {t e : Tree} {Q : Bool → Prop} (h1 : c → Tells t Q) (h2 : ¬ c → Tells e Q) : Tells (.br (decide c) t e) Q := Tells.br (fun h => h1 (of_decide_eq_true h)) (fun h => h2 (of_decide_eq_false h))
theorem Tells.dec {c : Prop} [Decidable c] {t e : Tree} {Q : Bool → Prop} (h : c) (h1 : Tells t Q) : Tells (.br (decide c) t e) Q := Tells.decs (fun _ => h1) (fun h2 => absurd h h2)
theorem Tells.call {f : Nat} {xs ys : List D} {k : List D → Tree} {Q : Bool → Prop} (hs : Sp f xs ys) (hk : Tells (k ys) Q) : Tells (.call f [] xs k) Q := by
  obtain ⟨b, h1, h2⟩ := hk
  exact ⟨b, wp_call hs h1, h2⟩
theorem Tells.mono {t : Tree} {Q R : Bool → Prop} (h : Tells t Q) (hq : ∀ b, Q b → R b) : Tells t R := by
  obtain ⟨b, h1, h2⟩ := h
  exact ⟨b, h1, hq b h2⟩
theorem right_inner {d : Nat} {c : Cell} (h : rightC d c = true) : ∀ x ∈ c.inn, ∃ e, d = e + 1 ∧ rightA e x = true := by
  intro x hx
  rcases rightC_cases h with ⟨_, _, g, _⟩ | ⟨_, _, g⟩ | ⟨_, _, _, y, e, g1, g2, _, g3⟩
  · rw [g] at hx; cases hx
  · rw [g] at hx; cases hx
  · rw [g2] at hx
    have : x = y := by simpa using hx
    subst this
    exact ⟨e, g1, g3⟩
theorem law10_Light_ex : ∀ (d : Nat) (a : Arr), rightA d a = true → ∃ b, Sp 8 [dA a] [.bool b] := by
  suffices key : ∀ (d : Nat) (a : Arr), (∀ e x, d = e + 1 → rightA e x = true → ∃ b, Sp 8 [dA x] [.bool b]) → rightA d a = true → ∃ b, Sp 8 [dA a] [.bool b] by
    intro d
    induction d with
    | zero => intro a; exact key 0 a (fun e x he => by omega)
    | succ d ihd => intro a; exact key (d + 1) a (fun e x he => by have : e = d := by omega
                                                                   subst this; exact ihd x)
  intro d a ih hr
  have hs := rightA_sml hr
  have hl := hs.2.1
  have hcs := (rightA_cells hr).2
  suffices hh : Tells (law10_Light_l2 (a.cells.length + 3) (a.cells.length + 3) 0 (dA a)) (fun _ => True) by
    obtain ⟨b, h1, _⟩ := hh
    exact ⟨b, sound_ (a.cells.length + 3) (law10_Light_tree _ _) h1⟩
  suffices hh : ∀ m k, k ≤ a.cells.length → a.cells.length < k + m → Tells (law10_Light_l2 (a.cells.length + 3) m (k : Int) (dA a)) (fun _ => True) from hh (a.cells.length + 3) 0 (by omega) (by omega)
  intro m
  induction m with
  | zero => intro k _ _; omega
  | succ m ihm =>
    intro k hk hm
    simp only [law10_Light_l2_succ, dA_0, dA_1, dA_2, dC_0, dC_1, dC_2, dC_3, dC_4, dN_0, dN_1, dN_2, els_sl, els_dI, els_dL, List.length_map, Int.toNat_natCast, toInt_int, toInt_dB, toBool_bool, getD_c0, getD_c1, int_beq, int_bne, not_dec, dInt_dB, Int.toNat_zero]
    refine Tells.decs (fun hlt => Tells.dec (by omega) (Tells.dec (by omega) ?_)) (fun _ => Tells.ret trivial)
    have hlt' : k < a.cells.length := by omega
    have h2 : a.cells[k]? = some a.cells[k] := List.getElem?_eq_getElem hlt'
    generalize a.cells[k] = c at h2
    have hc := hcs c (List.mem_of_getElem? h2)
    have hcl := rightC_len hc
    have hin : ∀ r j, j ≤ c.inn.length → c.inn.length < j + r → Tells (law10_Light_l11 (a.cells.length + 3) m r (k : Int) (j : Int) (dA a) (dC c)) (fun _ => True) := by
      intro r
      induction r with
      | zero => intro j _ _; omega
      | succ r ihr =>
        intro j hj hm'
        simp only [law10_Light_l11_succ, dA_0, dA_1, dA_2, dC_0, dC_1, dC_2, dC_3, dC_4, dN_0, dN_1, dN_2, els_sl, els_dI, els_dL, List.length_map, Int.toNat_natCast, toInt_int, toInt_dB, toBool_bool, getD_c0, getD_c1, int_beq, int_bne, not_dec, dInt_dB, Int.toNat_zero, dC_4]
        refine Tells.decs (fun hlt2 => Tells.dec (by omega) (Tells.dec (by omega) ?_)) (fun _ => ?_)
        · have hlt3 : j < c.inn.length := by omega
          have h3 : c.inn[j]? = some c.inn[j] := List.getElem?_eq_getElem hlt3
          generalize c.inn[j] = x at h3
          obtain ⟨e, g1, g2⟩ := right_inner hc x (List.mem_of_getElem? h3)
          obtain ⟨b, hb⟩ := ih e x g1 g2
          simp only [getD_map h3, wrap_succ (show j < 9223372036854775807 by omega)]
          exact Tells.call hb (Tells.br (fun _ => Tells.ret trivial) (fun _ => ihr (j + 1) (by omega) (by omega)))
        · rw [wrap_succ (show k < 9223372036854775807 by omega)]
          exact ihm (k + 1) (by omega) (by omega)
    have hin' := hin (a.cells.length + 3) 0 (by omega) (by omega)
    simp only [getD_map h2, dA_0, dA_1, dA_2, dC_0, dC_1, dC_2, dC_3, dC_4, dN_0, dN_1, dN_2, els_sl, els_dI, els_dL, List.length_map, Int.toNat_natCast, toInt_int, toInt_dB, toBool_bool, getD_c0, getD_c1, int_beq, int_bne, not_dec, dInt_dB, Int.toNat_zero]
    refine Tells.call (ref04_Small_sp c.n (by omega)) ?_
    rw [show ((0 : Nat) : Int) = 0 from rfl] at hin'
    generalize law10_Light_l11 (a.cells.length + 3) m (a.cells.length + 3) (k : Int) 0 (dA a) (dC c) = T at hin' ⊢
    repeat first
      | exact hin'
      | exact Tells.ret trivial
      | refine Tells.br (fun _ => ?_) (fun _ => ?_)
theorem optI_num {n : Num} {k : Int} (h : smallN n = some k) : optI (smallN n) = [.int k, .bool true] := by rw [h]; rfl
theorem law10_exponents_ex : ∀ (d : Nat) (a : Arr), rightA d a = true → ∃ b, (b = true → ExpOk a) ∧ Sp 9 [dA a] [.bool b] := by
  suffices key : ∀ (d : Nat) (a : Arr), (∀ e x, d = e + 1 → rightA e x = true → ∃ b, (b = true → ExpOk x) ∧ Sp 9 [dA x] [.bool b]) → rightA d a = true → ∃ b, (b = true → ExpOk a) ∧ Sp 9 [dA a] [.bool b] by
    intro d
    induction d with
    | zero => intro a; exact key 0 a (fun e x he => by omega)
    | succ d ihd => intro a; exact key (d + 1) a (fun e x he => by have : e = d := by omega
                                                                   subst this; exact ihd x)
  intro d a ih hr
  have hs := rightA_sml hr
  have hl := hs.2.1
  have hcs := (rightA_cells hr).2
  suffices hh : Tells (law10_exponents_l2 (a.cells.length + 3) (a.cells.length + 3) 0 (dA a)) (fun b => b = true → ∀ c ∈ a.cells, ExpOkC c) by
    obtain ⟨b, h1, h2⟩ := hh
    refine ⟨b, fun hb => ?_, sound_ (a.cells.length + 3) (law10_exponents_tree _ _) h1⟩
    have h3 := h2 hb
    cases a with
    | mk s sh cs => exact .mk (fun c hc => (h3 c hc).1) (fun c hc => (h3 c hc).2)
  suffices hh : ∀ m k, k ≤ a.cells.length → a.cells.length < k + m → Tells (law10_exponents_l2 (a.cells.length + 3) m (k : Int) (dA a)) (fun b => b = true → ∀ c ∈ a.cells.drop k, ExpOkC c) from hh (a.cells.length + 3) 0 (by omega) (by omega)
  intro m
  induction m with
  | zero => intro k _ _; omega
  | succ m ihm =>
    intro k hk hm
    simp only [law10_exponents_l2_succ, dA_0, dA_1, dA_2, dC_0, dC_1, dC_2, dC_3, dC_4, dN_0, dN_1, dN_2, els_sl, els_dI, els_dL, List.length_map, Int.toNat_natCast, toInt_int, toInt_dB, toBool_bool, getD_c0, getD_c1, int_beq, int_bne, not_dec, dInt_dB, Int.toNat_zero]
    refine Tells.decs (fun hlt => Tells.dec (by omega) (Tells.dec (by omega) ?_)) (fun hge => Tells.ret (fun _ c hc => ?_))
    · have hlt' : k < a.cells.length := by omega
      have h2 : a.cells[k]? = some a.cells[k] := List.getElem?_eq_getElem hlt'
      have hdr : a.cells.drop k = a.cells[k] :: a.cells.drop (k + 1) := List.drop_eq_getElem_cons hlt'
      generalize a.cells[k] = c at h2 hdr
      have hc := hcs c (List.mem_of_getElem? h2)
      have hcl := rightC_len hc
      have hin : ∀ r j, j ≤ c.inn.length → c.inn.length < j + r → Tells (law10_exponents_l8 (a.cells.length + 3) m r (k : Int) (j : Int) (dA a)) (fun b => b = true → (∀ x ∈ c.inn.drop j, ExpOk x) ∧ ∀ c ∈ a.cells.drop (k + 1), ExpOkC c) := by
        intro r
        induction r with
        | zero => intro j _ _; omega
        | succ r ihr =>
          intro j hj hm'
          simp only [law10_exponents_l8_succ, dA_0, dA_1, dA_2, dC_0, dC_1, dC_2, dC_3, dC_4, dN_0, dN_1, dN_2, els_sl, els_dI, els_dL, List.length_map, Int.toNat_natCast, toInt_int, toInt_dB, toBool_bool, getD_c0, getD_c1, int_beq, int_bne, not_dec, dInt_dB, Int.toNat_zero, getD_map h2, dC_4]
          refine Tells.dec (by omega) (Tells.dec (by omega) (Tells.decs (fun hlt2 => Tells.dec (by omega) (Tells.dec (by omega) (Tells.dec (by omega) (Tells.dec (by omega) ?_)))) (fun hge => ?_)))
          · have hlt3 : j < c.inn.length := by omega
            have h3 : c.inn[j]? = some c.inn[j] := List.getElem?_eq_getElem hlt3
            have hdr3 : c.inn.drop j = c.inn[j] :: c.inn.drop (j + 1) := List.drop_eq_getElem_cons hlt3
            generalize c.inn[j] = x at h3 hdr3
            obtain ⟨e, g1, g2⟩ := right_inner hc x (List.mem_of_getElem? h3)
            obtain ⟨b, hb1, hb⟩ := ih e x g1 g2
            simp only [getD_map h3, wrap_succ (show j < 9223372036854775807 by omega)]
            refine Tells.call hb ?_
            simp only [getD_c0, toBool_bool]
            refine Tells.br (fun _ => Tells.ret (fun h => by cases h)) (fun hnb => (ihr (j + 1) (by omega) (by omega)).mono (fun b' hb' ht => ?_))
            obtain ⟨q1, q2⟩ := hb' ht
            refine ⟨fun y hy => ?_, q2⟩
            rw [hdr3] at hy
            rcases List.mem_cons.1 hy with rfl | hy
            · exact hb1 (by simpa using hnb)
            · exact q1 y hy
          · rw [wrap_succ (show k < 9223372036854775807 by omega)]
            refine (ihm (k + 1) (by omega) (by omega)).mono (fun b' hb' ht => ⟨fun x hx => ?_, hb' ht⟩)
            rw [List.drop_eq_nil_of_le (by omega)] at hx; cases hx
      have hin' := hin (a.cells.length + 3) 0 (by omega) (by omega)
      simp only [getD_map h2, dA_0, dA_1, dA_2, dC_0, dC_1, dC_2, dC_3, dC_4, dN_0, dN_1, dN_2, els_sl, els_dI, els_dL, List.length_map, Int.toNat_natCast, toInt_int, toInt_dB, toBool_bool, getD_c0, getD_c1, int_beq, int_bne, not_dec, dInt_dB, Int.toNat_zero]
      refine Tells.call (ref04_Small_sp c.n (by omega)) ?_
      rw [show ((0 : Nat) : Int) = 0 from rfl] at hin'
      generalize law10_exponents_l8 (a.cells.length + 3) m (a.cells.length + 3) (k : Int) 0 (dA a) = T at hin' ⊢
      have fin : (∀ k, smallN c.n = some k → -300 ≤ k ∧ k ≤ 300) → Tells T (fun b => b = true → ∀ c ∈ a.cells.drop k, ExpOkC c) := fun hk => hin'.mono (fun b hb ht => by
        obtain ⟨q1, q2⟩ := hb ht
        rw [hdr]
        intro y hy
        rcases List.mem_cons.1 hy with rfl | hy
        · exact ⟨hk, q1⟩
        · exact q2 y hy)
      cases hsm : smallN c.n with
      | none =>
        rw [hsm] at fin
        simp only [optI, getD_c0, getD_c1, toBool_bool, toInt_int]
        exact Tells.br (fun h => by cases h) (fun _ => fin (fun k h => by cases h))
      | some z =>
        rw [hsm] at fin
        simp only [optI, getD_c0, getD_c1, toBool_bool, toInt_int]
        refine Tells.br (fun _ => Tells.decs (fun _ => Tells.ret (fun h => by cases h)) (fun g1 => Tells.decs (fun _ => Tells.ret (fun h => by cases h)) (fun g2 => fin (fun k h => ?_)))) (fun h => by cases h)
        injection h with h; subst h; omega
    · rw [List.drop_eq_nil_of_le (by omega)] at hc; cases hc
end Go.Proofs.YtjmddikeadbmjaaGreat
set_option maxRecDepth 100000
namespace Go.Proofs.YtjmddikeadbmjaaGreat

theorem ref10_Same_is (x y : Arr) (e f : Int) (hx : Fits x) : Sp 15 [dA x, .int e, dA y, .int f] [.bool (decide (e = f) && eqA x y)] := by
  refine sound_ 0 (ref10_Same_tree _ _ _ _ _) ?_
  simp only [toInt_int, int_beq]
  refine wp_decs (fun h => wp_call (ref08_Same_sp x hx y) (wp_ret ?_)) (fun h => wp_ret ?_)
  · rw [decide_eq_true h]; rfl
  · rw [decide_eq_false h]; rfl
theorem add_ofZ {x y : Int} (h : lenZ (x + y) ≤ 32) : addR (ofZ x) (ofZ y) = (ofZ (x + y), 0) := by
  unfold addR
  rw [numT_ofZ, numT_ofZ, numB_ofZ, numB_ofZ, mkR_val (p := x * 1 + y * 1) (q := 1 * 1) (z := x + y) (d := 1) (by decide) (by decide) (Nat.coprime_one_right _) h (by rw [lbn_one]; decide) (by simp), frac_one]
theorem in_small {z : Int} (h1 : -100000 ≤ z := by decide) (h2 : z ≤ 100000 := by decide) : inR z := inR_small (by omega) (by omega)
def awX : Arr := vectA [intC 1, intC 2]
def awY : Arr := oneA ⟨4, 0, ofZ 10, 0, []⟩
def awZ : Arr := .mk 0 [2] [⟨4, 0, ofZ 11, 0, []⟩, ⟨4, 0, ofZ 12, 0, []⟩]
theorem awX_right (d : Nat) : rightA d awX = true := rightA_of (by decide) (fun c hc => by
  have : c = intC 1 ∨ c = intC 2 := by simpa [awX, vectA] using hc
  rcases this with rfl | rfl
  · exact rightC_int d in_small
  · exact rightC_int d in_small)
theorem awY_right (d : Nat) : rightA d awY = true := rightA_of (by decide) (fun c hc => by
  have : c = ⟨4, 0, ofZ 10, 0, []⟩ := by simpa [awY, oneA] using hc
  subst this
  exact rightC_num (rightN_ofZ in_small))
theorem aw_two : twoA 0 43 awX awY = (awZ, 0) := by
  have e1 : confA awX awY = ([2], 0) := rfl
  have e2 : cntA awX awY = 2 := rfl
  have p1 : pickZ awX ((0 : Nat) : Int) = intC 1 := rfl
  have p2 : pickZ awX ((1 : Nat) : Int) = intC 2 := rfl
  have p3 : pickZ awY ((0 : Nat) : Int) = ⟨4, 0, ofZ 10, 0, []⟩ := rfl
  have p4 : pickZ awY ((1 : Nat) : Int) = ⟨4, 0, ofZ 10, 0, []⟩ := rfl
  have c : ∀ (r : Arr → Arr → Arr × Int) (z : Int), lenZ (z + 10) ≤ 32 → twoC r 43 (intC z) ⟨4, 0, ofZ 10, 0, []⟩ = (⟨4, 0, ofZ (z + 10), 0, []⟩, 0) := fun r z hz => by
    unfold twoC intC twoN
    simp [add_ofZ hz]
  show twoG _ 43 awX awY = _
  unfold twoG
  rw [if_pos (by decide), e1, e2]
  have g0 := c (fun _ _ => (Arr.none, 0)) 1 (lenZ_small (z := 1 + 10))
  have g1 := c (fun _ _ => (Arr.none, 0)) 2 (lenZ_small (z := 2 + 10))
  have t : twoCs (fun i => twoC (fun _ _ => (Arr.none, 0)) 43 (pickZ awX i) (pickZ awY i)) 2 0 = ([⟨4, 0, ofZ 11, 0, []⟩, ⟨4, 0, ofZ 12, 0, []⟩], 0) := by
    rw [twoCs]
    simp only [p1, p3, g0, if_true]
    rw [twoCs]
    simp only [Nat.zero_add, p2, p4, g1, if_true]
    rw [twoCs]
    simp
  rw [t]
  rfl
theorem law10_awake_sp : Sp 10 [] [.bool true] := by
  refine sound_ 0 (law10_awake_tree _) ?_
  refine wp_call (array_Int_sp 10 in_small) (wp_call (array_Int_sp 1 in_small) (wp_call (array_Int_sp 2 in_small) ?_))
  have hv := array_Vector_sp (d := 0) [intC 1, intC 2] (fun c hc => (rightA_sml (awX_right 0)).2.2.2 c hc) (by decide)
  refine wp_call hv ?_
  have hsc := array_Scalar_sp (d := 0) ⟨4, 0, ofZ 10, 0, []⟩ ((rightA_sml (awY_right 0)).2.2.2 _ (by simp [awY, oneA]))
  have e0 : D.agg [D.int 4, D.int (((intC 10).kind)), dN (intC 10).n, D.int (intC 10).c, D.sl []] = dC ⟨4, 0, ofZ 10, 0, []⟩ := by rw [dC_eq]; rfl
  have e1 : D.agg [D.int 4, D.int ((([dC (intC 10)].getD 0 D.nil).fld 1).toInt), ([dC (intC 10)].getD 0 D.nil).fld 2, D.int ((([dC (intC 10)].getD 0 D.nil).fld 3).toInt), ([dC (intC 10)].getD 0 D.nil).fld 4] = dC ⟨4, 0, ofZ 10, 0, []⟩ := by rw [getD_c0, dC_eq, dC_eq]; rfl
  rw [e1]
  refine wp_call hsc ?_
  have ht := scalar_Two_sp 43 0 awX awY (awX_right 0) (awY_right 0) (fun h => by cases h)
  rw [aw_two] at ht
  refine wp_call ht ?_
  have e2 : (dA awZ).fld 2 = D.sl [dC ⟨4, 0, ofZ 11, 0, []⟩, dC ⟨4, 0, ofZ 12, 0, []⟩] := by rw [dA_2]; rfl
  simp only [getD_c0, getD_c1, toInt_int, e2, els_sl]
  refine wp_tt rfl (wp_tt rfl (wp_dec (by decide) (wp_dec (by decide) (wp_call (ref04_Of_sp 12 in_small) ?_))))
  simp only [show ∀ x y : D, [x, y].getD (Int.toNat 1) D.nil = y from fun _ _ => rfl, dC_2, dC_0, getD_c0]
  refine wp_call (ref04_Same_sp (ofZ 12) (ofZ 12) (by have := (rightN_len (rightN_ofZ (in_small (z := 12)))).1; omega) (by have := (rightN_len (rightN_ofZ (in_small (z := 12)))).2; omega)) ?_
  simp only [getD_c0, toBool_bool, dN_0, dN_1, dN_2]
  exact wp_dec trivial (wp_dec (by decide) (wp_dec (by decide) (wp_ret rfl)))
theorem awake_ret : Tw (.call 10 [] [] fun y => .ret [D.bool ((y.getD 0 D.nil).toBool)]) [.bool true] := wp_call law10_awake_sp (wp_ret rfl)
theorem conf_len (a b : Arr) : (confA a b).1.length ≤ a.shape.length + b.shape.length := by
  unfold confA
  split
  · simp
  · split
    · simp
    · split
      · simp
      · split <;> simp
theorem one_fits {f : Int} {d : Nat} {a : Arr} (h : rightA d a = true) : Fits (unoA f a).1 := by
  by_cases h0 : (unoA f a).2 = 0
  · exact (rightA_sml (unoA_right f d a h h0).1).fits
  · have : (unoA f a).1 = .none := by
      rw [unoA_eq] at h0 ⊢
      split at h0
      · rename_i h1
        rw [if_pos h1]
        split at h0
        · exact absurd rfl h0
        · rename_i h2; rw [if_neg h2]
      · rename_i h1; rw [if_neg h1]
    rw [this]; exact fits_none
theorem twoG_err {r : Arr → Arr → Arr × Int} {f : Int} {a b : Arr} (h0 : ¬ (twoG r f a b).2 = 0) : (twoG r f a b).1 = .none := by
  unfold twoG at h0 ⊢
  split at h0
  · rename_i h1
    rw [if_pos h1]
    split at h0
    · rename_i h2
      rw [if_pos h2]
      split at h0
      · exact absurd rfl h0
      · rename_i h3; rw [if_neg h3]
    · rename_i h2; rw [if_neg h2]
  · rename_i h1; rw [if_neg h1]
theorem two_fits {f : Int} {d : Nat} {a b : Arr} (ha : rightA d a = true) (hb : rightA d b = true) : Fits (twoA d f a b).1 := by
  by_cases h0 : (twoA d f a b).2 = 0
  · exact (rightA_sml (twoA_right f d a b ha hb h0).1).fits
  · have : (twoA d f a b).1 = .none := by
      cases d with
      | zero => exact twoG_err h0
      | succ d => exact twoG_err h0
    rw [this]; exact fits_none
theorem scalarOne_sp (f : Int) (a : Arr) (_ : -9223372036854775808 ≤ f ∧ f ≤ 9223372036854775807) (ha : Fits a) : Sp 5 [.int f, dA a] [.bool true] := by
  obtain ⟨b1, h1, s1⟩ := ref08_Good_ex a ha
  refine sound_ 0 (law10_ScalarOne_tree _ _ _) (wp_call s1 (wp_br (fun _ => awake_ret) (fun e1 => ?_)))
  have g := h1 (by simpa using e1)
  obtain ⟨b2, s2⟩ := law10_Light_ex 8 a g
  refine wp_call s2 (wp_br (fun _ => awake_ret) (fun _ => ?_))
  simp only [toInt_int]
  refine wp_call (scalar_One_sp f 8 a g) (wp_call (ref10_One_sp f 8 a g) ?_)
  simp only [getD_c0, getD_c1, toInt_int]
  refine wp_call (ref10_Same_is _ _ _ _ (one_fits g)) ?_
  have hr := ref08_Right_sp _ (one_fits (f := f) g)
  have hok := unoA_right f 8 a g
  simp only [getD_c0, toBool_bool, eqA_self, decide_true, Bool.and_true, int_bne]
  refine wp_tt rfl (wp_decs (fun _ => awake_ret) (fun h0 => wp_call hr ?_))
  rw [(hok (Classical.not_not.1 h0)).1]
  exact wp_tt rfl awake_ret
theorem scalarTwo_sp (f : Int) (a b : Arr) (_ : -9223372036854775808 ≤ f ∧ f ≤ 9223372036854775807) (ha : Fits a) (hb : Fits b) : Sp 3 [.int f, dA a, dA b] [.bool true] := by
  obtain ⟨b1, h1, s1⟩ := ref08_Good_ex a ha
  obtain ⟨b2, h2, s2⟩ := ref08_Good_ex b hb
  refine sound_ 0 (law10_ScalarTwo_tree _ _ _ _) (wp_call s1 (wp_br (fun _ => awake_ret) (fun e1 => wp_call s2 (wp_br (fun _ => awake_ret) (fun e2 => ?_)))))
  have g1 := h1 (by simpa using e1)
  have g2 := h2 (by simpa using e2)
  obtain ⟨b3, s3⟩ := law10_Light_ex 8 a g1
  obtain ⟨b4, s4⟩ := law10_Light_ex 8 b g2
  refine wp_call s3 (wp_br (fun _ => awake_ret) (fun _ => wp_call s4 (wp_br (fun _ => awake_ret) (fun _ => ?_))))
  simp only [toInt_int, int_beq]
  have m1 := rightA_sml g1
  have m2 := rightA_sml g2
  obtain ⟨b5, h5, s5⟩ := law10_exponents_ex 8 b g2
  have hr := ref08_Right_sp _ (two_fits (f := f) g1 g2)
  have hok := twoA_right f 8 a b g1 g2
  have hsa := ref10_Same_is (twoA 8 f a b).1 (twoA 8 f a b).1 (twoA 8 f a b).2 (twoA 8 f a b).2 (two_fits g1 g2)
  have hin := ref07_Ints_sp (confA a b).1 (confA a b).1 (by have := conf_len a b; have := m1.1; have := m2.1; omega)
  have hc1 := scalar_Conform_sp a b m1 m2
  have hc2 := ref10_Conform_sp a b m1 m2
  have ht : (f = 42 → ExpOk b) → Sp 11 [.int f, dA a, dA b] [dA (twoA 8 f a b).1, .int (twoA 8 f a b).2] := scalar_Two_sp f 8 a b g1 g2
  have hu : (f = 42 → ExpOk b) → Sp 12 [.int f, dA a, dA b] [dA (twoA 8 f a b).1, .int (twoA 8 f a b).2] := ref10_Two_sp f 8 a b g1 g2
  simp only [eqA_self, decide_true, Bool.and_true] at hsa hin
  generalize twoA 8 f a b = r at *
  generalize confA a b = q at *
  refine wp_decs (fun hf => wp_call s5 (wp_br (fun _ => awake_ret) (fun e5 => ?_))) (fun hf => ?_)
  · have hp : f = 42 → ExpOk b := fun _ => h5 (by simpa using e5)
    refine wp_call (ht hp) (wp_call (hu hp) (wp_call hc1 (wp_call hc2 ?_)))
    simp only [getD_c0, getD_c1, toInt_int]
    refine wp_call hsa (wp_tt rfl ?_)
    simp only [int_bne]
    refine wp_decs (fun _ => wp_call hin (wp_tt rfl ?_)) (fun h0 => wp_call hr ?_)
    · exact wp_tt (by simp) awake_ret
    · rw [(hok (Classical.not_not.1 h0)).1]
      exact wp_tt rfl (wp_call hin (wp_tt rfl (wp_tt (by simp) awake_ret)))
  · have hp : f = 42 → ExpOk b := fun h => absurd h hf
    refine wp_call (ht hp) (wp_call (hu hp) (wp_call hc1 (wp_call hc2 ?_)))
    simp only [getD_c0, getD_c1, toInt_int]
    refine wp_call hsa (wp_tt rfl ?_)
    simp only [int_bne]
    refine wp_decs (fun _ => wp_call hin (wp_tt rfl ?_)) (fun h0 => wp_call hr ?_)
    · exact wp_tt (by simp) awake_ret
    · rw [(hok (Classical.not_not.1 h0)).1]
      exact wp_tt rfl (wp_call hin (wp_tt rfl (wp_tt (by simp) awake_ret)))
end Go.Proofs.YtjmddikeadbmjaaGreat
set_option maxRecDepth 100000
namespace Go.Proofs.YtjmddikeadbmjaaGreat
open Go.RowKit

theorem elt_u32_ : Elt Tryz.prog 42 110 1 4 :=
  ⟨Tryz.underlying42, by
    obtain ⟨i, hi, h1, h2, h3⟩ := info_parts (P := Tryz.prog) (e := 110) (z := .int .u32 0) (size := 1) (bytes := 4) (by kernel_rfl)
    exact ⟨i, _, hi, h1, h2, h3, rfl⟩, by decide⟩
/-- A row of limbs of its own is told. -/
def RetOL (l : List Limb) (w : World) (e : Ending) (w' : World) : Prop := ∃ v, e = .returned v ∧ Own w w' 110 1 l.length v ((l.map iB).map (.int .u32))
set_option maxHeartbeats 1000000 in
theorem rnorm_big (l : List Limb) (v : Value) (w : World) (h : SlL w v l) (hm : l.length ≤ 35184372088832) :
    Calls Tryz.prog 135 #[v] w (RetOL (lb (nv l)) w) := by
  obtain ⟨A, cp, rfl, hc, hcell⟩ := h.form
  rw [List.length_map] at hc ⊢
  have HC := Lib.hid hcell
  have HS := Lib.hid h
  clear hcell h
  go_enter Tryz.func135, Tryz.ntmps135
  go_wp2
  go_loop [3] (fun t => ∃ n : Nat, n ≤ l.length ∧ t = .int .i64 n ∧ ∀ i, n ≤ i → (hi : i < l.length) → l[i] = 0) (fun t => (intOf t).toNat)
  case atStart => exact ⟨l.length, Nat.le_refl _, rfl, fun i h hi => by omega⟩
  case round =>
    obtain ⟨n, hn, rfl, hz⟩ := hrel
    have HZ := Lib.hid hz
    clear hz
    by_cases hpos : 0 < n
    · have hin : n - 1 < l.length := by omega
      obtain ⟨ad, rfl, hb, hc1⟩ := HC.out (n - 1) (by simpa using hin)
      have hsub : ((n : Int) - 1).toNat = n - 1 := by omega
      have hge : (l.map iB)[n - 1]'(by simpa using hin) = ((l[n - 1]).toNat : Int) := by simp [iB]
      rw [hge] at hc1
      have HLT := Lib.hid (show l[n - 1] = 0 ∨ ¬ l[n - 1] = 0 from Decidable.em _)
      by_cases hx : (l[n - 1]).toNat = 0
      · have HX := Lib.hid (BitVec.eq_of_toNat_eq (x := l[n - 1]) (y := 0) (by simpa using hx))
        go_wp2
        go_round
        case rel => exact ⟨n - 1, by omega, by first | go_num | (congr 1; omega), fun i h hi => by
          by_cases e : i = n - 1
          · subst e; exact HX.out
          · exact HZ.out i (by omega) hi⟩
        case measure => (simp [intOf] <;> omega)
      · have HX := Lib.hid (show l[n - 1] ≠ 0 from fun e => hx (by rw [e]; rfl))
        have HT := Lib.hid (lb_take hn HZ.out (fun _ _ => HX.out))
        go_wp2_with (at_builtin; refine wpList_app elt_u32_ rfl _ _ rfl rfl (Own.nil_ _ _ (Ext.refl w)) rfl (HS.out.cut n cp (by rw [List.length_map]; omega) (by omega)) (by intro y hy; obtain ⟨z, _, rfl⟩ := List.mem_map.1 hy; rfl) (by rw [List.length_take, List.length_map]; omega) (by rw [List.length_take, List.length_map]; unfold maxLen; omega) ?_; intro v4 w4 hown4 hgr4)
        go_ret
        refine ⟨_, rfl, ?_⟩
        rw [HT.out]
        simpa [List.map_take] using hown4
    · obtain rfl : n = 0 := by omega
      have HT := Lib.hid (lb_take hn HZ.out (fun _ h => by omega))
      go_wp2_with (at_builtin; refine wpList_app elt_u32_ rfl _ _ rfl rfl (Own.nil_ _ _ (Ext.refl w)) rfl (HS.out.cut 0 cp (by omega) (by omega)) (by intro y hy; obtain ⟨z, _, rfl⟩ := List.mem_map.1 hy; rfl) (by simp) (by simp [maxLen]) ?_; intro v4 w4 hown4 hgr4)
      go_ret
      refine ⟨_, rfl, ?_⟩
      rw [HT.out]
      simpa using hown4
end Go.Proofs.YtjmddikeadbmjaaGreat
set_option maxRecDepth 100000
namespace Go.Proofs.YtjmddikeadbmjaaGreat
open Go.ChangeShapes Go.WideShapes Go.ChangeAt Go.RowKit

section
variable {P : Program} {H : Type} {enc : TypeId × Value → H} {W : World} {sp : Nat → Bool} {held : Bool}
theorem trod_slice {t e fuel : Nat} {cs : List Value} {x : DataW H × List MemPlace} (hu : P.underlying t = some (.slice e)) (h : DataW.trod enc P W 0 sp held fuel t cs = some x) (hw : ∀ z ∈ x.1.weights P t, z ≤ reachBytes) {A : Option Addr} {len cap : Nat} (hc : cs[0]? = some (.slice A len cap)) : len * P.bytesOf e ≤ reachBytes := by
  match fuel with
  | 0 => simp [DataW.trod] at h
  | fuel + 1 =>
    unfold DataW.trod at h
    split at h
    all_goals first
      | (rename_i hu'; rw [hu] at hu'; cases hu'; done)
      | skip
    · simp at hc
      obtain ⟨_, rfl, _⟩ := hc
      simp
    · rename_i e' a len' cap' hu'
      rw [hu] at hu'
      cases hu'
      split at h
      · obtain ⟨els, hel, hrest⟩ := Option.bind_eq_some_iff.1 h
        obtain ⟨rst, _, hx1⟩ := Option.map_eq_some_iff.1 hrest
        have hlen : els.length = len' := by simpa using mapM_some_length hel
        have h2 := hw ((els.length + rst.length) * P.bytesOf e) (by rw [← hx1]; simp [DataW.weights, hu])
        simp at hc
        obtain ⟨_, rfl, _⟩ := hc
        have h3 : len' * P.bytesOf e ≤ (els.length + rst.length) * P.bytesOf e := Nat.mul_le_mul_right _ (by omega)
        omega
      · cases h
    all_goals cases h
theorem trod_field {t fuel : Nat} {cs : List Value} {fs : List Field} {x : DataW H × List MemPlace} (hfs : fieldsOf P t = some fs) (h : DataW.trod enc P W 0 sp held fuel t cs = some x) (hw : ∀ z ∈ x.1.weights P t, z ≤ reachBytes) {i : Nat} {f : Field} (hi : fs[i]? = some f) : ∃ fuel' xi, DataW.trod enc P W 0 sp held fuel' f.type ((cs.drop f.offset).take (P.cellsOf f.type)) = some xi ∧ ∀ z ∈ xi.1.weights P f.type, z ≤ reachBytes := by
  obtain ⟨⟨b, hb, hbl⟩, hok⟩ := fieldsOf_under hfs
  match fuel with
  | 0 => simp [DataW.trod] at h
  | fuel + 1 =>
    unfold DataW.trod at h
    split at h
    all_goals first
      | (rename_i hu'; rw [hb] at hu'; cases hu'; done)
      | skip
    · rename_i fs' hu
      rw [hb] at hu
      cases hu
      split at h
      · obtain ⟨xs, hxs, hx1⟩ := Option.map_eq_some_iff.1 h
        have hg := mapM_some_get hxs i f (by rw [hbl]; exact hi)
        have hlt : i < xs.length := by rw [mapM_some_length hxs, hbl]; exact (List.getElem?_eq_some_iff.1 hi).1
        rw [List.getElem?_eq_getElem hlt] at hg
        refine ⟨fuel, _, hg, fun z hz => hw z ?_⟩
        rw [← hx1]
        simp only [DataW.weights, hb]
        exact DataW.weights_mem_each (j := i) (t := f.type) (by rw [hbl, List.getElem?_map, hi]; rfl) (d := xs[i].1) (by rw [List.getElem?_map, List.getElem?_eq_getElem hlt]; rfl) z hz
      · cases h
    all_goals cases h
theorem sl_cell {u : Nat} {es : List D} {c : Nat → Option Value} {md : Nat → FMode} {M : Nat → Prop} (h : RdC P md W M (.ty u) (.sl es) c) : ∃ A cap, c 0 = some (.slice A es.length cap) := by
  cases h with
  | @sl _ e' _ _ A cap bk off ht hc h4 h5 hA hh => exact ⟨A, cap, hc⟩
/-- A list field is no longer than memory has room for. -/
theorem field_len {t u e fuel : Nat} {v : Value} {fs : List Field} {x : DataW H × List MemPlace} {es ds : List D} {i : Nat} {f : Field} {md : Nat → FMode} {M : Nat → Prop} (hfs : fieldsOf P t = some fs) (h : DataW.trod enc P W 0 sp held fuel t v.cells.toList = some x) (hw : ∀ z ∈ x.1.weights P t, z ≤ reachBytes)
    (hr : RdC P md W M (.ty t) (.agg ds) (fun j => v.cells[j]?)) (hi : fs[i]? = some f) (ht : f.type = u) (hu : P.underlying u = some (.slice e)) (hpos : 0 < P.cellsOf u) (hd : ds[i]? = some (.sl es)) : es.length * P.bytesOf e ≤ reachBytes := by
  subst ht
  obtain ⟨fuel', xi, h1, h2⟩ := trod_field hfs h hw hi
  have h3 : RdC P md W M (.ty f.type) (.sl es) (fun j => v.cells[f.offset + j]?) := by
    cases hr with
    | struct hf hl hh =>
      rw [hfs] at hf
      cases hf
      exact hh i f _ hi hd
  obtain ⟨A, cap, h4⟩ := sl_cell h3
  refine trod_slice (A := A) (cap := cap) hu h1 h2 ?_
  rw [List.getElem?_take, if_pos hpos, List.getElem?_drop, Array.getElem?_toList]
  exact h4
end
section
variable {H : Type} {enc : TypeId × Value → H} {W : World} {sp : Nat → Bool} {held : Bool} {r : Reach} {b0 : Nat} {v : Value} {d : DataW H} {ps : List MemPlace}
theorem arg_numw (hval : Value.okWide Tryz.prog W r b0 44 v) (h : DataW.Trod enc Tryz.prog W 0 sp held 44 v d ps) (hw : ∀ z ∈ d.weights Tryz.prog 44, z ≤ reachBytes) : ∃ n : Num, (n.top.length ≤ 35184372088832 ∧ n.bot.length ≤ 35184372088832) ∧ Rd Tryz.prog md W (fun _ => False) (.ty 44) (dN n) v := by
  obtain ⟨n, _, hr⟩ := arg_num hval h
  refine ⟨n, ?_, hr⟩
  obtain ⟨fuel, hf⟩ := h
  obtain ⟨fs, hfs, ht⟩ := Option.map_eq_some_iff.1 fields_Num
  obtain ⟨f1, hf1, e1⟩ := types_at ht (i := 1) rfl
  obtain ⟨f2, hf2, e2⟩ := types_at ht (i := 2) rfl
  have hu : Tryz.prog.underlying 42 = some (.slice 110) := by kernel_rfl
  have hp : 0 < Tryz.prog.cellsOf 42 := by rw [show Tryz.prog.cellsOf 42 = 1 by kernel_rfl]; decide
  have hb : Tryz.prog.bytesOf 110 = 4 := by kernel_rfl
  have l1 := field_len hfs hf hw hr.rd hf1 e1 hu hp (es := n.top.map dB) rfl
  have l2 := field_len hfs hf hw hr.rd hf2 e2 hu hp (es := n.bot.map dB) rfl
  rw [hb, List.length_map, show reachBytes = 140737488351232 from rfl] at l1 l2
  omega
end
theorem ref02_Norm_big (l : List Limb) (hl : l.length ≤ 35184372088832) : Sp 135 [dL l] [dL (lb (nv l))] := by
  refine spec_of wfP Tryz.func135 (by kernel_rfl) (by kernel_rfl) (by kernel_rfl) (fun w M vs hM _ hlv hrd => ?_)
  have hps : Tryz.f135.params.toList = [42] := by kernel_rfl
  have hlen : vs.length = 1 := by rw [hlv]; rfl
  match vs, hlen with
  | [va], _ =>
    rw [hps] at hrd
    refine (rnorm_big l va w (rd_slL (hrd 0 _ _ _ rfl rfl rfl)) hl).mono ?_
    rintro e w' ⟨v, rfl, ho⟩
    refine ⟨[v], rfl, rfl, fun i t u ht hu => ?_, ho.ext⟩
    rw [show Tryz.f135.resultTypes.toList = [42] by kernel_rfl] at ht
    match i with
    | 0 =>
      cases ht; cases hu
      have hs : SlL w' v (lb (nv l)) := by
        have := ho.sl
        unfold SlL SlI
        rw [List.length_map]; exact this
      rcases ho.own.2 with ⟨rfl, h0⟩ | ⟨G, cap, cur, rfl, hG, _, _, hcm, _, _⟩
      · have h0' : lb (nv l) = [] := List.eq_nil_of_length_eq_zero h0
        rw [h0']
        exact ⟨.sl (e := 110) (A := none) (cap := 0) (bk := 0) (off := 0) (by kernel_rfl) rfl (Nat.le_refl _) (Nat.zero_le _) (fun hne => absurd rfl hne) (fun i x hx => by simp at hx), by kernel_rfl, by kernel_rfl⟩
      · exact win_rd hs hcm (fun hm => by have := hM G hm; omega)
    | i + 1 => simp at ht
theorem ref03_Norm_big (w : Wh) (h : w.mag.length ≤ 35184372088832) : Sp 105 [dW w] [dW (wz (zv w))] := by
  refine sound_ 0 (ref03_Norm_tree _ _) (wp_call (ref02_Norm_big w.mag h) ?_)
  simp only [getD_c0, els_dL, List.length_map, int_beq, dW_0, toBool_bool]
  refine wp_decs (fun h => wp_ret ?_) (fun h => wp_ret ?_)
  · have h0 : nv w.mag = 0 := lb_len0.1 (by omega)
    rw [wz_zv, if_pos h0]; rfl
  · have h0 : nv w.mag ≠ 0 := fun hh => h (by rw [hh, lb_zero]; rfl)
    rw [wz_zv, if_neg h0]; rfl
theorem ref03_Small_big (z : Int) (h : (lb z.natAbs).length ≤ 35184372088832) : Sp 52 [dW (wz z)] (smallZ z) := by
  have e0 : zv (wz z) = z := zv_wz z
  rcases Nat.lt_or_ge 10000 (wz z).mag.length with hb | hs
  · refine sound_ 10 (ref03_Small_tree _ _) (wp_call (ref03_Norm_big (wz z) h) ?_)
    rw [e0]
    simp only [getD_c0, dW_0, dW_1, els_dL, List.length_map]
    refine wp_dec (by omega) (wp_ret ?_)
    have h2 : ¬ (lb z.natAbs).length ≤ 2 := by have : (wz z).mag.length = (lb z.natAbs).length := rfl; omega
    rw [lb_len] at h2
    have : ¬ inR z := by
      intro hr
      apply h2
      unfold inR at hr
      show z.natAbs < 18446744073709551616
      omega
    rw [smallZ, if_neg this]
  · have := ref03_Small_sp (wz z) hs
    rwa [e0] at this
theorem ref04_Small_big (n : Num) (h : n.top.length ≤ 35184372088832) : Sp 23 [dN n] (optI (smallN n)) := by
  refine sound_ 0 (ref04_Small_tree _ _) (wp_call (ref04_IsWhole_sp n) ?_)
  simp only [getD_c0, toBool_bool, not_dec]
  unfold smallN
  refine wp_decs (fun h => wp_ret ?_) (fun h0 => ?_)
  · rw [if_neg h]; rfl
  · rw [if_pos (Classical.not_not.1 h0)]
    have top : Sp 53 [dN n] [dW (wz (numT n))] := by
      refine sound_ 0 (ref04_Top_tree _ _) ?_
      simp only [dN_0, dN_1, toBool_bool]
      exact wp_call (ref03_Norm_big ⟨n.neg, n.top⟩ h) (wp_ret rfl)
    have hl : (wz (numT n)).mag.length ≤ n.top.length := wz_len ⟨n.neg, n.top⟩
    refine wp_call top (wp_call (ref03_Small_big (numT n) (by have : (wz (numT n)).mag.length = (lb (numT n).natAbs).length := rfl; omega)) ?_)
    rw [smallZ_eq]
    cases smO (numT n) <;> exact wp_ret rfl
end Go.Proofs.YtjmddikeadbmjaaGreat
set_option maxRecDepth 100000
namespace Go.Proofs.YtjmddikeadbmjaaGreat

section
variable {a b : Num} {z y : Int} {d e : Nat}
theorem zero_sm : SmN Num.zero := ⟨by simp [Num.zero], by simp [Num.zero]⟩
theorem oneN_sm (f : Int) (h : RNum a z d) : SmN (oneN f a).1 := by
  by_cases h0 : (oneN f a).2 = 0
  · obtain ⟨x, c, hc⟩ := oneN_rn f h h0
    exact hc.sm
  unfold oneN at h0 ⊢
  by_cases h1 : f = 43
  · rw [if_pos h1] at h0; exact absurd rfl h0
  rw [if_neg h1] at h0 ⊢
  by_cases h1 : f = 45
  · rw [if_pos h1] at h0; exact absurd rfl h0
  rw [if_neg h1] at h0 ⊢
  by_cases h1 : f = 215
  · rw [if_pos h1] at h0; exact absurd rfl h0
  rw [if_neg h1] at h0 ⊢
  by_cases h1 : f = 247
  · rw [if_pos h1]; exact mkR_sm _ _
  rw [if_neg h1] at h0 ⊢
  by_cases h1 : f = 8968
  · rw [if_pos h1] at h0; exact absurd rfl h0
  rw [if_neg h1] at h0 ⊢
  by_cases h1 : f = 8970
  · rw [if_pos h1] at h0; exact absurd rfl h0
  rw [if_neg h1] at h0 ⊢
  by_cases h1 : f = 124
  · rw [if_pos h1] at h0; exact absurd rfl h0
  rw [if_neg h1] at h0 ⊢
  split
  · split
    · exact (rnum_ofZ (z := 1) lenZ_small).sm
    · split
      · exact (rnum_ofZ (z := 0) lenZ_small).sm
      · exact zero_sm
  · split
    · unfold factR
      split
      · split
        · split
          · exact mkR_sm _ _
          · exact zero_sm
        · exact zero_sm
      · exact zero_sm
    · exact zero_sm
theorem twoN_sm (f : Int) (h : RNum a z d) (h' : RNum b y e) : SmN (twoN f a b).1 := by
  by_cases h0 : (twoN f a b).2 = 0
  · obtain ⟨x, c, hc⟩ := twoN_rn f h h' h0
    exact hc.sm
  unfold twoN at h0 ⊢
  split
  · exact mkR_sm _ _
  split
  · exact mkR_sm _ _
  split
  · exact mkR_sm _ _
  split
  · exact mkR_sm _ _
  split
  · show SmN (if cmpR a b < 0 then b else a); split; exact h'.sm; exact h.sm
  split
  · show SmN (if cmpR a b < 0 then a else b); split; exact h.sm; exact h'.sm
  split
  · exact modR_sm h h'
  split
  · split
    · exact powRt_sm _ _
    · exact zero_sm
  split
  · exact lcmR_sm h h'
  split
  · exact gcdR_sm h h'
  · unfold cmpT
    repeat (split; · exact (truN_rn _).elim fun z hz => hz.sm)
    exact zero_sm
end
theorem law10_small_ex (n : Num) : ∃ b, Sp 25 [dN n] [.bool b] := by
  suffices hh : Tells (.br (decide ((((dN n).fld 1).els.length : Int) ≤ 8)) (.ret [D.bool (decide ((((dN n).fld 2).els.length : Int) ≤ 8))]) (.ret [D.bool false])) (fun _ => True) by
    obtain ⟨b, h1, _⟩ := hh
    exact ⟨b, sound_ 0 (law10_small_tree _ _) h1⟩
  exact Tells.br (fun _ => Tells.ret trivial) (fun _ => Tells.ret trivial)
theorem scalarNumbers_sp (f : Int) (a b : Num) (_ : -9223372036854775808 ≤ f ∧ f ≤ 9223372036854775807) (_ : a.top.length ≤ 35184372088832 ∧ a.bot.length ≤ 35184372088832) (hb : b.top.length ≤ 35184372088832 ∧ b.bot.length ≤ 35184372088832) : Sp 4 [.int f, dN a, dN b] [.bool true] := by
  obtain ⟨c1, t1⟩ := law10_small_ex a
  obtain ⟨c2, t2⟩ := law10_small_ex b
  refine sound_ 0 (law10_ScalarNumbers_tree _ _ _ _) ?_
  simp only [toInt_int]
  refine wp_call (scalar_IsOne_sp f) (wp_call ref10_Ones_sp (wp_call (ref06_In_sp onesL f (by decide)) (wp_ff (by simp) ?_)))
  refine wp_call (scalar_IsTwo_sp f) (wp_call ref10_Twos_sp (wp_call (ref06_In_sp twosL f (by decide)) (wp_ff (by simp) ?_)))
  refine wp_call (ref04_Small_big b hb.1) ?_
  refine wp_call (ref04_Right_sp a) (wp_br (fun _ => awake_ret) (fun e1 => wp_call (ref04_Right_sp b) (wp_br (fun _ => awake_ret) (fun e2 => ?_))))
  refine wp_call t1 (wp_br (fun _ => awake_ret) (fun _ => wp_call t2 (wp_br (fun _ => awake_ret) (fun _ => ?_))))
  obtain ⟨z, d, ra⟩ := rn_of (n := a) (by simpa using e1)
  obtain ⟨y, e, rb⟩ := rn_of (n := b) (by simpa using e2)
  have s1 : Sp 30 [dN (oneN f a).1, dN (oneN f a).1] [.bool true] := by
    have hs := oneN_sm f ra
    have := ref04_Same_sp (oneN f a).1 (oneN f a).1 (by have := hs.1; omega) (by have := hs.2; omega)
    simpa using this
  have s2 : Sp 30 [dN (twoN f a b).1, dN (twoN f a b).1] [.bool true] := by
    have hs := twoN_sm f ra rb
    have := ref04_Same_sp (twoN f a b).1 (twoN f a b).1 (by have := hs.1; omega) (by have := hs.2; omega)
    simpa using this
  simp only [int_beq]
  refine wp_decs (fun hf => ?_) (fun hf => ?_)
  · cases hs : smallN b with
    | none =>
      have hp : PowOk f b := fun _ k hk => by rw [hs] at hk; cases hk
      simp only [optI, getD_c0, getD_c1, toInt_int, toBool_bool]
      refine wp_ff rfl ?_
      refine wp_call (scalar_Number_sp f ra) (wp_call (ref10_Number_sp f ra) (wp_call (scalar_Numbers_sp f ra rb hp) (wp_call (ref10_Numbers_sp f ra rb hp) ?_)))
      simp only [retR, getD_c0, getD_c1, toInt_int]
      exact wp_tt (by simp) (wp_call s1 (wp_tt (by simp) (wp_tt (by simp) (wp_call s2 (wp_tt (by simp) awake_ret)))))
    | some k =>
      simp only [optI, getD_c0, getD_c1, toInt_int, toBool_bool]
      refine wp_tt rfl (wp_decs (fun _ => awake_ret) (fun g1 => wp_decs (fun _ => awake_ret) (fun g2 => ?_)))
      have hp : PowOk f b := fun _ k' hk => by rw [hs] at hk; cases hk; omega
      refine wp_call (scalar_Number_sp f ra) (wp_call (ref10_Number_sp f ra) (wp_call (scalar_Numbers_sp f ra rb hp) (wp_call (ref10_Numbers_sp f ra rb hp) ?_)))
      simp only [retR, getD_c0, getD_c1, toInt_int]
      exact wp_tt (by simp) (wp_call s1 (wp_tt (by simp) (wp_tt (by simp) (wp_call s2 (wp_tt (by simp) awake_ret)))))
  · have hp : PowOk f b := fun h => absurd h hf
    refine wp_call (scalar_Number_sp f ra) (wp_call (ref10_Number_sp f ra) (wp_call (scalar_Numbers_sp f ra rb hp) (wp_call (ref10_Numbers_sp f ra rb hp) ?_)))
    simp only [retR, getD_c0, getD_c1, toInt_int]
    exact wp_tt (by simp) (wp_call s1 (wp_tt (by simp) (wp_tt (by simp) (wp_call s2 (wp_tt (by simp) awake_ret)))))
end Go.Proofs.YtjmddikeadbmjaaGreat
set_option maxRecDepth 100000
namespace Go.Proofs.YtjmddikeadbmjaaGreat
open Go.ChangeShapes Go.WideShapes Go.ChangeAt Go.RowKit

set_option maxRecDepth 100000 in
theorem scalarNumbers_lifted (os : Os) (started : os.Started) (H : Type) (enc : TypeId × Value → H) :
    ReturnsInHanded {} Tryz.checked os 4 .any (Rows.scalarNumbersSpec.pre6 enc Tryz.prog Tryz.f4 Rows.scalarNumbersRow.domain false) (Rows.scalarNumbersSpec.post enc Tryz.prog Tryz.f4 false true false false) := by
  refine returnsInHanded_of_change_sized (C := Tryz.checked) knob started (by kernel_rfl) Tryz.func4
    (ChangeSpec.witness6 (enc := enc) (C := Tryz.checked) false ⟨#[], #[.int .i64 0, .agg #[.bool false, .slice none 0 0, .slice none 0 0], .agg #[.bool false, .slice none 0 0, .slice none 0 0]], []⟩ 16 (by kernel_rfl) (by kernel_rfl) (by kernel_rfl) (by kernel_rfl)) ?_
  intro W base args ds gs before hval0 hW hcnd hwt0 _
  have hval : ∀ (j : Nat) t v, Tryz.f4.params[j]? = some t → args[j]? = some v → Value.okWide Tryz.prog W .any base t v := hval0
  have hW' := hW
  obtain ⟨p, q, hA0, hV, rfl, hfz, hnd⟩ := hW
  have hA : DataW.TrodAll enc Tryz.prog W 0 (fun _ => true) true Tryz.f4.params.toList args.toList ds p := hA0
  rw [Tryz.params4] at hA hval
  obtain ⟨v0, vs0, d0, ds0, p0, q0, hargs, rfl, rfl, h0, r0⟩ := trodAll_cons hA
  obtain ⟨v1, vs1, d1, ds1, p1, q1, rfl, rfl, rfl, h1, r1⟩ := trodAll_cons r0
  obtain ⟨v2, vs2, d2, ds2, p2, q2, rfl, rfl, rfl, h2, r2⟩ := trodAll_cons r1
  obtain ⟨rfl, rfl, rfl⟩ := trodAll_nil r2
  obtain rfl : args = #[v0, v1, v2] := by cases args; simp_all
  have hwt : ∀ (j t : Nat) d, (Tryz.f4.params.toList)[j]? = some t → ([d0, d1, d2])[j]? = some d → ∀ z ∈ DataW.weights Tryz.prog t d, z ≤ reachBytes := fun j t d ht hd z hz => by
    have hl := (List.getElem?_eq_some_iff.1 ht).1
    have hl2 := (List.getElem?_eq_some_iff.1 hd).1
    have := List.all_eq_true.1 hwt0 z (DataW.weights_mem_each (j := j) (t := t) (d := d) (by rw [List.getElem?_append_left hl]; exact ht) (by rw [List.getElem?_append_left hl2]; exact hd) z hz)
    simpa using this
  obtain ⟨x0, hx0, hr0⟩ := arg_int (hval 0 3 v0 rfl rfl) h0
  obtain ⟨x1, hx1, hr1⟩ := arg_numw (hval 1 44 v1 rfl rfl) h1 (hwt 1 _ _ rfl rfl)
  obtain ⟨x2, hx2, hr2⟩ := arg_numw (hval 2 44 v2 rfl rfl) h2 (hwt 2 _ _ rfl rfl)
  refine (law_calls (vs := [v0, v1, v2]) (scalarNumbers_sp x0 x1 x2 hx0 hx1 hx2) Tryz.func4 (by kernel_rfl) (by kernel_rfl) Tryz.underlying4 rfl rfl ?_).mono fun e W' ⟨he, hx⟩ => ⟨_, he, law_post laidOut hW' rfl (by kernel_rfl) Tryz.underlying4 rfl (by kernel_rfl) hx⟩
  intro i t x v ht hx hv
  match i with
  | 0 => cases (show some 3 = some t from ht); cases hx; cases hv; exact hr0
  | 1 => cases (show some 44 = some t from ht); cases hx; cases hv; exact hr1
  | 2 => cases (show some 44 = some t from ht); cases hx; cases hv; exact hr2
  | i + 3 => cases hx

theorem scalarNumbers_holds : Rows.ScalarNumbersSaid :=
  OpenClaim.holds_of_wide 4 Tryz.f4 rfl rfl rfl rfl rfl rfl rfl ⟨rfl, rfl, rfl, rfl, rfl⟩ rfl rfl rfl rfl rfl (by kernel_rfl) Tryz.func4 (by kernel_rfl)
    (of_decide_eq_true (by kernel_rfl)) (by unfold Func.isWrapper; first | (rw [if_pos (by decide +kernel)]; kernel_rfl) | (rw [if_neg (by decide +kernel)]; exact ⟨rfl, rfl⟩))
    (fun os started H enc _ => scalarNumbers_lifted os started H enc)

end Go.Proofs.YtjmddikeadbmjaaGreat
