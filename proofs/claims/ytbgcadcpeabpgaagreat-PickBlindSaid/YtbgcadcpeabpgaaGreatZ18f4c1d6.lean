/- Proved: lemmas for the law of this folder, part 5. No condition. -/
import Derived.Test.YtbgcadcpeabpgaaGreatRows
import Derived.WalkKit
import Derived.WalkSpells
import Derived.WalkLawsBesides
import Derived.Lib.Hide
import Derived.Laws.CopyOwn
import Derived.Deep.QuietTactic
import Derived.BigQuiet
import Derived.Orders
import Derived.Defers
import Derived.Recover
import Derived.Test.YtbgcadcpeabpgaaGreatProg
import Derived.KernelRfl
import Derived.ProofKit
import Derived.OpenShut
import Derived.Test.YtbgcadcpeabpgaaGreatZ68e72612
set_option linter.unusedSimpArgs false
set_option linter.unusedVariables false
set_option maxRecDepth 100000
namespace Go.Proofs.YtbgcadcpeabpgaaGreat

theorem bigFuel : ∃ N : Nat, 9223372036854775808 < N := ⟨9223372036854775809, by decide⟩
/-- A loop along a list, whatever is told at its end. -/
theorem loop_any {α σ : Type} {P : Program} {md : Nat → FMode} {Q : List D → Prop} (xs : List α) (L : Nat → Nat → σ → Tree) (I : List α → σ → Prop)
    (hnil : ∀ m k s, k = xs.length → I [] s → (L (m + 1) k s).wp P md Q)
    (hcons : ∀ m k s x rest, xs.drop k = x :: rest → I (x :: rest) s → (∀ s', I rest s' → (L m (k + 1) s').wp P md Q) → (L (m + 1) k s).wp P md Q) :
    ∀ m k s, xs.length - k < m → k ≤ xs.length → I (xs.drop k) s → (L m k s).wp P md Q := by
  intro m
  induction m with
  | zero => intro k s h; omega
  | succ m ih =>
    intro k s h1 h2 hI
    cases hd : xs.drop k with
    | nil => rw [hd] at hI; exact hnil m k s (by have := drop_nil hd; omega) hI
    | cons x rest =>
      rw [hd] at hI
      obtain ⟨a1, a2, a3⟩ := drop_cons hd
      exact hcons m k s x rest hd hI (fun s' hI' => ih (k + 1) s' (by omega) (by omega) (by rw [a3]; exact hI'))
/-- The product of lengths; 0 if it is too great. -/
def prodS : List Int → Int → Int
  | [], p => p
  | x :: xs, p => if 2048 < p * x then 0 else prodS xs (p * x)
/-- How many cells; an error. -/
def countS (l : List Int) : Int × Int :=
  if 6 < l.length then (0, 7) else if l.any (fun x => decide (x < 0)) then (0, 3) else if l.any (fun x => decide (2048 < x)) then (0, 7)
  else if l.any (fun x => decide (x = 0)) then (0, 0) else if prodS l 1 = 0 then (0, 7) else (prodS l 1, 0)
theorem prod_le {x y : Int} (h1 : 1 ≤ x) (h2 : x ≤ 2048) (h3 : 1 ≤ y) (h4 : y ≤ 2048) : 1 ≤ x * y ∧ x * y ≤ 4194304 := by
  constructor
  · have := Int.mul_le_mul h1 h3 (by omega) (by omega); omega
  · have := Int.mul_le_mul h2 h4 (by omega) (by omega); omega
theorem prodS_pos : ∀ (l : List Int) (p : Int), 1 ≤ p → p ≤ 2048 → (∀ x ∈ l, 1 ≤ x ∧ x ≤ 2048) → 0 ≤ prodS l p ∧ prodS l p ≤ 2048
  | [], p, h1, h2, _ => by simp only [prodS]; omega
  | x :: xs, p, h1, h2, h => by
    simp only [prodS]
    have hx := h x (by simp)
    have := prod_le h1 h2 hx.1 hx.2
    split
    · omega
    · exact prodS_pos xs (p * x) this.1 (by omega) (fun y hy => h y (by simp [hy]))
theorem any_false {l : List Int} {p : Int → Bool} (h : ¬ l.any p = true) : ∀ x ∈ l, p x = false := fun x hx => by
  cases hp : p x with
  | false => rfl
  | true => exact absurd (List.any_eq_true.2 ⟨x, hx, hp⟩) h
theorem count_pos {l : List Int} (h1 : ¬ l.any (fun x => decide (x < 0)) = true) (h2 : ¬ l.any (fun x => decide (2048 < x)) = true) (h3 : ¬ l.any (fun x => decide (x = 0)) = true) : ∀ x ∈ l, 1 ≤ x ∧ x ≤ 2048 := fun x hx => by
  have a := of_decide_eq_false (any_false h1 x hx)
  have b := of_decide_eq_false (any_false h2 x hx)
  have c := of_decide_eq_false (any_false h3 x hx)
  omega
theorem countS_le (l : List Int) : 0 ≤ (countS l).1 ∧ (countS l).1 ≤ 2048 := by
  unfold countS
  split
  · decide
  split
  · decide
  split
  · decide
  split
  · decide
  split
  · decide
  · rename_i h1 h2 h3 h4 _; exact prodS_pos l 1 (by decide) (by decide) (count_pos h2 h3 h4)
theorem countS_len {l : List Int} (h : (countS l).2 = 0) : l.length ≤ 6 ∧ ∀ x ∈ l, 0 ≤ x ∧ x ≤ 2048 := by
  unfold countS at h
  split at h
  · cases h
  split at h
  · cases h
  split at h
  · cases h
  · rename_i h1 h2 h3
    refine ⟨by omega, fun x hx => ?_⟩
    have a := of_decide_eq_false (any_false h2 x hx)
    have b := of_decide_eq_false (any_false h3 x hx)
    omega
/-- The first place of one that is asked for. -/
def idxD (p : Int → Bool) : Nat → List Int → Int
  | _, [] => -1
  | k, x :: xs => if p x then (k : Int) else idxD p (k + 1) xs
def cpD (p : Int) : List D := if p = 0 then [.int 0, .int 7] else [.int p, .int 0]
theorem prodS_cons (x : Int) (xs : List Int) (p : Int) : prodS (x :: xs) p = if 2048 < p * x then 0 else prodS xs (p * x) := rfl
theorem idxD_cons (p : Int → Bool) (k : Nat) (x : Int) (xs : List Int) : idxD p k (x :: xs) = if p x then (k : Int) else idxD p (k + 1) xs := rfl
theorem ref07_Count2 (N : Nat) (l : List Int) (hl : l.length < N) (hb : l.length ≤ 6) (hx : ∀ x ∈ l, 1 ≤ x ∧ x ≤ 2048) : Tw (ref07_Count_l17 N N (dI l) 1 0) (cpD (prodS l 1)) := by
  have key := loop_list (P := Tryz.prog) (md := md) l (fun m k (p : Int) => ref07_Count_l17 N m (dI l) p (k : Int)) (fun rest p => cpD (prodS rest p)) (fun _ p => 1 ≤ p ∧ p ≤ 2048)
    (fun m k p hk hI => by
      simp only [ref07_Count_l17_succ, els_dI, List.length_map]
      refine wp_ndec (by omega) (wp_ret ?_)
      show _ = cpD p
      rw [cpD, if_neg (by omega)])
    (fun m k p x rest hd hI ih => by
      obtain ⟨h1, h2, h3⟩ := drop_cons hd
      have hxx := hx x (List.mem_of_getElem? h2)
      have hp := prod_le hI.1 hI.2 hxx.1 hxx.2
      simp only [ref07_Count_l17_succ, els_dI, List.length_map, Int.toNat_natCast, getD_map h2, toInt_int, wrap_succ (show k < 9223372036854775807 by omega), wrap64 (x := p * x) (by omega) (by omega)]
      repeat (refine wp_dec (by omega) ?_)
      rw [prodS_cons]
      refine wp_decs (fun h => wp_ret ?_) (fun h => ?_)
      · rw [if_pos h]; rfl
      · rw [if_neg h]; exact ih _ ⟨hp.1, by omega⟩)
    N 0 1 (by omega) (by omega) (by decide)
  exact key
theorem ref07_Count_sp (l : List Int) : Sp 49 [dI l] [.int (countS l).1, .int (countS l).2] := by
  refine sound_ (l.length + 1) (ref07_Count_tree _ _) ?_
  simp only [els_dI, List.length_map]
  unfold countS
  refine wp_decs (fun h => wp_ret ?_) (fun h => ?_)
  · rw [if_pos (by omega)]
  · rw [if_neg (by omega)]
    have key := loop_list (P := Tryz.prog) (md := md) l (fun m k (s : Bool × Bool) => ref07_Count_l5 (l.length + 1) m (dI l) s.1 s.2 (k : Int))
      (fun rest s => if rest.any (fun x => decide (x < 0)) then [.int 0, .int 3] else if s.1 || rest.any (fun x => decide (2048 < x)) then [.int 0, .int 7] else if s.2 || rest.any (fun x => decide (x = 0)) then [.int 0, .int 0] else cpD (prodS l 1))
      (fun rest s => (∀ x ∈ l, (0 ≤ x ∧ (s.1 = true ∨ x ≤ 2048) ∧ (s.2 = true ∨ x ≠ 0)) ∨ x ∈ rest))
      (fun m k s hk hI => by
        simp only [ref07_Count_l5_succ, els_dI, List.length_map]
        refine wp_ndec (by omega) (wp_br (fun h1 => wp_ret ?_) (fun h1 => wp_br (fun h2 => wp_ret ?_) (fun h2 => ?_)))
        · simp [h1]
        · simp [h1, h2]
        · simp only [h1, h2, List.any_nil, Bool.or_self, Bool.false_eq_true, if_false]
          refine ref07_Count2 (l.length + 1) l (by omega) (by omega) (fun x hx => ?_)
          rcases hI x hx with ⟨a, b, c⟩ | b
          · rw [h1] at b; rw [h2] at c
            simp at b c
            omega
          · cases b)
      (fun m k s x rest hd hI ih => by
        obtain ⟨h1, h2, h3⟩ := drop_cons hd
        simp only [ref07_Count_l5_succ, els_dI, List.length_map, Int.toNat_natCast, getD_map h2, toInt_int, wrap_succ (show k < 9223372036854775807 by omega), int_beq]
        repeat (refine wp_dec (by omega) ?_)
        refine wp_decs (fun h => wp_ret ?_) (fun h => ?_)
        · simp [h]
        · have hih : ∀ s' : Bool × Bool, s' = (s.1 || decide (2048 < x), s.2 || decide (x = 0)) → Tw (ref07_Count_l5 (l.length + 1) m (dI l) s'.1 s'.2 ((k + 1 : Nat) : Int)) (if (x :: rest).any (fun x => decide (x < 0)) then [.int 0, .int 3] else if s.1 || (x :: rest).any (fun x => decide (2048 < x)) then [.int 0, .int 7] else if s.2 || (x :: rest).any (fun x => decide (x = 0)) then [.int 0, .int 0] else cpD (prodS l 1)) := fun s' hs' => by
            have := ih s' (fun y hy => by
              subst hs'
              rcases hI y hy with ⟨a, b, c⟩ | b
              · refine .inl ⟨a, ?_, ?_⟩
                · rcases b with b | b
                  · left; simp [b]
                  · right; exact b
                · rcases c with b | b
                  · left; simp [b]
                  · right; exact b
              · rcases List.mem_cons.1 b with rfl | b
                · left
                  refine ⟨by omega, ?_, ?_⟩
                  · by_cases hh : 2048 < y
                    · left; simp [hh]
                    · right; omega
                  · by_cases hh : y = 0
                    · left; simp [hh]
                    · right; exact hh
                · exact .inr b)
            subst hs'
            rw [List.any_cons, List.any_cons, List.any_cons, decide_eq_false h, Bool.false_or, ← Bool.or_assoc, ← Bool.or_assoc]
            exact this
          refine wp_br (fun b1 => wp_br (fun b2 => ?_) (fun b2 => ?_)) (fun b1 => ?_)
          · exact hih (true, true) (by simp [b1, b2])
          · repeat (refine wp_dec (by omega) ?_)
            exact hih (true, decide (x = 0)) (by simp [b1, b2])
          · repeat (refine wp_dec (by omega) ?_)
            refine wp_br (fun b2 => ?_) (fun b2 => ?_)
            · exact hih (decide (2048 < x), true) (by simp [b1, b2])
            · repeat (refine wp_dec (by omega) ?_)
              exact hih (decide (2048 < x), decide (x = 0)) (by simp [b1, b2]))
      (l.length + 1) 0 (false, false) (by omega) (by omega) (fun x hx => .inr hx)
    have e : (fun (c : Int × Int) => [D.int c.1, D.int c.2]) (if l.any (fun x => decide (x < 0)) then (0, 3) else if l.any (fun x => decide (2048 < x)) then (0, 7)
      else if l.any (fun x => decide (x = 0)) then (0, 0) else if prodS l 1 = 0 then (0, 7) else (prodS l 1, 0)) = (if l.any (fun x => decide (x < 0)) then [.int 0, .int 3] else if false || l.any (fun x => decide (2048 < x)) then [.int 0, .int 7] else if false || l.any (fun x => decide (x = 0)) then [.int 0, .int 0] else cpD (prodS l 1)) := by
      simp only [Bool.false_or]
      split
      · rfl
      split
      · rfl
      split
      · rfl
      show _ = cpD _
      unfold cpD
      split <;> rfl
    show Tw _ ((fun (c : Int × Int) => [D.int c.1, D.int c.2]) _)
    rw [e]
    exact key
theorem idxD_any (p : Int → Bool) : ∀ (l : List Int) (k : Nat), decide (0 ≤ idxD p k l) = l.any p
  | [], k => by simp [idxD]
  | x :: xs, k => by
    rw [idxD_cons, List.any_cons]
    by_cases hp : p x = true
    · rw [if_pos hp]; simp [hp]
    · rw [if_neg hp, idxD_any p xs (k + 1)]; simp [hp]
theorem Count1_sp (x : Int) : Sp 97 [.int x] [.bool (decide (x < 0))] := sound_ 0 (shape_Count_1_tree _ _) (wp_ret rfl)
theorem Count2_sp (x : Int) : Sp 98 [.int x] [.bool (decide (2048 < x))] := sound_ 0 (shape_Count_2_tree _ _) (wp_ret rfl)
theorem Contains1_sp (l : List Int) (hb : l.length ≤ 6) : Sp 41 [dI l, D.fn 97 [] []] [.bool (l.any (fun x => decide (x < 0)))] := by
  refine sound_ 0 (slices_ContainsFunc_int_int_tree_shape_Count_1 _ _) (wp_call (ys := [.int (idxD (fun x => decide (x < 0)) 0 l)]) ?_ (wp_ret ?_))
  · refine sound_ (l.length + 1) (slices_IndexFunc_int_int_tree_shape_Count_1 _ _) ?_
    have key := loop_list (P := Tryz.prog) (md := md) l (fun m k (_ : Unit) => slices_IndexFunc_int_int_l2 (l.length + 1) m (dI l) (D.fn 97 [] []) (l.length : Int) (k : Int)) (fun rest _ => [.int (idxD (fun x => decide (x < 0)) (l.length - rest.length) rest)]) (fun _ _ => True)
      (fun m k p hk hI => by
        simp only [slices_IndexFunc_int_int_l2_succ_shape_Count_1]
        refine wp_ndec (by omega) (wp_ret ?_)
        simp [idxD])
      (fun m k p x rest hd hI ih => by
        obtain ⟨h1, h2, h3⟩ := drop_cons hd
        have hle := congrArg List.length hd; rw [List.length_drop, List.length_cons] at hle; have hk : l.length - (x :: rest).length = k := by rw [List.length_cons]; omega
        have hk' : l.length - rest.length = k + 1 := by omega
        simp only [slices_IndexFunc_int_int_l2_succ_shape_Count_1, els_dI, List.length_map, Int.toNat_natCast, getD_map h2, toInt_int, wrap_succ (show k < 9223372036854775807 by omega), fnId_fn, fnCts_fn, fnDs_fn, List.append_nil]
        repeat (refine wp_dec (by omega) ?_)
        refine wp_call (Count1_sp x) ?_
        simp only [getD_c0, toBool_bool, idxD, hk]
        refine wp_decs (fun h => wp_ret ?_) (fun h => ?_)
        · simp [h]
        · have := ih () trivial
          rw [hk'] at this
          simpa [h] using this)
      (l.length + 1) 0 () (by omega) (by omega) trivial
    simpa using key
  · exact congrArg (fun b => [D.bool b]) (idxD_any _ l 0)
theorem Contains2_sp (l : List Int) (hb : l.length ≤ 6) : Sp 41 [dI l, D.fn 98 [] []] [.bool (l.any (fun x => decide (2048 < x)))] := by
  refine sound_ 0 (slices_ContainsFunc_int_int_tree_shape_Count_2 _ _) (wp_call (ys := [.int (idxD (fun x => decide (2048 < x)) 0 l)]) ?_ (wp_ret ?_))
  · refine sound_ (l.length + 1) (slices_IndexFunc_int_int_tree_shape_Count_2 _ _) ?_
    have key := loop_list (P := Tryz.prog) (md := md) l (fun m k (_ : Unit) => slices_IndexFunc_int_int_l2 (l.length + 1) m (dI l) (D.fn 98 [] []) (l.length : Int) (k : Int)) (fun rest _ => [.int (idxD (fun x => decide (2048 < x)) (l.length - rest.length) rest)]) (fun _ _ => True)
      (fun m k p hk hI => by
        simp only [slices_IndexFunc_int_int_l2_succ_shape_Count_2]
        refine wp_ndec (by omega) (wp_ret ?_)
        simp [idxD])
      (fun m k p x rest hd hI ih => by
        obtain ⟨h1, h2, h3⟩ := drop_cons hd
        have hle := congrArg List.length hd; rw [List.length_drop, List.length_cons] at hle; have hk : l.length - (x :: rest).length = k := by rw [List.length_cons]; omega
        have hk' : l.length - rest.length = k + 1 := by omega
        simp only [slices_IndexFunc_int_int_l2_succ_shape_Count_2, els_dI, List.length_map, Int.toNat_natCast, getD_map h2, toInt_int, wrap_succ (show k < 9223372036854775807 by omega), fnId_fn, fnCts_fn, fnDs_fn, List.append_nil]
        repeat (refine wp_dec (by omega) ?_)
        refine wp_call (Count2_sp x) ?_
        simp only [getD_c0, toBool_bool, idxD, hk]
        refine wp_decs (fun h => wp_ret ?_) (fun h => ?_)
        · simp [h]
        · have := ih () trivial
          rw [hk'] at this
          simpa [h] using this)
      (l.length + 1) 0 () (by omega) (by omega) trivial
    simpa using key
  · exact congrArg (fun b => [D.bool b]) (idxD_any _ l 0)
theorem slices_Contains_sp (l : List Int) (v : Int) (hb : l.length ≤ 9223372036854775807) : Sp 99 [dI l, .int v] [.bool (l.any (fun x => decide (x = v)))] := by
  refine sound_ 0 (slices_Contains_int_int_tree _ _ _) (wp_call (ys := [.int (idxD (fun x => decide (x = v)) 0 l)]) ?_ (wp_ret ?_))
  · refine sound_ (l.length + 1) (slices_Index_int_int_tree _ _ _) ?_
    have key := loop_list (P := Tryz.prog) (md := md) l (fun m k (_ : Unit) => slices_Index_int_int_l2 (l.length + 1) m (dI l) v (l.length : Int) (k : Int)) (fun rest _ => [.int (idxD (fun x => decide (x = v)) (l.length - rest.length) rest)]) (fun _ _ => True)
      (fun m k p hk hI => by
        simp only [slices_Index_int_int_l2_succ]
        refine wp_ndec (by omega) (wp_ret ?_)
        simp [idxD])
      (fun m k p x rest hd hI ih => by
        obtain ⟨h1, h2, h3⟩ := drop_cons hd
        have hle := congrArg List.length hd; rw [List.length_drop, List.length_cons] at hle; have hk : l.length - (x :: rest).length = k := by rw [List.length_cons]; omega
        have hk' : l.length - rest.length = k + 1 := by omega
        simp only [slices_Index_int_int_l2_succ, els_dI, List.length_map, Int.toNat_natCast, getD_map h2, toInt_int, wrap_succ (show k < 9223372036854775807 by omega), int_beq]
        repeat (refine wp_dec (by omega) ?_)
        simp only [idxD, hk]
        refine wp_decs (fun h => wp_ret ?_) (fun h => ?_)
        · simp [h]
        · have := ih () trivial
          rw [hk'] at this
          simpa [show ¬ x = v from fun e => h e.symm] using this)
      (l.length + 1) 0 () (by omega) (by omega) trivial
    simpa using key
  · exact congrArg (fun b => [D.bool b]) (idxD_any _ l 0)
theorem shape_product_sp (l : List Int) (hb : l.length ≤ 6) (hx : ∀ x ∈ l, 1 ≤ x ∧ x ≤ 2048) : Sp 100 [dI l] [.int (prodS l 1)] := by
  refine sound_ (l.length + 1) (shape_product_tree _ _) ?_
  have key := loop_list (P := Tryz.prog) (md := md) l (fun m k (p : Int) => shape_product_l3 (l.length + 1) m p (dI l) (l.length : Int) (k : Int)) (fun rest p => [.int (prodS rest p)]) (fun _ p => 1 ≤ p ∧ p ≤ 2048)
    (fun m k p hk hI => by
      simp only [shape_product_l3_succ]
      exact wp_ndec (by omega) (wp_ret rfl))
    (fun m k p x rest hd hI ih => by
      obtain ⟨h1, h2, h3⟩ := drop_cons hd
      have hxx := hx x (List.mem_of_getElem? h2)
      have hp := prod_le hI.1 hI.2 hxx.1 hxx.2
      simp only [shape_product_l3_succ, els_dI, List.length_map, Int.toNat_natCast, getD_map h2, toInt_int, wrap_succ (show k < 9223372036854775807 by omega), wrap64 (x := p * x) (by omega) (by omega)]
      repeat (refine wp_dec (by omega) ?_)
      simp only [prodS]
      refine wp_decs (fun h => wp_ret ?_) (fun h => ?_)
      · rw [if_pos h]
      · rw [if_neg h]; exact ih _ ⟨hp.1, by omega⟩)
    (l.length + 1) 0 1 (by omega) (by omega) (by decide)
  simpa using key
theorem shape_Count_sp (l : List Int) : Sp 58 [dI l] [.int (countS l).1, .int (countS l).2] := by
  refine sound_ 0 (shape_Count_tree _ _) ?_
  simp only [els_dI, List.length_map]
  unfold countS
  refine wp_decs (fun h => wp_ret ?_) (fun h => ?_)
  · rw [if_pos (by omega)]
  · rw [if_neg (by omega)]
    refine wp_call (Contains1_sp l (by omega)) ?_
    simp only [getD_c0, toBool_bool]
    refine wp_br (fun h1 => wp_ret (by rw [if_pos h1])) (fun h1 => ?_)
    rw [if_neg (by simp [h1])]
    refine wp_call (Contains2_sp l (by omega)) ?_
    simp only [getD_c0, toBool_bool]
    refine wp_br (fun h2 => wp_ret (by rw [if_pos h2])) (fun h2 => ?_)
    rw [if_neg (by simp [h2])]
    refine wp_call (slices_Contains_sp l 0 (by omega)) ?_
    simp only [getD_c0, toBool_bool]
    refine wp_br (fun h3 => wp_ret (by rw [if_pos h3])) (fun h3 => ?_)
    rw [if_neg (by simp [h3])]
    refine wp_call (shape_product_sp l (by omega) (count_pos (by simp [h1]) (by simp [h2]) (by simp [h3]))) ?_
    simp only [getD_c0, toInt_int, int_beq]
    refine wp_decs (fun h4 => wp_ret (by rw [if_pos h4])) (fun h4 => wp_ret (by rw [if_neg h4]))
theorem ref07_Ints_sp (a b : List Int) (ha : a.length ≤ 9223372036854775807) : Sp 24 [dI a, dI b] [.bool (decide (a = b))] := by
  refine sound_ (a.length + 1) (ref07_Ints_tree _ _ _) ?_
  simp only [els_dI, List.length_map, int_bne]
  refine wp_decs (fun h => wp_ret ?_) (fun h => ?_)
  · rw [decide_eq_false]; rintro rfl; exact h rfl
  · exact eq_loop D.int dint_inj a b (by omega) ha (fun m i => ref07_Ints_l4 (a.length + 1) m (dI a) (dI b) i) (fun m i => ref07_Ints_l4_succ _ _ _ _ _)
def mayC (c : Int) : Bool := decide (0 ≤ c ∧ c ≤ 1114111 ∧ (c < 55296 ∨ 57343 < c))
theorem may_tree (c : Int) : Tw (.br (decide (0 ≤ c)) (.br (decide (c ≤ 1114111)) (.br (decide (c < 55296)) (.ret [D.bool true]) (.ret [D.bool (decide (57343 < c))])) (.ret [D.bool false])) (.ret [D.bool false])) [.bool (mayC c)] := by
  unfold mayC
  refine wp_decs (fun h1 => wp_decs (fun h2 => wp_decs (fun h3 => wp_ret ?_) (fun h3 => wp_ret ?_)) (fun h2 => wp_ret ?_)) (fun h1 => wp_ret ?_)
  · rw [decide_eq_true (by omega)]
  · congr 2; rw [decide_eq_decide]; omega
  · rw [decide_eq_false (by omega)]
  · rw [decide_eq_false (by omega)]
theorem ref06_May_sp (c : Int) : Sp 93 [.int c] [.bool (mayC c)] := sound_ 0 (ref06_May_tree _ _) (may_tree c)
end Go.Proofs.YtbgcadcpeabpgaaGreat
set_option maxRecDepth 100000
namespace Go.Proofs.YtbgcadcpeabpgaaGreat
open Go.ChangeShapes Go.WideShapes Go.ChangeAt Go.RowKit

section
variable {P : Program} {md : Nat → FMode}
theorem law_calls {F : Nat} {fn : Func} {xs : List D} {vs : List Value} {W : World} {tb : Nat} (hs : Spec P md F [] xs [.bool true]) (hfn : P.funcs[F]? = some fn) (hm : md F = {}) (hrt : fn.resultTypes = #[tb]) (htb : P.underlying tb = some .bool)
    (hlx : xs.length = fn.params.size) (hlv : vs.length = fn.params.size) (hrd : ∀ (i t : Nat) (x : D) (v : Value), fn.params.toList[i]? = some t → xs[i]? = some x → vs[i]? = some v → Rd P md W (fun _ => False) (.ty t) x v) :
    Calls P F vs.toArray W (fun e w' => e = .returned (.bool true) ∧ Ext W w') := by
  obtain ⟨fn', h1, _, _, h⟩ := hs
  rw [hfn] at h1
  injection h1 with h1
  subst h1
  refine (h W (fun _ => False) vs 0 1 (fun k hk => by rw [hm] at hk; cases hk) ⟨by simp [hlx], by simp [hlv], fun b hb => hb.elim, ?_, fun p hp => by rw [hm] at hp; cases hp⟩).mono ?_
  · intro i ct x v hc hx hv _
    simp only [List.append_nil, List.getElem?_map, Option.map_eq_some_iff] at hc
    obtain ⟨t, ht, rfl⟩ := hc
    have := hrd i t x v ht hx hv
    exact ⟨this.rd.mono (Nat.le_refl _) (fun _ _ _ => rfl) (fun b hb _ => by
      rcases hb with hb | ⟨p, u, hp, _⟩
      · exact hb
      · rw [hm] at hp; cases hp), this.size, this.agg⟩
  · rintro e w' ⟨us, β', hp⟩
    have hl := hp.len
    rw [hrt] at hl
    have : ∃ u, us = [u] := by
      match us, hl with
      | [u], _ => exact ⟨u, rfl⟩
    obtain ⟨u, rfl⟩ := this
    have hv := hp.vl [.b true] (by rw [hrt, hm]; simp [resL, setOwn, ofD, htb, D.toBool, List.getD]) 0 (.b true) u rfl rfl
    have hu := vl_b hv
    subst hu
    refine ⟨hp.ending, ?_⟩
    have := hp.stp
    refine Stp.ext (this.weak fun b ⟨p, v, h1, _⟩ => ?_)
    rw [hm] at h1; cases h1

theorem rd_int {t : Nat} {k : IntKind} {w : World} {M : Nat → Prop} {y : D} {c : Nat → Option Value} (h : RdC P md w M (.ty t) y c) (ht : P.underlying t = some (.int k)) : ∃ n, y = .int n ∧ k.min ≤ n ∧ n ≤ k.max := by
  cases h <;> simp_all [CT.desc]
  all_goals (rename_i hf _; obtain ⟨⟨a, ha, _⟩, _⟩ := fieldsOf_under hf; rw [ht] at ha; cases ha)
theorem rd_bool {t : Nat} {w : World} {M : Nat → Prop} {y : D} {c : Nat → Option Value} (h : RdC P md w M (.ty t) y c) (ht : P.underlying t = some .bool) : ∃ b, y = .bool b := by
  cases h <;> simp_all [CT.desc]
  all_goals (rename_i hf _; obtain ⟨⟨a, ha, _⟩, _⟩ := fieldsOf_under hf; rw [ht] at ha; cases ha)
theorem rd_str {t : Nat} {w : World} {M : Nat → Prop} {y : D} {c : Nat → Option Value} (h : RdC P md w M (.ty t) y c) (ht : P.underlying t = some .string) : ∃ s, y = .str s ∧ s.size ≤ maxLen := by
  cases h <;> simp_all [CT.desc]
  all_goals (rename_i hf _; obtain ⟨⟨a, ha, _⟩, _⟩ := fieldsOf_under hf; rw [ht] at ha; cases ha)
theorem rd_slc {t e : Nat} {w : World} {M : Nat → Prop} {y : D} {c : Nat → Option Value} (h : RdC P md w M (.ty t) y c) (ht : P.underlying t = some (.slice e)) : ∃ es, y = .sl es ∧ es.length ≤ maxLen ∧ ∀ x ∈ es, ∃ c', RdC P md w M (.ty e) x c' := by
  cases h with
  | sl ht' hc h1 h2 hA hh =>
    have : P.underlying t = some (.slice _) := ht'
    rw [ht] at this
    injection this with this
    injection this with this
    subst this
    refine ⟨_, rfl, Nat.le_trans h1 h2, fun x hx => ?_⟩
    obtain ⟨i, hi, rfl⟩ := List.getElem_of_mem hx
    exact ⟨_, hh i _ (List.getElem?_eq_getElem hi)⟩
  | struct hf _ _ => obtain ⟨⟨a, ha, _⟩, _⟩ := fieldsOf_under hf; rw [ht] at ha; cases ha
  | int ht' => have : P.underlying t = _ := ht'; rw [ht] at this; cases this
  | bool ht' => have : P.underlying t = _ := ht'; rw [ht] at this; cases this
  | str ht' => have : P.underlying t = _ := ht'; rw [ht] at this; cases this
  | fn ht' => have : P.underlying t = _ := ht'; rw [ht] at this; cases this
  | mp ht' => have : P.underlying t = _ := ht'; rw [ht] at this; cases this
  | ref ht' => have : P.underlying t = _ := ht'; rw [ht] at this; cases this
theorem rd_struct {t : Nat} {fs : List Field} {w : World} {M : Nat → Prop} {y : D} {c : Nat → Option Value} (h : RdC P md w M (.ty t) y c) (ht : fieldsOf P t = some fs) : ∃ ds, y = .agg ds ∧ ds.length = fs.length ∧ ∀ (i : Nat) (f : Field) (d : D), fs[i]? = some f → ds[i]? = some d → ∃ c', RdC P md w M (.ty f.type) d c' := by
  obtain ⟨⟨a, ha, _⟩, _⟩ := fieldsOf_under ht
  cases h with
  | struct hf hl hh =>
    rw [ht] at hf
    injection hf with hf
    subst hf
    exact ⟨_, rfl, hl, fun i f d h1 h2 => ⟨_, hh i f d h1 h2⟩⟩
  | sl ht' => have : P.underlying t = _ := ht'; rw [ha] at this; cases this
  | int ht' => have : P.underlying t = _ := ht'; rw [ha] at this; cases this
  | bool ht' => have : P.underlying t = _ := ht'; rw [ha] at this; cases this
  | str ht' => have : P.underlying t = _ := ht'; rw [ha] at this; cases this
  | fn ht' => have : P.underlying t = _ := ht'; rw [ha] at this; cases this
  | mp ht' => have : P.underlying t = _ := ht'; rw [ha] at this; cases this
  | ref ht' => have : P.underlying t = _ := ht'; rw [ha] at this; cases this
theorem rd_ints {t e : Nat} {w : World} {M : Nat → Prop} {y : D} {c : Nat → Option Value} (h : RdC P md w M (.ty t) y c) (ht : P.underlying t = some (.slice e)) (he : P.underlying e = some (.int .i64)) : ∃ l, y = dI l ∧ l.length ≤ maxLen ∧ ∀ x ∈ l, -9223372036854775808 ≤ x ∧ x ≤ 9223372036854775807 := by
  obtain ⟨es, rfl, hl, hh⟩ := rd_slc h ht
  have : ∃ l : List Int, es = l.map .int ∧ ∀ x ∈ l, -9223372036854775808 ≤ x ∧ x ≤ 9223372036854775807 := by
    clear hl h
    induction es with
    | nil => exact ⟨[], rfl, fun _ h => by cases h⟩
    | cons x es ih =>
      obtain ⟨l, rfl, hl⟩ := ih (fun y hy => hh y (by simp [hy]))
      obtain ⟨c', hc⟩ := hh x (by simp)
      obtain ⟨n, rfl, h1, h2⟩ := rd_int hc he
      exact ⟨n :: l, rfl, fun y hy => by rcases List.mem_cons.1 hy with rfl | hy; exact ⟨h1, h2⟩; exact hl y hy⟩
  obtain ⟨l, rfl, h2⟩ := this
  exact ⟨l, rfl, by simpa using hl, h2⟩
theorem rd_limbs {t e : Nat} {w : World} {M : Nat → Prop} {y : D} {c : Nat → Option Value} (h : RdC P md w M (.ty t) y c) (ht : P.underlying t = some (.slice e)) (he : P.underlying e = some (.int .u32)) : ∃ l : List Limb, y = dL l ∧ l.length ≤ maxLen := by
  obtain ⟨es, rfl, hl, hh⟩ := rd_slc h ht
  have : ∃ l : List Limb, es = l.map dB := by
    clear hl h
    induction es with
    | nil => exact ⟨[], rfl⟩
    | cons x es ih =>
      obtain ⟨l, rfl⟩ := ih (fun y hy => hh y (by simp [hy]))
      obtain ⟨c', hc⟩ := hh x (by simp)
      obtain ⟨n, rfl, h1, h2⟩ := rd_int hc he
      have h1 : 0 ≤ n := h1
      have h2 : n ≤ 4294967295 := h2
      refine ⟨BitVec.ofNat 32 n.toNat :: l, ?_⟩
      simp only [List.map_cons, dB, BitVec.toNat_ofNat]
      rw [Nat.mod_eq_of_lt (by omega), Int.toNat_of_nonneg h1]
  obtain ⟨l, rfl⟩ := this
  exact ⟨l, rfl, by simpa using hl⟩
theorem rd_lab {t : Nat} {w : World} {M : Nat → Prop} {y : D} {c : Nat → Option Value} (h : RdC P md w M (.ty t) y c) (ht : P.underlying t = some (.int .u64)) : ∃ l : Lab, y = dB l := by
  obtain ⟨n, rfl, h1, h2⟩ := rd_int h ht
  have h1 : 0 ≤ n := h1
  have h2 : n ≤ 18446744073709551615 := h2
  refine ⟨BitVec.ofNat 64 n.toNat, ?_⟩
  simp only [dB, BitVec.toNat_ofNat]
  rw [Nat.mod_eq_of_lt (by omega), Int.toNat_of_nonneg h1]
end
end Go.Proofs.YtbgcadcpeabpgaaGreat
set_option maxRecDepth 100000
namespace Go.Proofs.YtbgcadcpeabpgaaGreat
open Go.ChangeShapes Go.WideShapes Go.ChangeAt Go.RowKit

theorem len3 {α : Type} {l : List α} (h : l.length = 3) : ∃ a b c, l = [a, b, c] := by
  match l, h with
  | [a, b, c], _ => exact ⟨a, b, c, rfl⟩
theorem len5 {α : Type} {l : List α} (h : l.length = 5) : ∃ a b c d e, l = [a, b, c, d, e] := by
  match l, h with
  | [a, b, c, d, e], _ => exact ⟨a, b, c, d, e, rfl⟩
/-- No list of an array is longer than it can be; lengths of axes are ints. -/
inductive Fits : Arr → Prop where
  | mk {s : Lab} {sh : List Int} {cs : List Cell} (h1 : sh.length ≤ maxLen) (h2 : cs.length ≤ maxLen) (h3 : ∀ c ∈ cs, c.n.top.length ≤ maxLen ∧ c.n.bot.length ≤ maxLen ∧ c.inn.length ≤ maxLen) (h5 : ∀ x ∈ sh, -9223372036854775808 ≤ x ∧ x ≤ 9223372036854775807)
      (h4 : ∀ c ∈ cs, ∀ x ∈ c.inn, Fits x) : Fits (.mk s sh cs)
theorem fields_Num : (fieldsOf Tryz.prog 65).map (fun fs => fs.map (·.type)) = some [4, 63, 63] := by kernel_rfl
theorem fields_Cell : (fieldsOf Tryz.prog 68).map (fun fs => fs.map (·.type)) = some [22, 3, 65, 3, 66] := by kernel_rfl
theorem fields_Array : (fieldsOf Tryz.prog 26).map (fun fs => fs.map (·.type)) = some [22, 23, 24] := by kernel_rfl
theorem types_at {fs : List Field} {ts : List Nat} (h : fs.map (·.type) = ts) {i t : Nat} (ht : ts[i]? = some t) : ∃ f, fs[i]? = some f ∧ f.type = t := by
  subst h
  simpa [List.getElem?_map, Option.map_eq_some_iff] using ht
theorem rd_num {w : World} {M : Nat → Prop} {y : D} {c : Nat → Option Value} (h : RdC Tryz.prog md w M (.ty 65) y c) : ∃ n, y = dN n ∧ n.top.length ≤ maxLen ∧ n.bot.length ≤ maxLen := by
  obtain ⟨fs, hf, ht⟩ := Option.map_eq_some_iff.1 fields_Num
  obtain ⟨ds, rfl, hl, hh⟩ := rd_struct h hf
  have : fs.length = 3 := by rw [← List.length_map (f := (·.type)), ht]; rfl
  obtain ⟨a, b, c, rfl⟩ := len3 (by rw [hl, this])
  obtain ⟨f0, hf0, e0⟩ := types_at ht (i := 0) rfl
  obtain ⟨f1, hf1, e1⟩ := types_at ht (i := 1) rfl
  obtain ⟨f2, hf2, e2⟩ := types_at ht (i := 2) rfl
  obtain ⟨_, h0⟩ := hh 0 f0 a hf0 rfl
  obtain ⟨_, h1⟩ := hh 1 f1 b hf1 rfl
  obtain ⟨_, h2⟩ := hh 2 f2 c hf2 rfl
  rw [e0] at h0; rw [e1] at h1; rw [e2] at h2
  obtain ⟨n, rfl⟩ := rd_bool h0 (by kernel_rfl)
  obtain ⟨t, rfl, l1⟩ := rd_limbs h1 (e := 139) (by kernel_rfl) (by kernel_rfl)
  obtain ⟨t', rfl, l2⟩ := rd_limbs h2 (e := 139) (by kernel_rfl) (by kernel_rfl)
  exact ⟨⟨n, t, t'⟩, rfl, l1, l2⟩
mutual
def D.sz : D → Nat
  | .agg fs => 1 + D.szL fs | .sl es => 1 + D.szL es | _ => 0
def D.szL : List D → Nat
  | [] => 0 | x :: xs => 1 + x.sz + D.szL xs
end
theorem szL_mem : ∀ {l : List D} {x : D}, x ∈ l → x.sz < D.szL l
  | y :: ys, x, h => by
    rcases List.mem_cons.1 h with rfl | h
    · simp only [D.szL]; omega
    · have := szL_mem h; simp only [D.szL]; omega
theorem rd_arr : ∀ (k : Nat) {w : World} {M : Nat → Prop} {y : D} {c : Nat → Option Value}, y.sz < k → RdC Tryz.prog md w M (.ty 26) y c → ∃ a, y = dA a ∧ Fits a
  | 0, _, _, _, _, hk, _ => by omega
  | k + 1, w, M, y, c, hk, h => by
    obtain ⟨fs, hf, ht⟩ := Option.map_eq_some_iff.1 fields_Array
    obtain ⟨ds, rfl, hl, hh⟩ := rd_struct h hf
    have : fs.length = 3 := by rw [← List.length_map (f := (·.type)), ht]; rfl
    obtain ⟨a, b, c, rfl⟩ := len3 (by rw [hl, this])
    obtain ⟨f0, hf0, e0⟩ := types_at ht (i := 0) rfl
    obtain ⟨f1, hf1, e1⟩ := types_at ht (i := 1) rfl
    obtain ⟨f2, hf2, e2⟩ := types_at ht (i := 2) rfl
    obtain ⟨_, h0⟩ := hh 0 f0 a hf0 rfl
    obtain ⟨_, h1⟩ := hh 1 f1 b hf1 rfl
    obtain ⟨_, h2⟩ := hh 2 f2 c hf2 rfl
    rw [e0] at h0; rw [e1] at h1; rw [e2] at h2
    obtain ⟨s, rfl⟩ := rd_lab h0 (by kernel_rfl)
    obtain ⟨sh, rfl, l1, l1'⟩ := rd_ints h1 (e := 3) (by kernel_rfl) (by kernel_rfl)
    obtain ⟨es, rfl, l2, hes⟩ := rd_slc h2 (e := 68) (by kernel_rfl)
    have hsz : D.szL es < k := by simp only [D.sz, D.szL] at hk; omega
    have key : ∃ cs : List Cell, es = cs.map dC ∧ (∀ c ∈ cs, c.n.top.length ≤ maxLen ∧ c.n.bot.length ≤ maxLen ∧ c.inn.length ≤ maxLen) ∧ ∀ c ∈ cs, ∀ x ∈ c.inn, Fits x := by
      clear l2 h2 h hh h0 h1 hf0 hf1 hf2 e0 e1 e2 hl hk
      induction es with
      | nil => exact ⟨[], rfl, (fun _ h => by cases h), (fun _ h => by cases h)⟩
      | cons x es ih =>
        simp only [D.szL] at hsz
        obtain ⟨cs, rfl, g1, g2⟩ := ih (fun y hy => hes y (by simp [hy])) (by omega)
        obtain ⟨_, hx⟩ := hes x (by simp)
        obtain ⟨fs, hf, ht⟩ := Option.map_eq_some_iff.1 fields_Cell
        obtain ⟨ds, rfl, hl, hh⟩ := rd_struct hx hf
        have : fs.length = 5 := by rw [← List.length_map (f := (·.type)), ht]; rfl
        obtain ⟨a, b, c, d, e, rfl⟩ := len5 (by rw [hl, this])
        obtain ⟨f0, hf0, e0⟩ := types_at ht (i := 0) rfl
        obtain ⟨f1, hf1, e1⟩ := types_at ht (i := 1) rfl
        obtain ⟨f2, hf2, e2⟩ := types_at ht (i := 2) rfl
        obtain ⟨f3, hf3, e3⟩ := types_at ht (i := 3) rfl
        obtain ⟨f4, hf4, e4⟩ := types_at ht (i := 4) rfl
        obtain ⟨_, h0⟩ := hh 0 f0 a hf0 rfl
        obtain ⟨_, h1⟩ := hh 1 f1 b hf1 rfl
        obtain ⟨_, h2⟩ := hh 2 f2 c hf2 rfl
        obtain ⟨_, h3⟩ := hh 3 f3 d hf3 rfl
        obtain ⟨_, h4⟩ := hh 4 f4 e hf4 rfl
        rw [e0] at h0; rw [e1] at h1; rw [e2] at h2; rw [e3] at h3; rw [e4] at h4
        obtain ⟨l, rfl⟩ := rd_lab h0 (by kernel_rfl)
        obtain ⟨kd, rfl, _⟩ := rd_int h1 (k := .i64) (by kernel_rfl)
        obtain ⟨n, rfl, n1, n2⟩ := rd_num h2
        obtain ⟨ch, rfl, _⟩ := rd_int h3 (k := .i64) (by kernel_rfl)
        obtain ⟨as_, rfl, l4, has⟩ := rd_slc h4 (e := 26) (by kernel_rfl)
        have hsz4 : D.szL as_ < k := by simp only [D.sz, D.szL] at hsz; omega
        have key2 : ∃ bs : List Arr, as_ = bs.map dA ∧ ∀ x ∈ bs, Fits x := by
          clear h4 hh hx hes ih l4 hsz hl
          induction as_ with
          | nil => exact ⟨[], rfl, fun _ h => by cases h⟩
          | cons z zs ihz =>
            simp only [D.szL] at hsz4
            obtain ⟨bs, rfl, hb⟩ := ihz (fun y hy => has y (by simp [hy])) (by omega)
            obtain ⟨_, hz⟩ := has z (by simp)
            obtain ⟨a, rfl, ha⟩ := rd_arr k (by omega) hz
            exact ⟨a :: bs, rfl, fun y hy => by rcases List.mem_cons.1 hy with rfl | hy; exact ha; exact hb y hy⟩
        obtain ⟨bs, rfl, hb⟩ := key2
        refine ⟨⟨l, kd, n, ch, bs⟩ :: cs, by simp [dC_eq], fun c hc => ?_, fun c hc => ?_⟩
        · rcases List.mem_cons.1 hc with rfl | hc
          · exact ⟨n1, n2, by simpa using l4⟩
          · exact g1 c hc
        · rcases List.mem_cons.1 hc with rfl | hc
          · exact hb
          · exact g2 c hc
    obtain ⟨cs, rfl, g1, g2⟩ := key
    exact ⟨.mk s sh cs, (dA_mk s sh cs), .mk l1 (by simpa using l2) g1 l1' g2⟩
/-- An argument that is an array. -/
def lawTs : List Nat := [4, 3, 22, 139, 63, 23, 65, 68, 26, 66, 24]
theorem lawTs_plain : plainTs Tryz.prog lawTs = true := by kernel_rfl
section
variable {H : Type} {enc : TypeId × Value → H} {W : World} {sp : Nat → Bool} {held : Bool} {r : Reach} {b0 : Nat} {v : Value} {d : DataW H} {ps : List MemPlace}
theorem arg_arr (hval : Value.okWide Tryz.prog W r b0 26 v) (h : DataW.Trod enc Tryz.prog W 0 sp held 26 v d ps) : ∃ a, Fits a ∧ Rd Tryz.prog md W (fun _ => False) (.ty 26) (dA a) v := by
  obtain ⟨y, hy, hyw⟩ := arg_rd (md := md) wfP lawTs_plain (by decide) hval h
  obtain ⟨a, rfl, ha⟩ := rd_arr _ (Nat.lt_succ_self _) hy.rd
  exact ⟨a, ha, hy⟩
theorem arg_bool (hval : Value.okWide Tryz.prog W r b0 4 v) (h : DataW.Trod enc Tryz.prog W 0 sp held 4 v d ps) : ∃ a, Rd Tryz.prog md W (fun _ => False) (.ty 4) (.bool a) v := by
  obtain ⟨y, hy, hyw⟩ := arg_rd (md := md) wfP lawTs_plain (by decide) hval h
  obtain ⟨a, rfl⟩ := rd_bool hy.rd (by kernel_rfl)
  exact ⟨a, hy⟩
theorem arg_lab (hval : Value.okWide Tryz.prog W r b0 22 v) (h : DataW.Trod enc Tryz.prog W 0 sp held 22 v d ps) : ∃ a : Lab, Rd Tryz.prog md W (fun _ => False) (.ty 22) (dB a) v := by
  obtain ⟨y, hy, hyw⟩ := arg_rd (md := md) wfP lawTs_plain (by decide) hval h
  obtain ⟨a, rfl⟩ := rd_lab hy.rd (by kernel_rfl)
  exact ⟨a, hy⟩
theorem arg_int (hval : Value.okWide Tryz.prog W r b0 3 v) (h : DataW.Trod enc Tryz.prog W 0 sp held 3 v d ps) : ∃ a : Int, (-9223372036854775808 ≤ a ∧ a ≤ 9223372036854775807) ∧ Rd Tryz.prog md W (fun _ => False) (.ty 3) (.int a) v := by
  obtain ⟨y, hy, hyw⟩ := arg_rd (md := md) wfP lawTs_plain (by decide) hval h
  obtain ⟨a, rfl, h1, h2⟩ := rd_int hy.rd (k := .i64) (by kernel_rfl)
  exact ⟨a, ⟨h1, h2⟩, hy⟩
theorem arg_num (hval : Value.okWide Tryz.prog W r b0 65 v) (h : DataW.Trod enc Tryz.prog W 0 sp held 65 v d ps) : ∃ n : Num, (n.top.length ≤ maxLen ∧ n.bot.length ≤ maxLen) ∧ Rd Tryz.prog md W (fun _ => False) (.ty 65) (dN n) v := by
  obtain ⟨y, hy, hyw⟩ := arg_rd (md := md) wfP lawTs_plain (by decide) hval h
  obtain ⟨n, rfl, h1, h2⟩ := rd_num hy.rd
  exact ⟨n, ⟨h1, h2⟩, hy⟩
/-- An array that memory has room for. -/
def WFits (a : Arr) : Prop := Fits a ∧ (dA a).wok
theorem arg_arrw (hval : Value.okWide Tryz.prog W r b0 26 v) (h : DataW.Trod enc Tryz.prog W 0 sp held 26 v d ps) (hw : ∀ z ∈ d.weights Tryz.prog 26, z ≤ reachBytes) : ∃ a, WFits a ∧ Rd Tryz.prog md W (fun _ => False) (.ty 26) (dA a) v := by
  obtain ⟨y, hy, hyw⟩ := arg_rd (md := md) wfP lawTs_plain (by decide) hval h
  obtain ⟨a, rfl, ha⟩ := rd_arr _ (Nat.lt_succ_self _) hy.rd
  exact ⟨a, ⟨ha, hyw hw⟩, hy⟩
end
end Go.Proofs.YtbgcadcpeabpgaaGreat
set_option maxRecDepth 100000
namespace Go.Proofs.YtbgcadcpeabpgaaGreat

theorem Fits.len {a : Arr} (h : Fits a) : a.cells.length ≤ 9223372036854775807 := by cases h; assumption
theorem Fits.sh {a : Arr} (h : Fits a) : a.shape.length ≤ 9223372036854775807 := by cases h; assumption
theorem Fits.shR {a : Arr} (h : Fits a) : ∀ x ∈ a.shape, inR x := by cases h; assumption
/-- What a cell's lists may be. -/
def FitsC (c : Cell) : Prop := c.n.top.length ≤ 9223372036854775807 ∧ c.n.bot.length ≤ 9223372036854775807 ∧ c.inn.length ≤ 9223372036854775807 ∧ ∀ x ∈ c.inn, Fits x
theorem Fits.cell {a : Arr} (h : Fits a) : ∀ c ∈ a.cells, FitsC c := by
  cases h with
  | mk h1 h2 h3 h5 h4 => exact fun c hc => ⟨(h3 c hc).1, (h3 c hc).2.1, (h3 c hc).2.2, h4 c hc⟩
theorem Fits.of {s : Lab} {sh : List Int} {cs : List Cell} (h1 : sh.length ≤ 9223372036854775807) (h2 : cs.length ≤ 9223372036854775807) (h3 : ∀ x ∈ sh, inR x) (h4 : ∀ c ∈ cs, FitsC c) : Fits (.mk s sh cs) :=
  .mk h1 h2 (fun c hc => ⟨(h4 c hc).1, (h4 c hc).2.1, (h4 c hc).2.2.1⟩) h3 (fun c hc => (h4 c hc).2.2.2)

mutual
def totA : Arr → Lab
  | .mk s _ cs => totCs s cs
def totCs : Lab → List (CellF Arr) → Lab
  | l, [] => l
  | l, c :: cs => totCs (totC l c) cs
def totC : Lab → CellF Arr → Lab
  | l, ⟨cl, _, _, _, inn⟩ => totAs (l ||| cl) inn
def totAs : Lab → List Arr → Lab
  | l, [] => l
  | l, a :: as_ => totAs (l ||| totA a) as_
end
theorem totAs_fold : ∀ (as_ : List Arr) (l : Lab), totAs l as_ = as_.foldl (fun l x => l ||| totA x) l
  | [], l => by simp [totAs]
  | a :: as_, l => by simp [totAs, totAs_fold as_]
theorem totC_eq (l : Lab) (c : Cell) : totC l c = c.inn.foldl (fun l x => l ||| totA x) (l ||| c.l) := by cases c; rw [totC, totAs_fold]
theorem totCs_fold : ∀ (cs : List Cell) (l : Lab), totCs l cs = cs.foldl totC l
  | [], l => by simp [totCs]
  | c :: cs, l => by simp [totCs, totCs_fold cs]
theorem totA_eq (a : Arr) : totA a = a.cells.foldl totC a.s := by cases a; rw [totA, totCs_fold]; rfl

/-- One cell without axes that is no box. -/
def simpleA (a : Arr) : Bool := match a.shape, a.cells with
  | [], [c] => decide (¬ c.kind = 2)
  | _, _ => false
def boxOK (c : Cell) (r : Arr → Bool) : Bool := match c.inn with
  | [x] => !simpleA x && r x
  | _ => false
def cellR (k : Bool) (r : Arr → Bool) (c : Cell) : Bool :=
  if c.kind = 0 then decide (c.c = 0 ∧ c.inn.length = 0) && rightN c.n
  else if c.kind = 1 then decide (c.n = .zero ∧ c.inn.length = 0) && mayC c.c
  else decide (c.kind = 2 ∧ c.n = .zero ∧ c.c = 0) && (k && boxOK c r)
def rightA : Nat → Arr → Bool
  | 0, a => decide (countS a.shape = ((a.cells.length : Int), 0)) && a.cells.all (cellR false (fun _ => false))
  | d + 1, a => decide (countS a.shape = ((a.cells.length : Int), 0)) && a.cells.all (cellR true (rightA d))
def rightC : Nat → Cell → Bool
  | 0 => cellR false (fun _ => false)
  | d + 1 => cellR true (rightA d)
theorem rightA_eq (d : Nat) (a : Arr) : rightA d a = (decide (countS a.shape = ((a.cells.length : Int), 0)) && a.cells.all (rightC d)) := by cases d <;> rfl

theorem simple_tree {Q : List D → Prop} (a : Arr) (hq : Q [.bool (simpleA a)]) : (Tree.br (decide ((a.shape.length : Int) = 0)) (.br (decide ((a.cells.length : Int) = 1)) (.br (decide (0 ≤ (0 : Int))) (.br (decide (0 < (a.cells.length : Int))) (.ret [D.bool (decide (¬ (((((a.cells.map dC).getD (Int.toNat 0) D.nil).fld 1).toInt) = 2)))]) .fail) .fail) (.ret [D.bool false])) (.ret [D.bool false])).wp Tryz.prog md Q := by
  unfold simpleA at hq
  refine wp_decs (fun h1 => wp_decs (fun h2 => ?_) (fun h2 => wp_ret ?_)) (fun h1 => wp_ret ?_)
  · match hs : a.shape, hc : a.cells with
    | [], [c] =>
      rw [hs, hc] at hq
      exact wp_dec (by omega) (wp_dec (by simp) (wp_ret (by simpa [Int.toNat] using hq)))
    | x :: xs, _ => rw [hs] at h1; simp at h1; omega
    | _, [] => rw [hc] at h2; simp at h2
    | _, x :: y :: xs => rw [hc] at h2; simp at h2; omega
  · match hs : a.shape, hc : a.cells with
    | [], [c] => rw [hc] at h2; simp at h2
    | x :: xs, _ => rw [hs] at hq; exact hq
    | [], [] => rw [hs, hc] at hq; exact hq
    | [], x :: y :: xs => rw [hs, hc] at hq; exact hq
  · match hs : a.shape, hc : a.cells with
    | [], _ => rw [hs] at h1; simp at h1
    | x :: xs, _ => rw [hs] at hq; exact hq
theorem ref08_Simple_sp (a : Arr) : Sp 94 [dA a] [.bool (simpleA a)] := by
  refine sound_ 0 (ref08_Simple_tree _ _) ?_
  simp only [dA_0, dA_1, dA_2, dC_0, dC_1, dC_2, dC_3, dC_4, dN_0, dN_1, dN_2, els_sl, els_dI, els_dL, List.length_map, Int.toNat_natCast, toInt_int, toInt_dB, toBool_bool, getD_c0, getD_c1, int_beq, int_bne, not_dec, dInt_dB, Int.toNat_zero]
  exact simple_tree a rfl
theorem ref08_zero_sp (n : Num) : Sp 92 [dN n] [.bool (decide (n = .zero))] := by
  refine sound_ 0 (ref08_zero_tree _ _) ?_
  simp only [dN_0, dN_1, dN_2, els_dL, List.length_map, toBool_bool, int_beq]
  have e : (n = Num.zero) ↔ (n.neg = false ∧ n.top.length = 0 ∧ n.bot.length = 0) := by
    rw [num_eq, List.length_eq_zero_iff, List.length_eq_zero_iff]; rfl
  refine wp_br (fun h1 => wp_decs (fun h2 => wp_ret ?_) (fun h2 => wp_ret ?_)) (fun h1 => wp_ret ?_)
  · congr 2; rw [decide_eq_decide, e]; exact ⟨fun h => ⟨by simpa using h1, by omega, by omega⟩, fun h => by omega⟩
  · rw [decide_eq_false]; rw [e]; omega
  · rw [decide_eq_false]; rw [e]; simp at h1; simp [h1]
theorem ref08_Cell_step (d : Nat) (c : Cell) (hc : FitsC c) (hd : d ≤ 100) (ih : ∀ e, e + 1 = d → ∀ a, Fits a → Sp 15 [dA a, .int (e : Int)] [.bool (rightA e a)]) : Sp 50 [dC c, .int (d : Int)] [.bool (rightC d c)] := by
  suffices key : ∀ (k : Bool) (r : Arr → Bool), (k = true ↔ 0 < d) → (∀ a, k = true → Fits a → Sp 15 [dA a, .int ((d : Int) - 1)] [.bool (r a)]) → Sp 50 [dC c, .int (d : Int)] [.bool (cellR k r c)] by
    cases d with
    | zero => exact key false (fun _ => false) (by simp) (by simp)
    | succ e => exact key true (rightA e) (by simp) (fun a _ ha => by have := ih e rfl a ha; simpa using this)
  intro k r hk hr
  refine sound_ 0 (ref08_Cell_tree _ _ _) ?_
  simp only [dA_0, dA_1, dA_2, dC_0, dC_1, dC_2, dC_3, dC_4, dN_0, dN_1, dN_2, els_sl, els_dI, els_dL, List.length_map, Int.toNat_natCast, toInt_int, toInt_dB, toBool_bool, getD_c0, getD_c1, int_beq, int_bne, not_dec, dInt_dB, Int.toNat_zero]
  unfold cellR
  refine wp_decs (fun h0 => ?_) (fun h0 => ?_)
  · rw [if_pos h0]
    refine wp_decs (fun h1 => wp_decs (fun h2 => wp_call (ref04_Right_sp c.n) (wp_ret ?_)) (fun h2 => wp_ret ?_)) (fun h1 => wp_ret ?_)
    · rw [decide_eq_true ⟨h1, by omega⟩]; rfl
    · rw [decide_eq_false (by omega)]; rfl
    · rw [decide_eq_false (by omega)]; rfl
  rw [if_neg h0]
  refine wp_decs (fun h0 => wp_call (ref08_zero_sp c.n) ?_) (fun h0 => ?_)
  · rw [if_pos h0]
    simp only [getD_c0, toBool_bool]
    refine wp_decs (fun h1 => wp_decs (fun h2 => wp_call (ref06_May_sp c.c) (wp_ret ?_)) (fun h2 => wp_ret ?_)) (fun h1 => wp_ret ?_)
    · rw [decide_eq_true ⟨h1, by omega⟩]; rfl
    · rw [decide_eq_false (fun hh => h2 (by omega))]; rfl
    · rw [decide_eq_false (fun hh => h1 hh.1)]; rfl
  rw [if_neg h0]
  refine wp_decs (fun h0 => wp_call (ref08_zero_sp c.n) ?_) (fun h0 => wp_ret (by rw [decide_eq_false (fun hh => h0 hh.1)]; rfl))
  simp only [getD_c0, toBool_bool]
  refine wp_decs (fun h1 => wp_decs (fun h2 => wp_decs (fun h3 => wp_decs (fun h4 => ?_) (fun h4 => wp_ret ?_)) (fun h3 => wp_ret ?_)) (fun h2 => wp_ret ?_)) (fun h1 => wp_ret ?_)
  · have hkt := hk.2 (by omega)
    rw [show decide (c.kind = 2 ∧ c.n = .zero ∧ c.c = 0) = true from decide_eq_true ⟨h0, h1, h2⟩, hkt, Bool.true_and, Bool.true_and]
    unfold boxOK
    match hi : c.inn with
    | [] => rw [hi] at h3; simp at h3
    | x :: y :: xs => rw [hi] at h3; simp at h3; omega
    | [x] =>
      simp only [List.map_cons, List.map_nil, Int.toNat_zero, getD_c0, List.length_cons, List.length_nil]
      refine wp_dec (by omega) (wp_dec (by omega) (wp_call (ref08_Simple_sp x) ?_))
      simp only [getD_c0, toBool_bool]
      refine wp_br (fun h5 => wp_dec (by omega) (wp_dec (by omega) ?_)) (fun h5 => wp_ret (by rw [h5]; rfl))
      rw [wrap64 (by omega) (by omega)]
      refine wp_call (hr x hkt (hc.2.2.2 x (by rw [hi]; simp))) (wp_ret ?_)
      rw [h5]; rfl
  · have : k = false := by cases k with
      | false => rfl
      | true => exact absurd (hk.1 rfl) (by omega)
    rw [this, Bool.false_and, Bool.and_false]
  · have : boxOK c r = false := by
      unfold boxOK
      match hi : c.inn with
      | [] => rfl
      | x :: y :: xs => rfl
      | [x] => rw [hi] at h3; simp at h3
    rw [this, Bool.and_false, Bool.and_false]
  · rw [decide_eq_false (fun hh => h2 hh.2.2)]; rfl
  · rw [decide_eq_false (fun hh => h1 hh.2.1)]; rfl
theorem ref08_Right_step (d : Nat) (a : Arr) (ha : Fits a) (ih : ∀ c, FitsC c → Sp 50 [dC c, .int (d : Int)] [.bool (rightC d c)]) : Sp 15 [dA a, .int (d : Int)] [.bool (rightA d a)] := by
  have hl := ha.len
  refine sound_ (a.cells.length + 1) (ref08_Right_tree _ _ _) ?_
  simp only [dA_0, dA_1, dA_2, dC_0, dC_1, dC_2, dC_3, dC_4, dN_0, dN_1, dN_2, els_sl, els_dI, els_dL, List.length_map, Int.toNat_natCast, toInt_int, toInt_dB, toBool_bool, getD_c0, getD_c1, int_beq, int_bne, not_dec, dInt_dB, Int.toNat_zero]
  refine wp_call (ref07_Count_sp a.shape) ?_
  rw [rightA_eq]
  simp only [getD_c0, getD_c1, toInt_int]
  refine wp_decs (fun h => wp_ret ?_) (fun h => wp_decs (fun h' => wp_ret ?_) (fun h' => ?_))
  · rw [decide_eq_false]; rfl
    intro hh; rw [hh] at h; exact h rfl
  · rw [decide_eq_false]; rfl
    intro hh; rw [hh] at h'; exact h' rfl
  · have hc : countS a.shape = ((a.cells.length : Int), 0) := Prod.ext (by simpa using h') (by simpa using h)
    rw [hc, decide_eq_true rfl, Bool.true_and]
    have key := loop_list (P := Tryz.prog) (md := md) a.cells (fun m k (_ : Unit) => ref08_Right_l5 (a.cells.length + 1) m (d : Int) (a.cells.length : Int) (k : Int) (dA a)) (fun rest _ => [.bool (rest.all (rightC d))]) (fun _ _ => True)
      (fun m k s hk _ => by
        simp only [ref08_Right_l5_succ]
        exact wp_ndec (by omega) (wp_ret rfl))
      (fun m k s x rest hd _ ih' => by
        obtain ⟨h1, h2, h3⟩ := drop_cons hd
        simp only [ref08_Right_l5_succ, dA_0, dA_1, dA_2, dC_0, dC_1, dC_2, dC_3, dC_4, dN_0, dN_1, dN_2, els_sl, els_dI, els_dL, List.length_map, Int.toNat_natCast, toInt_int, toInt_dB, toBool_bool, getD_c0, getD_c1, int_beq, int_bne, not_dec, dInt_dB, Int.toNat_zero, getD_map h2, wrap_succ (show k < 9223372036854775807 by omega)]
        repeat (refine wp_dec (by omega) ?_)
        refine wp_call (ih x (ha.cell x (List.mem_of_getElem? h2))) ?_
        simp only [getD_c0, toBool_bool, List.all_cons]
        refine wp_br (fun h4 => wp_ret ?_) (fun h4 => ?_)
        · simp at h4; rw [h4]; rfl
        · simp at h4; rw [h4, Bool.true_and]; exact ih' () trivial)
      (a.cells.length + 1) 0 () (by omega) (by omega) trivial
    exact key
theorem ref08_Right_all : ∀ d : Nat, d ≤ 100 → (∀ c, FitsC c → Sp 50 [dC c, .int (d : Int)] [.bool (rightC d c)]) ∧ ∀ a, Fits a → Sp 15 [dA a, .int (d : Int)] [.bool (rightA d a)]
  | 0, hd => by
    have hc : ∀ c, FitsC c → Sp 50 [dC c, .int ((0 : Nat) : Int)] [.bool (rightC 0 c)] := fun c hc => ref08_Cell_step 0 c hc hd (fun e he => by omega)
    exact ⟨hc, fun a ha => ref08_Right_step 0 a ha hc⟩
  | d + 1, hd => by
    have ih := ref08_Right_all d (by omega)
    have hc : ∀ c, FitsC c → Sp 50 [dC c, .int ((d + 1 : Nat) : Int)] [.bool (rightC (d + 1) c)] := fun c hc => ref08_Cell_step (d + 1) c hc hd (fun e he => by
      have : e = d := by omega
      subst this; exact ih.2)
    exact ⟨hc, fun a ha => ref08_Right_step (d + 1) a ha hc⟩
theorem ref08_Right_sp (a : Arr) (ha : Fits a) : Sp 15 [dA a, .int 8] [.bool (rightA 8 a)] := (ref08_Right_all 8 (by decide)).2 a ha
/-- How many of so many parts are left behind an array. -/
def w64 (x : Int) : Int := IntKind.wrap .i64 x
def leftAs (r : Arr → Int → Int) : List Arr → Int → Int
  | [], n => n
  | a :: as_, n => if 0 ≤ n then leftAs r as_ (r a n) else n
def leftCs (r : Arr → Int → Int) : List Cell → Int → Int
  | [], n => n
  | c :: cs, n => if 0 ≤ n then leftCs r cs (leftAs r c.inn (w64 (w64 (w64 (n - 1) - (c.n.top.length : Int)) - (c.n.bot.length : Int)))) else n
def leftA : Nat → Arr → Int → Int
  | 0, _, _ => -1
  | d + 1, a, n => leftCs (leftA d) a.cells (w64 (w64 (n - 1) - (a.shape.length : Int)))
def fewA (a : Arr) : Bool := decide (0 ≤ leftA 12 a 4000)
theorem ref08_left_sp : ∀ (d : Nat), d ≤ 100 → ∀ (a : Arr), Fits a → ∀ n : Int, Sp 121 [dA a, .int (d : Int), .int n] [.int (leftA d a n)]
  | 0, _, a, ha, n => sound_ 0 (ref08_left_tree _ _ _ _) (wp_tt rfl (wp_ret rfl))
  | d + 1, hd, a, ha, n => by
    obtain ⟨N, hN⟩ := bigFuel
    have hl := ha.len
    refine sound_ N (ref08_left_tree _ _ _ _) ?_
    simp only [dA_0, dA_1, dA_2, dC_0, dC_1, dC_2, dC_3, dC_4, dN_0, dN_1, dN_2, els_sl, els_dI, els_dL, List.length_map, Int.toNat_natCast, toInt_int, toInt_dB, toBool_bool, getD_c0, getD_c1, int_beq, int_bne, not_dec, dInt_dB, Int.toNat_zero]
    refine wp_ndec (by omega) ?_
    have key := loop_list (P := Tryz.prog) (md := md) a.cells (fun m k (n : Int) => ref08_left_l5 N m ((d + 1 : Nat) : Int) n (k : Int) (dA a)) (fun rest n => [.int (leftCs (leftA d) rest n)]) (fun _ _ => True)
      (fun m k n hk _ => by
        simp only [ref08_left_l5_succ, dA_0, dA_1, dA_2, dC_0, dC_1, dC_2, dC_3, dC_4, dN_0, dN_1, dN_2, els_sl, els_dI, els_dL, List.length_map, Int.toNat_natCast, toInt_int, toInt_dB, toBool_bool, getD_c0, getD_c1, int_beq, int_bne, not_dec, dInt_dB, Int.toNat_zero]
        exact wp_ndec (by omega) (wp_ret rfl))
      (fun m k n c rest hdr _ ih => by
        obtain ⟨h1, h2, h3⟩ := drop_cons hdr
        have hc := ha.cell c (List.mem_of_getElem? h2)
        have hlc := hc.2.2.1
        simp only [ref08_left_l5_succ, dA_0, dA_1, dA_2, dC_0, dC_1, dC_2, dC_3, dC_4, dN_0, dN_1, dN_2, els_sl, els_dI, els_dL, List.length_map, Int.toNat_natCast, toInt_int, toInt_dB, toBool_bool, getD_c0, getD_c1, int_beq, int_bne, not_dec, dInt_dB, Int.toNat_zero, getD_map h2, leftCs]
        refine wp_dec (by omega) (wp_decs (fun hn => ?_) (fun hn => wp_ret (by rw [if_neg hn])))
        rw [if_pos hn]
        repeat (refine wp_dec (by omega) ?_)
        have key := loop_list (P := Tryz.prog) (md := md) c.inn (fun m' j (n : Int) => ref08_left_l9 N m m' ((d + 1 : Nat) : Int) n (k : Int) (j : Int) (dA a)) (fun rest' n => [.int (leftCs (leftA d) rest (leftAs (leftA d) rest' n))]) (fun _ _ => True)
          (fun m' j n hj _ => by
            simp only [ref08_left_l9_succ, dA_0, dA_1, dA_2, dC_0, dC_1, dC_2, dC_3, dC_4, dN_0, dN_1, dN_2, els_sl, els_dI, els_dL, List.length_map, Int.toNat_natCast, toInt_int, toInt_dB, toBool_bool, getD_c0, getD_c1, int_beq, int_bne, not_dec, dInt_dB, Int.toNat_zero, getD_map h2, wrap_succ (show k < 9223372036854775807 by omega), leftAs]
            repeat (refine wp_dec (by omega) ?_)
            exact wp_ndec (by omega) (ih _ trivial))
          (fun m' j n x rest' hdr' _ ih' => by
            obtain ⟨g1, g2, g3⟩ := drop_cons hdr'
            simp only [ref08_left_l9_succ, dA_0, dA_1, dA_2, dC_0, dC_1, dC_2, dC_3, dC_4, dN_0, dN_1, dN_2, els_sl, els_dI, els_dL, List.length_map, Int.toNat_natCast, toInt_int, toInt_dB, toBool_bool, getD_c0, getD_c1, int_beq, int_bne, not_dec, dInt_dB, Int.toNat_zero, getD_map h2, getD_map g2, wrap_succ (show k < 9223372036854775807 by omega), wrap_succ (show j < 9223372036854775807 by omega), leftAs]
            refine wp_dec (by omega) (wp_dec (by omega) (wp_dec (by omega) (wp_decs (fun hn => ?_) (fun hn => by rw [if_neg hn]; exact ih _ trivial))))
            rw [if_pos hn]
            repeat (refine wp_dec (by omega) ?_)
            rw [wrap64 (by omega) (by omega), show ((d + 1 : Nat) : Int) - 1 = (d : Int) by omega]
            exact wp_call (ref08_left_sp d (by omega) x (hc.2.2.2 x (List.mem_of_getElem? g2)) n) (ih' _ trivial))
          N 0 (w64 (w64 (w64 (n - 1) - (c.n.top.length : Int)) - (c.n.bot.length : Int))) (by omega) (by omega) trivial
        exact key)
      N 0 (w64 (w64 (n - 1) - (a.shape.length : Int))) (by omega) (by omega) trivial
    exact key
theorem ref08_Few_sp (a : Arr) (ha : Fits a) : Sp 76 [dA a] [.bool (fewA a)] := sound_ 0 (ref08_Few_tree _ _) (wp_call (ref08_left_sp 12 (by decide) a ha 4000) (wp_ret rfl))
/-- Axes that make few places. -/
def thinS : List Int → Int → Int
  | [], n => n
  | x :: xs, n => if n ≤ 100000 then thinS xs (if 0 < x then w64 (n * x) else n) else n
def okT (n : Int) : Bool := decide (¬ 100000 < n)
mutual
def thinA : Arr → Bool
  | .mk _ sh cs => okT (thinS sh 1) && thinCs cs
def thinCs : List (CellF Arr) → Bool
  | [] => true
  | c :: cs => thinC c && thinCs cs
def thinC : CellF Arr → Bool
  | ⟨_, _, _, _, inn⟩ => thinAs inn
def thinAs : List Arr → Bool
  | [] => true
  | a :: as_ => thinA a && thinAs as_
end
theorem thinA_eq (a : Arr) : thinA a = (okT (thinS a.shape 1) && thinCs a.cells) := by cases a; rw [thinA]; rfl
theorem thinC_eq (c : Cell) : thinC c = thinAs c.inn := by cases c; rw [thinC]
theorem ref08_thin_sp (a : Arr) : Fits a → Sp 77 [dA a] [.bool (thinA a)] := by
  induction a using Arr.ind with
  | h s sh cs IH =>
    intro ha
    have hl := ha.len
    have hs := ha.sh
    have IH' : ∀ c ∈ (Arr.mk s sh cs).cells, ∀ x ∈ c.inn, Fits x → Sp 77 [dA x] [.bool (thinA x)] := IH
    generalize Arr.mk s sh cs = a at *
    obtain ⟨N, hN⟩ := bigFuel
    refine sound_ N (ref08_thin_tree _ _) ?_
    rw [thinA_eq]
    have inner : Tw (ref08_thin_l10 N N 0 (dA a)) [.bool (thinCs a.cells)] := by
      have key := loop_list (P := Tryz.prog) (md := md) a.cells (fun m k (_ : Unit) => ref08_thin_l10 N m (k : Int) (dA a)) (fun rest _ => [.bool (thinCs rest)]) (fun _ _ => True)
        (fun m k n hk _ => by
          simp only [ref08_thin_l10_succ, dA_0, dA_1, dA_2, dC_0, dC_1, dC_2, dC_3, dC_4, dN_0, dN_1, dN_2, els_sl, els_dI, els_dL, List.length_map, Int.toNat_natCast, toInt_int, toInt_dB, toBool_bool, getD_c0, getD_c1, int_beq, int_bne, not_dec, dInt_dB, Int.toNat_zero]
          exact wp_ndec (by omega) (wp_ret (by rw [thinCs])))
        (fun m k n c rest hdr _ ih => by
          obtain ⟨h1, h2, h3⟩ := drop_cons hdr
          have hc := ha.cell c (List.mem_of_getElem? h2)
          have hlc := hc.2.2.1
          simp only [ref08_thin_l10_succ, dA_0, dA_1, dA_2, dC_0, dC_1, dC_2, dC_3, dC_4, dN_0, dN_1, dN_2, els_sl, els_dI, els_dL, List.length_map, Int.toNat_natCast, toInt_int, toInt_dB, toBool_bool, getD_c0, getD_c1, int_beq, int_bne, not_dec, dInt_dB, Int.toNat_zero, getD_map h2]
          repeat (refine wp_dec (by omega) ?_)
          rw [thinCs, thinC_eq]
          have key := loop_list (P := Tryz.prog) (md := md) c.inn (fun m' j (_ : Unit) => ref08_thin_l13 N m m' (k : Int) (j : Int) (dA a)) (fun rest' _ => [.bool (thinAs rest' && thinCs rest)]) (fun _ _ => True)
            (fun m' j n hj _ => by
              simp only [ref08_thin_l13_succ, dA_0, dA_1, dA_2, dC_0, dC_1, dC_2, dC_3, dC_4, dN_0, dN_1, dN_2, els_sl, els_dI, els_dL, List.length_map, Int.toNat_natCast, toInt_int, toInt_dB, toBool_bool, getD_c0, getD_c1, int_beq, int_bne, not_dec, dInt_dB, Int.toNat_zero, getD_map h2, wrap_succ (show k < 9223372036854775807 by omega)]
              repeat (refine wp_dec (by omega) ?_)
              rw [thinAs, Bool.true_and]
              exact wp_ndec (by omega) (ih () trivial))
            (fun m' j n x rest' hdr' _ ih' => by
              obtain ⟨g1, g2, g3⟩ := drop_cons hdr'
              simp only [ref08_thin_l13_succ, dA_0, dA_1, dA_2, dC_0, dC_1, dC_2, dC_3, dC_4, dN_0, dN_1, dN_2, els_sl, els_dI, els_dL, List.length_map, Int.toNat_natCast, toInt_int, toInt_dB, toBool_bool, getD_c0, getD_c1, int_beq, int_bne, not_dec, dInt_dB, Int.toNat_zero, getD_map h2, getD_map g2, wrap_succ (show j < 9223372036854775807 by omega)]
              repeat (refine wp_dec (by omega) ?_)
              refine wp_call (IH' c (List.mem_of_getElem? h2) x (List.mem_of_getElem? g2) (hc.2.2.2 x (List.mem_of_getElem? g2))) ?_
              simp only [getD_c0, toBool_bool]
              rw [thinAs]
              refine wp_br (fun e => wp_ret ?_) (fun e => ?_)
              · simp at e; rw [e]; rfl
              · simp at e; rw [e, Bool.true_and]; exact ih' () trivial)
            N 0 () (by omega) (by omega) trivial
          exact key)
        N 0 () (by omega) (by omega) trivial
      exact key
    have fin : ∀ n : Int, Tw (.br (decide (100000 < n)) (.ret [D.bool false]) (ref08_thin_l10 N N 0 (dA a))) [.bool (okT n && thinCs a.cells)] := fun n => by
      unfold okT
      refine wp_decs (fun h => wp_ret ?_) (fun h => ?_)
      · rw [decide_eq_false (fun hh => hh h)]; rfl
      · rw [decide_eq_true h, Bool.true_and]; exact inner
    have key := loop_list (P := Tryz.prog) (md := md) a.shape (fun m k (n : Int) => ref08_thin_l3 N m n (k : Int) (dA a)) (fun rest n => [.bool (okT (thinS rest n) && thinCs a.cells)]) (fun _ _ => True)
      (fun m k n hk _ => by
        simp only [ref08_thin_l3_succ, dA_0, dA_1, dA_2, dC_0, dC_1, dC_2, dC_3, dC_4, dN_0, dN_1, dN_2, els_sl, els_dI, els_dL, List.length_map, Int.toNat_natCast, toInt_int, toInt_dB, toBool_bool, getD_c0, getD_c1, int_beq, int_bne, not_dec, dInt_dB, Int.toNat_zero]
        exact wp_ndec (by omega) (fin n))
      (fun m k n x rest hdr _ ih => by
        obtain ⟨h1, h2, h3⟩ := drop_cons hdr
        simp only [ref08_thin_l3_succ, dA_0, dA_1, dA_2, dC_0, dC_1, dC_2, dC_3, dC_4, dN_0, dN_1, dN_2, els_sl, els_dI, els_dL, List.length_map, Int.toNat_natCast, toInt_int, toInt_dB, toBool_bool, getD_c0, getD_c1, int_beq, int_bne, not_dec, dInt_dB, Int.toNat_zero, getD_map h2, wrap_succ (show k < 9223372036854775807 by omega), thinS]
        refine wp_dec (by omega) (wp_decs (fun hn => wp_dec (by omega) (wp_dec (by omega) (wp_decs (fun hx => wp_dec (by omega) (wp_dec (by omega) ?_)) (fun hx => ?_)))) (fun hn => ?_))
        · rw [if_pos hn, if_pos hx]; exact ih _ trivial
        · rw [if_pos hn, if_neg hx]; exact ih _ trivial
        · rw [if_neg hn]; exact fin n)
      N 0 1 (by omega) (by omega) trivial
    exact key
def goodA (a : Arr) : Bool := fewA a && rightA 8 a && thinA a
theorem goodA_right {a : Arr} (h : goodA a = true) : rightA 8 a = true := by unfold goodA at h; simp at h; exact h.1.2
theorem ref08_Good_sp (a : Arr) (ha : Fits a) : Sp 36 [dA a] [.bool (goodA a)] := by
  refine sound_ 0 (ref08_Good_tree _ _) (wp_call (ref08_Few_sp a ha) ?_)
  unfold goodA
  simp only [getD_c0, toBool_bool]
  refine wp_br (fun e1 => wp_call (ref08_Right_sp a ha) ?_) (fun e1 => wp_ret (by rw [e1]; rfl))
  simp only [getD_c0, toBool_bool]
  refine wp_br (fun e2 => wp_call (ref08_thin_sp a ha) (wp_ret ?_)) (fun e2 => wp_ret (by rw [e2, Bool.and_false]; rfl))
  rw [e1, e2]; rfl
theorem ref08_Good_ex (a : Arr) (ha : Fits a) : ∃ b, (b = true → rightA 8 a = true) ∧ Sp 36 [dA a] [.bool b] := ⟨goodA a, goodA_right, ref08_Good_sp a ha⟩
theorem ref08_Total_sp (a : Arr) : Fits a → Sp 48 [dA a] [dB (totA a)] := by
  induction a using Arr.ind with
  | h s sh cs IH =>
    intro ha
    have hl := ha.len
    have IH' : ∀ c ∈ (Arr.mk s sh cs).cells, ∀ x ∈ c.inn, Fits x → Sp 48 [dA x] [dB (totA x)] := IH
    generalize Arr.mk s sh cs = a at *
    obtain ⟨N, hN⟩ := bigFuel
    refine sound_ N (ref08_Total_tree _ _) ?_
    rw [totA_eq]
    have key := loop_list (P := Tryz.prog) (md := md) a.cells (fun m k (l : Lab) => ref08_Total_l3 N m (l.toNat : Int) (k : Int) (dA a)) (fun rest l => [dB (rest.foldl totC l)]) (fun _ _ => True)
      (fun m k l hk _ => by
        simp only [ref08_Total_l3_succ, dA_0, dA_1, dA_2, dC_0, dC_1, dC_2, dC_3, dC_4, dN_0, dN_1, dN_2, els_sl, els_dI, els_dL, List.length_map, Int.toNat_natCast, toInt_int, toInt_dB, toBool_bool, getD_c0, getD_c1, int_beq, int_bne, not_dec, dInt_dB, Int.toNat_zero]
        exact wp_ndec (by omega) (wp_ret rfl))
      (fun m k l c rest hdr _ ih => by
        obtain ⟨h1, h2, h3⟩ := drop_cons hdr
        have hc := ha.cell c (List.mem_of_getElem? h2)
        have hlc := hc.2.2.1
        simp only [ref08_Total_l3_succ, dA_0, dA_1, dA_2, dC_0, dC_1, dC_2, dC_3, dC_4, dN_0, dN_1, dN_2, els_sl, els_dI, els_dL, List.length_map, Int.toNat_natCast, toInt_int, toInt_dB, toBool_bool, getD_c0, getD_c1, int_beq, int_bne, not_dec, dInt_dB, Int.toNat_zero, getD_map h2]
        repeat (refine wp_dec (by omega) ?_)
        refine wp_call (ref01_Join_sp l c.l) ?_
        simp only [getD_c0, toInt_dB, List.foldl_cons]
        rw [totC_eq]
        have key := loop_list (P := Tryz.prog) (md := md) c.inn (fun m' j (l : Lab) => ref08_Total_l7 N m m' (l.toNat : Int) (k : Int) (j : Int) (dA a)) (fun rest' l => [dB (rest.foldl totC (rest'.foldl (fun l x => l ||| totA x) l))]) (fun _ _ => True)
          (fun m' j l hj _ => by
            simp only [ref08_Total_l7_succ, dA_0, dA_1, dA_2, dC_0, dC_1, dC_2, dC_3, dC_4, dN_0, dN_1, dN_2, els_sl, els_dI, els_dL, List.length_map, Int.toNat_natCast, toInt_int, toInt_dB, toBool_bool, getD_c0, getD_c1, int_beq, int_bne, not_dec, dInt_dB, Int.toNat_zero, getD_map h2, wrap_succ (show k < 9223372036854775807 by omega)]
            repeat (refine wp_dec (by omega) ?_)
            exact wp_ndec (by omega) (ih _ trivial))
          (fun m' j l x rest' hdr' _ ih' => by
            obtain ⟨g1, g2, g3⟩ := drop_cons hdr'
            simp only [ref08_Total_l7_succ, dA_0, dA_1, dA_2, dC_0, dC_1, dC_2, dC_3, dC_4, dN_0, dN_1, dN_2, els_sl, els_dI, els_dL, List.length_map, Int.toNat_natCast, toInt_int, toInt_dB, toBool_bool, getD_c0, getD_c1, int_beq, int_bne, not_dec, dInt_dB, Int.toNat_zero, getD_map h2, getD_map g2, wrap_succ (show j < 9223372036854775807 by omega)]
            repeat (refine wp_dec (by omega) ?_)
            refine wp_call (IH' c (List.mem_of_getElem? h2) x (List.mem_of_getElem? g2) (hc.2.2.2 x (List.mem_of_getElem? g2))) (wp_call (ref01_Join_sp l (totA x)) ?_)
            exact ih' (l ||| totA x) trivial)
          N 0 (l ||| c.l) (by omega) (by omega) trivial
        exact key)
      N 0 a.s (by omega) (by omega) trivial
    simp only [dA_0, toInt_dB]
    exact key
/-- The same, with labels. -/
noncomputable def eqA (a b : Arr) : Bool := @decide (a = b) (Classical.propDecidable _)
noncomputable def eqC (a b : Cell) : Bool := @decide (a = b) (Classical.propDecidable _)
theorem eqA_iff {a b : Arr} : eqA a b = true ↔ a = b := by unfold eqA; exact @decide_eq_true_iff _ (Classical.propDecidable _)
theorem eqA_false {a b : Arr} (h : a ≠ b) : eqA a b = false := by cases e : eqA a b with
  | false => rfl
  | true => exact absurd (eqA_iff.1 e) h
theorem eqC_iff {a b : Cell} : eqC a b = true ↔ a = b := by unfold eqC; exact @decide_eq_true_iff _ (Classical.propDecidable _)
theorem eqC_false {a b : Cell} (h : a ≠ b) : eqC a b = false := by cases e : eqC a b with
  | false => rfl
  | true => exact absurd (eqC_iff.1 e) h
theorem eqA_self (a : Arr) : eqA a a = true := eqA_iff.2 rfl
theorem eqC_self (a : Cell) : eqC a a = true := eqC_iff.2 rfl
theorem cell_eq (a b : Cell) : (a = b) ↔ (a.l = b.l ∧ a.kind = b.kind ∧ a.c = b.c ∧ a.n = b.n ∧ a.inn = b.inn) := by
  cases a; cases b
  constructor
  · rintro ⟨⟩; exact ⟨rfl, rfl, rfl, rfl, rfl⟩
  · rintro ⟨h1, h2, h3, h4, h5⟩; dsimp only at h1 h2 h3 h4 h5; subst h1; subst h2; subst h3; subst h4; subst h5; rfl
theorem arr_eq (a b : Arr) : (a = b) ↔ (a.s = b.s ∧ a.shape = b.shape ∧ a.cells = b.cells) := by
  cases a; cases b; simp
/-- A loop that asks whether two lists are the same. -/
theorem same_loop {α : Type} {P : Program} {md : Nat → FMode} (a b : List α) (e : α → α → Bool) (he : ∀ x ∈ a, ∀ y, e x y = true ↔ x = y) (hlen : a.length = b.length) (r : Bool) (hr : r = true ↔ a = b) (L : Nat → Nat → Tree)
    (hend : ∀ m, ∀ Q : List D → Prop, Q [.bool true] → (L (m + 1) a.length).wp P md Q)
    (hstep : ∀ m k x y, ∀ Q : List D → Prop, a[k]? = some x → b[k]? = some y → (e x y = false → Q [.bool false]) → (e x y = true → (L m (k + 1)).wp P md Q) → (L (m + 1) k).wp P md Q) (N : Nat) (hN : a.length < N) : (L N 0).wp P md (fun zs => zs = [.bool r]) := by
  have key := loop_up (P := P) (md := md) a.length (fun m k (_ : Unit) => L m k) (fun _ _ => [.bool r]) (fun k _ => a.take k = b.take k)
    (fun m s h => by
      refine hend m _ ?_
      rw [List.take_of_length_le (Nat.le_refl _), List.take_of_length_le (by omega)] at h
      rw [hr.2 h])
    (fun m k s hk h ih => by
      have ha : a[k]? = some a[k] := List.getElem?_eq_getElem _
      have hb : b[k]? = some (b[k]'(by omega)) := List.getElem?_eq_getElem _
      refine hstep m k _ _ _ ha hb (fun hf => ?_) (fun ht => ih () ?_)
      · have : r = false := by
          cases hrr : r with
          | false => rfl
          | true =>
            have := hr.1 hrr
            subst this
            rw [(he a[k] (List.getElem_mem _) a[k]).2 rfl] at hf; cases hf
        rw [this]
      · have : a[k] = b[k] := (he a[k] (List.getElem_mem _) _).1 ht
        rw [List.take_succ_eq_append_getElem hk, List.take_succ_eq_append_getElem (by omega), h, this])
    N 0 () (by omega) (by omega) (by simp)
  exact key
theorem ref08_SameCell_step (a : Cell) (hf : FitsC a) (ih : ∀ x ∈ a.inn, Fits x → ∀ y, Sp 38 [dA x, dA y] [.bool (eqA x y)]) (b : Cell) : Sp 79 [dC a, dC b] [.bool (eqC a b)] := by
  refine sound_ (a.inn.length + 1) (ref08_SameCell_tree _ _ _) ?_
  have hl := hf.2.2.1
  simp only [dA_0, dA_1, dA_2, dC_0, dC_1, dC_2, dC_3, dC_4, dN_0, dN_1, dN_2, els_sl, els_dI, els_dL, List.length_map, Int.toNat_natCast, toInt_int, toInt_dB, toBool_bool, getD_c0, getD_c1, int_beq, int_bne, not_dec, dInt_dB, Int.toNat_zero]
  refine wp_decs (fun h => wp_ret ?_) (fun h1 => wp_decs (fun h => wp_ret ?_) (fun h2 => wp_decs (fun h => wp_ret ?_) (fun h3 => wp_call (ref04_Same_sp a.n b.n hf.1 hf.2.1) ?_)))
  · rw [eqC_false]; rintro rfl; exact h rfl
  · rw [eqC_false]; rintro rfl; exact h rfl
  · rw [eqC_false]; rintro rfl; exact h rfl
  simp only [getD_c0, toBool_bool, not_dec]
  refine wp_decs (fun h => wp_ret ?_) (fun h4 => wp_decs (fun h => wp_ret ?_) (fun h5 => ?_))
  · rw [eqC_false]; rintro rfl; exact h rfl
  · rw [eqC_false]; rintro rfl; exact h rfl
  have e1 : a.l = b.l := BitVec.eq_of_toNat_eq (by omega)
  refine same_loop (P := Tryz.prog) (md := md) a.inn b.inn eqA (fun x _ y => eqA_iff) (by omega) (eqC a b) ?_ (fun m k => ref08_SameCell_l4 (a.inn.length + 1) m (k : Int) (dC a) (dC b)) ?_ ?_ (a.inn.length + 1) (by omega)
  · rw [eqC_iff, cell_eq]
    have h2' := Classical.not_not.1 h2
    have h3' := Classical.not_not.1 h3
    have h4' := Classical.not_not.1 h4
    simp [e1, h2', h3', h4']
  · intro m Q hQ
    simp only [ref08_SameCell_l4_succ, dA_0, dA_1, dA_2, dC_0, dC_1, dC_2, dC_3, dC_4, dN_0, dN_1, dN_2, els_sl, els_dI, els_dL, List.length_map, Int.toNat_natCast, toInt_int, toInt_dB, toBool_bool, getD_c0, getD_c1, int_beq, int_bne, not_dec, dInt_dB, Int.toNat_zero]
    exact wp_ndec (by omega) (wp_ret hQ)
  · intro m k x y Q hx hy hF hT
    have hk : k < a.inn.length := (List.getElem?_eq_some_iff.1 hx).1
    simp only [ref08_SameCell_l4_succ, dA_0, dA_1, dA_2, dC_0, dC_1, dC_2, dC_3, dC_4, dN_0, dN_1, dN_2, els_sl, els_dI, els_dL, List.length_map, Int.toNat_natCast, toInt_int, toInt_dB, toBool_bool, getD_c0, getD_c1, int_beq, int_bne, not_dec, dInt_dB, Int.toNat_zero, getD_map hx, getD_map hy, wrap_succ (show k < 9223372036854775807 by omega)]
    repeat (refine wp_dec (by omega) ?_)
    refine wp_call (ih x (List.mem_of_getElem? hx) (hf.2.2.2 x (List.mem_of_getElem? hx)) y) ?_
    simp only [getD_c0, toBool_bool]
    refine wp_br (fun h => wp_ret (hF (by simpa using h))) (fun h => hT (by simpa using h))
theorem ref08_Same_sp (a : Arr) : Fits a → ∀ b, Sp 38 [dA a, dA b] [.bool (eqA a b)] := by
  induction a using Arr.ind with
  | h s sh cs IH =>
    intro ha b
    have hl := ha.len
    have IH' : ∀ c ∈ (Arr.mk s sh cs).cells, ∀ x ∈ c.inn, Fits x → ∀ y, Sp 38 [dA x, dA y] [.bool (eqA x y)] := IH
    generalize Arr.mk s sh cs = a at *
    refine sound_ (a.cells.length + 1) (ref08_Same_tree _ _ _) ?_
    simp only [dA_0, dA_1, dA_2, dC_0, dC_1, dC_2, dC_3, dC_4, dN_0, dN_1, dN_2, els_sl, els_dI, els_dL, List.length_map, Int.toNat_natCast, toInt_int, toInt_dB, toBool_bool, getD_c0, getD_c1, int_beq, int_bne, not_dec, dInt_dB, Int.toNat_zero]
    refine wp_decs (fun h => wp_ret ?_) (fun h1 => wp_call (ref07_Ints_sp a.shape b.shape ha.sh) ?_)
    · rw [eqA_false]; rintro rfl; exact h rfl
    simp only [getD_c0, toBool_bool, not_dec]
    refine wp_decs (fun h => wp_ret ?_) (fun h4 => wp_decs (fun h => wp_ret ?_) (fun h5 => ?_))
    · rw [eqA_false]; rintro rfl; exact h rfl
    · rw [eqA_false]; rintro rfl; exact h rfl
    have e1 : a.s = b.s := BitVec.eq_of_toNat_eq (by omega)
    refine same_loop (P := Tryz.prog) (md := md) a.cells b.cells eqC (fun x _ y => eqC_iff) (by omega) (eqA a b) ?_ (fun m k => ref08_Same_l4 (a.cells.length + 1) m (k : Int) (dA a) (dA b)) ?_ ?_ (a.cells.length + 1) (by omega)
    · rw [eqA_iff, arr_eq]
      have h4' := Classical.not_not.1 h4
      simp [e1, h4']
    · intro m Q hQ
      simp only [ref08_Same_l4_succ, dA_0, dA_1, dA_2, dC_0, dC_1, dC_2, dC_3, dC_4, dN_0, dN_1, dN_2, els_sl, els_dI, els_dL, List.length_map, Int.toNat_natCast, toInt_int, toInt_dB, toBool_bool, getD_c0, getD_c1, int_beq, int_bne, not_dec, dInt_dB, Int.toNat_zero]
      exact wp_ndec (by omega) (wp_ret hQ)
    · intro m k x y Q hx hy hF hT
      have hk : k < a.cells.length := (List.getElem?_eq_some_iff.1 hx).1
      simp only [ref08_Same_l4_succ, dA_0, dA_1, dA_2, dC_0, dC_1, dC_2, dC_3, dC_4, dN_0, dN_1, dN_2, els_sl, els_dI, els_dL, List.length_map, Int.toNat_natCast, toInt_int, toInt_dB, toBool_bool, getD_c0, getD_c1, int_beq, int_bne, not_dec, dInt_dB, Int.toNat_zero, getD_map hx, getD_map hy, wrap_succ (show k < 9223372036854775807 by omega)]
      repeat (refine wp_dec (by omega) ?_)
      refine wp_call (ref08_SameCell_step x (ha.cell x (List.mem_of_getElem? hx)) (IH' x (List.mem_of_getElem? hx)) y) ?_
      simp only [getD_c0, toBool_bool]
      refine wp_br (fun h => wp_ret (hF (by simpa using h))) (fun h => hT (by simpa using h))
theorem ref08_SameCell_sp (a b : Cell) (hf : FitsC a) : Sp 79 [dC a, dC b] [.bool (eqC a b)] := ref08_SameCell_step a hf (fun x _ hx y => ref08_Same_sp x hx y) b
/-- Small whole numbers; an error. -/
def intsCs : List Cell → Option (List Int)
  | [] => some []
  | c :: cs => if c.kind = 0 then (smallN c.n).bind (fun z => (intsCs cs).map (z :: ·)) else none
def intsA (a : Arr) : List Int × Int := if 1 < a.shape.length then ([], 5) else match intsCs a.cells with
  | some l => (l, 0)
  | none => ([], 3)
def intC (z : Int) : Cell := ⟨0, 0, ofZ z, 0, []⟩
def fillC (a : Arr) : Cell := match a.cells with
  | [] => intC 0
  | c :: _ => if c.kind = 1 then ⟨c.l, 1, .zero, 32, []⟩ else ⟨c.l, 0, ofZ 0, 0, []⟩
theorem smallN_inR {n : Num} {z : Int} (h : smallN n = some z) : inR z := by
  unfold smallN smO at h
  split at h
  · split at h
    · injection h with h; subst h; assumption
    · cases h
  · cases h
theorem intsCs_inR : ∀ {cs : List Cell} {l : List Int}, intsCs cs = some l → l.length = cs.length ∧ ∀ x ∈ l, inR x
  | [], l, h => by simp [intsCs] at h; subst h; simp
  | c :: cs, l, h => by
    simp only [intsCs] at h
    split at h
    · cases hn : smallN c.n with
      | none => rw [hn] at h; cases h
      | some z =>
        rw [hn] at h
        cases hc : intsCs cs with
        | none => rw [hc] at h; cases h
        | some l' =>
          rw [hc] at h
          injection h with h; subst h
          have := intsCs_inR hc
          exact ⟨by simp [this.1], fun x hx => by rcases List.mem_cons.1 hx with rfl | hx; exact smallN_inR hn; exact this.2 x hx⟩
    · cases h
def insD (out : List Int) : Option (List Int) → List D
  | some l => [dI (out ++ l), .int 0]
  | none => [.sl [], .int 3]
theorem insD_intsA {a : Arr} (h : ¬ 1 < a.shape.length) : insD [] (intsCs a.cells) = [dI (intsA a).1, .int (intsA a).2] := by
  unfold intsA; rw [if_neg h]; cases intsCs a.cells <;> rfl
theorem ref08_Ints_sp (a : Arr) (hl : a.cells.length ≤ 2048) (hn : ∀ c ∈ a.cells, c.n.top.length ≤ 32) : Sp 34 [dA a] [dI (intsA a).1, .int (intsA a).2] := by
  refine sound_ (a.cells.length + 1) (ref08_Ints_tree _ _) ?_
  simp only [dA_0, dA_1, dA_2, dC_0, dC_1, dC_2, dC_3, dC_4, dN_0, dN_1, dN_2, els_sl, els_dI, els_dL, List.length_map, Int.toNat_natCast, toInt_int, toInt_dB, toBool_bool, getD_c0, getD_c1, int_beq, int_bne, not_dec, dInt_dB, Int.toNat_zero]
  refine wp_decs (fun h => wp_ret ?_) (fun h => ?_)
  · unfold intsA; rw [if_pos (by omega)]; rfl
  · rw [← insD_intsA (by omega)]
    have key := loop_list (P := Tryz.prog) (md := md) a.cells (fun m k (out : List Int) => ref08_Ints_l5 (a.cells.length + 1) m (out.map .int) (k : Int) (dA a)) (fun rest out => insD out (intsCs rest)) (fun rest out => out.length + rest.length ≤ 2048)
      (fun m k out hk _ => by
        simp only [ref08_Ints_l5_succ, dA_0, dA_1, dA_2, dC_0, dC_1, dC_2, dC_3, dC_4, dN_0, dN_1, dN_2, els_sl, els_dI, els_dL, List.length_map, Int.toNat_natCast, toInt_int, toInt_dB, toBool_bool, getD_c0, getD_c1, int_beq, int_bne, not_dec, dInt_dB, Int.toNat_zero]
        exact wp_ndec (by omega) (wp_ret (by simp [intsCs, insD, dI])))
      (fun m k out c rest hdr hI ih => by
        obtain ⟨h1, h2, h3⟩ := drop_cons hdr
        have hm := List.mem_of_getElem? h2
        simp only [ref08_Ints_l5_succ, dA_0, dA_1, dA_2, dC_0, dC_1, dC_2, dC_3, dC_4, dN_0, dN_1, dN_2, els_sl, els_dI, els_dL, List.length_map, Int.toNat_natCast, toInt_int, toInt_dB, toBool_bool, getD_c0, getD_c1, int_beq, int_bne, not_dec, dInt_dB, Int.toNat_zero, getD_map h2, wrap_succ (show k < 9223372036854775807 by omega)]
        repeat (refine wp_dec (by omega) ?_)
        simp only [intsCs]
        refine wp_decs (fun hk => wp_ret ?_) (fun hk => ?_)
        · rw [if_neg hk]; rfl
        rw [if_pos (Classical.not_not.1 hk)]
        repeat (refine wp_dec (by omega) ?_)
        refine wp_call (ref04_Small_sp c.n (by have := hn c hm; omega)) ?_
        cases hs : smallN c.n with
        | none => exact wp_tt rfl (wp_ret rfl)
        | some z =>
          refine wp_ff rfl (wp_dec ?_ ?_)
          · simp only [List.length_cons, List.length_nil, bigN, List.length_map] at hI ⊢; omega
          · have := ih (out ++ [z]) (by simp only [List.length_append, List.length_cons, List.length_nil] at hI ⊢; omega)
            simp only [optI, getD_c0, toInt_int]
            rw [List.map_append] at this
            refine Tree.wp_mono this (fun ys hy => hy.trans ?_)
            cases intsCs rest with
            | none => rfl
            | some l => simp [insD])
      (a.cells.length + 1) 0 [] (by omega) (by omega) (by simpa using hl)
    exact key
theorem ref08_Int_sp (z : Int) (hz : inR z) : Sp 78 [.int z] [dC (intC z)] := by
  refine sound_ 0 (ref08_Int_tree _ _) (wp_call (ref04_Of_sp z hz) (wp_ret ?_))
  rw [dC_eq]; rfl
end Go.Proofs.YtbgcadcpeabpgaaGreat
set_option maxRecDepth 100000
namespace Go.Proofs.YtbgcadcpeabpgaaGreat

theorem array_Total_sp (a : Arr) : Fits a → Sp 61 [dA a] [dB (totA a)] := by
  induction a using Arr.ind with
  | h s sh cs IH =>
    intro ha
    have hl := ha.len
    have IH' : ∀ c ∈ (Arr.mk s sh cs).cells, ∀ x ∈ c.inn, Fits x → Sp 61 [dA x] [dB (totA x)] := IH
    generalize Arr.mk s sh cs = a at *
    obtain ⟨N, hN⟩ := bigFuel
    refine sound_ N (array_Total_tree _ _) ?_
    rw [totA_eq]
    have key := loop_list (P := Tryz.prog) (md := md) a.cells (fun m k (l : Lab) => array_Total_l3 N m (l.toNat : Int) (.sl (a.cells.map dC)) (a.cells.length : Int) (k : Int)) (fun rest l => [dB (rest.foldl totC l)]) (fun _ _ => True)
      (fun m k l hk _ => by
        simp only [array_Total_l3_succ, dA_0, dA_1, dA_2, dC_0, dC_1, dC_2, dC_3, dC_4, dN_0, dN_1, dN_2, els_sl, els_dI, els_dL, List.length_map, Int.toNat_natCast, toInt_int, toInt_dB, toBool_bool, getD_c0, getD_c1, int_beq, int_bne, not_dec, dInt_dB, Int.toNat_zero]
        exact wp_ndec (by omega) (wp_ret rfl))
      (fun m k l c rest hdr _ ih => by
        obtain ⟨h1, h2, h3⟩ := drop_cons hdr
        have hc := ha.cell c (List.mem_of_getElem? h2)
        have hlc := hc.2.2.1
        simp only [array_Total_l3_succ, dA_0, dA_1, dA_2, dC_0, dC_1, dC_2, dC_3, dC_4, dN_0, dN_1, dN_2, els_sl, els_dI, els_dL, List.length_map, Int.toNat_natCast, toInt_int, toInt_dB, toBool_bool, getD_c0, getD_c1, int_beq, int_bne, not_dec, dInt_dB, Int.toNat_zero, getD_map h2]
        repeat (refine wp_dec (by omega) ?_)
        refine wp_call (label_Join_sp l c.l) ?_
        simp only [getD_c0, toInt_dB, List.foldl_cons]
        rw [totC_eq]
        have key := loop_list (P := Tryz.prog) (md := md) c.inn (fun m' j (l : Lab) => array_Total_l7 N m m' (l.toNat : Int) (.sl (a.cells.map dC)) (a.cells.length : Int) (k : Int) (.sl (c.inn.map dA)) (c.inn.length : Int) (j : Int)) (fun rest' l => [dB (rest.foldl totC (rest'.foldl (fun l x => l ||| totA x) l))]) (fun _ _ => True)
          (fun m' j l hj _ => by
            simp only [array_Total_l7_succ, dA_0, dA_1, dA_2, dC_0, dC_1, dC_2, dC_3, dC_4, dN_0, dN_1, dN_2, els_sl, els_dI, els_dL, List.length_map, Int.toNat_natCast, toInt_int, toInt_dB, toBool_bool, getD_c0, getD_c1, int_beq, int_bne, not_dec, dInt_dB, Int.toNat_zero, getD_map h2, wrap_succ (show k < 9223372036854775807 by omega)]
            exact wp_ndec (by omega) (ih _ trivial))
          (fun m' j l x rest' hdr' _ ih' => by
            obtain ⟨g1, g2, g3⟩ := drop_cons hdr'
            simp only [array_Total_l7_succ, dA_0, dA_1, dA_2, dC_0, dC_1, dC_2, dC_3, dC_4, dN_0, dN_1, dN_2, els_sl, els_dI, els_dL, List.length_map, Int.toNat_natCast, toInt_int, toInt_dB, toBool_bool, getD_c0, getD_c1, int_beq, int_bne, not_dec, dInt_dB, Int.toNat_zero, getD_map h2, getD_map g2, wrap_succ (show j < 9223372036854775807 by omega)]
            repeat (refine wp_dec (by omega) ?_)
            refine wp_call (IH' c (List.mem_of_getElem? h2) x (List.mem_of_getElem? g2) (hc.2.2.2 x (List.mem_of_getElem? g2))) (wp_call (label_Join_sp l (totA x)) ?_)
            exact ih' (l ||| totA x) trivial)
          N 0 (l ||| c.l) (by omega) (by omega) trivial
        exact key)
      N 0 a.s (by omega) (by omega) trivial
    simp only [dA_0, dA_1, dA_2, dC_0, dC_1, dC_2, dC_3, dC_4, dN_0, dN_1, dN_2, els_sl, els_dI, els_dL, List.length_map, Int.toNat_natCast, toInt_int, toInt_dB, toBool_bool, getD_c0, getD_c1, int_beq, int_bne, not_dec, dInt_dB, Int.toNat_zero]
    exact key
theorem array_Ints_sp (a : Arr) (hl : a.cells.length ≤ 2048) (hn : ∀ c ∈ a.cells, c.n.top.length ≤ 32) : Sp 40 [dA a] [dI (intsA a).1, .int (intsA a).2] := by
  refine sound_ (a.cells.length + 1) (array_Ints_tree _ _) ?_
  simp only [dA_0, dA_1, dA_2, dC_0, dC_1, dC_2, dC_3, dC_4, dN_0, dN_1, dN_2, els_sl, els_dI, els_dL, List.length_map, Int.toNat_natCast, toInt_int, toInt_dB, toBool_bool, getD_c0, getD_c1, int_beq, int_bne, not_dec, dInt_dB, Int.toNat_zero, List.replicate_zero]
  refine wp_decs (fun h => wp_ret ?_) (fun h => ?_)
  · unfold intsA; rw [if_pos (by omega)]; rfl
  · rw [← insD_intsA (by omega)]
    refine wp_dec (by omega) (wp_dec (by omega) (wp_dec (by simp only [bigN]; omega) ?_))
    have key := loop_list (P := Tryz.prog) (md := md) a.cells (fun m k (out : List Int) => array_Ints_l5 (a.cells.length + 1) m (out.map .int) (.sl (a.cells.map dC)) (a.cells.length : Int) (k : Int)) (fun rest out => insD out (intsCs rest)) (fun rest out => out.length + rest.length ≤ 2048)
      (fun m k out hk _ => by
        simp only [array_Ints_l5_succ, dA_0, dA_1, dA_2, dC_0, dC_1, dC_2, dC_3, dC_4, dN_0, dN_1, dN_2, els_sl, els_dI, els_dL, List.length_map, Int.toNat_natCast, toInt_int, toInt_dB, toBool_bool, getD_c0, getD_c1, int_beq, int_bne, not_dec, dInt_dB, Int.toNat_zero]
        exact wp_ndec (by omega) (wp_ret (by simp [intsCs, insD, dI])))
      (fun m k out c rest hdr hI ih => by
        obtain ⟨h1, h2, h3⟩ := drop_cons hdr
        have hm := List.mem_of_getElem? h2
        simp only [array_Ints_l5_succ, dA_0, dA_1, dA_2, dC_0, dC_1, dC_2, dC_3, dC_4, dN_0, dN_1, dN_2, els_sl, els_dI, els_dL, List.length_map, Int.toNat_natCast, toInt_int, toInt_dB, toBool_bool, getD_c0, getD_c1, int_beq, int_bne, not_dec, dInt_dB, Int.toNat_zero, getD_map h2, wrap_succ (show k < 9223372036854775807 by omega)]
        repeat (refine wp_dec (by omega) ?_)
        simp only [intsCs]
        refine wp_call (ratio_Small_sp c.n (by have := hn c hm; omega)) ?_
        refine wp_decs (fun hk => wp_ret ?_) (fun hk => ?_)
        · rw [if_neg hk]; rfl
        rw [if_pos (Classical.not_not.1 hk)]
        cases hs : smallN c.n with
        | none => exact wp_tt rfl (wp_ret rfl)
        | some z =>
          refine wp_ff rfl (wp_dec ?_ ?_)
          · simp only [List.length_cons, List.length_nil, bigN, List.length_map] at hI ⊢; omega
          · have := ih (out ++ [z]) (by simp only [List.length_append, List.length_cons, List.length_nil] at hI ⊢; omega)
            simp only [optI, getD_c0, toInt_int]
            rw [List.map_append] at this
            refine Tree.wp_mono this (fun ys hy => hy.trans ?_)
            cases intsCs rest with
            | none => rfl
            | some l => simp [insD])
      (a.cells.length + 1) 0 [] (by omega) (by omega) (by simpa using hl)
    exact key
theorem array_Int_sp (z : Int) (hz : inR z) : Sp 64 [.int z] [dC (intC z)] := by
  refine sound_ 0 (array_Int_tree _ _) (wp_call (ratio_Of_sp z hz) (wp_ret ?_))
  rw [dC_eq]; rfl
def chrC (c : Int) : Cell := ⟨0, 1, .zero, c, []⟩
theorem array_Chr_sp (z : Int) : Sp 128 [.int z] [dC (chrC z)] := by
  refine sound_ 0 (array_Chr_tree _ _) (wp_ret ?_)
  rw [dC_eq]; rfl
theorem inR0 : inR 0 := by unfold inR; decide
theorem array_Fill_sp (a : Arr) : Sp 86 [dA a] [dC (fillC a)] := by
  refine sound_ 0 (array_Fill_tree _ _) ?_
  simp only [dA_0, dA_1, dA_2, dC_0, dC_1, dC_2, dC_3, dC_4, dN_0, dN_1, dN_2, els_sl, els_dI, els_dL, List.length_map, Int.toNat_natCast, toInt_int, toInt_dB, toBool_bool, getD_c0, getD_c1, int_beq, int_bne, not_dec, dInt_dB, Int.toNat_zero]
  unfold fillC
  match hc : a.cells with
  | [] => exact wp_dec (by simp) (wp_call (array_Int_sp 0 inR0) (wp_ret rfl))
  | c :: cs =>
    refine wp_ndec (by simp; omega) (wp_call (array_Int_sp 0 inR0) (wp_dec (by omega) (wp_dec (by simp) ?_)))
    simp only [List.map_cons, getD_c0, dA_0, dA_1, dA_2, dC_0, dC_1, dC_2, dC_3, dC_4, dN_0, dN_1, dN_2, els_sl, els_dI, els_dL, List.length_map, Int.toNat_natCast, toInt_int, toInt_dB, toBool_bool, getD_c0, getD_c1, int_beq, int_bne, not_dec, dInt_dB, Int.toNat_zero]
    refine wp_decs (fun h => wp_call (array_Chr_sp 32) (wp_dec (by omega) (wp_dec (by simp) (wp_ret ?_)))) (fun h => wp_dec (by omega) (wp_dec (by simp) (wp_ret ?_)))
    · rw [if_pos h, dC_eq]
      simp only [dA_0, dA_1, dA_2, dC_0, dC_1, dC_2, dC_3, dC_4, dN_0, dN_1, dN_2, els_sl, els_dI, els_dL, List.length_map, Int.toNat_natCast, toInt_int, toInt_dB, toBool_bool, getD_c0, getD_c1, int_beq, int_bne, not_dec, dInt_dB, Int.toNat_zero]; rfl
    · rw [if_neg h, dC_eq]
      simp only [dA_0, dA_1, dA_2, dC_0, dC_1, dC_2, dC_3, dC_4, dN_0, dN_1, dN_2, els_sl, els_dI, els_dL, List.length_map, Int.toNat_natCast, toInt_int, toInt_dB, toBool_bool, getD_c0, getD_c1, int_beq, int_bne, not_dec, dInt_dB, Int.toNat_zero]; rfl
end Go.Proofs.YtbgcadcpeabpgaaGreat
set_option maxRecDepth 100000
namespace Go.Proofs.YtbgcadcpeabpgaaGreat

theorem lb_one : lb 1 = [1] := by rw [lb_pos (by decide), show 1 / B = 0 by decide, lb_zero]; rfl
theorem numT_ofZ (z : Int) : numT (ofZ z) = z := zv_wz z
theorem numB_ofZ (z : Int) : numB (ofZ z) = 1 := by simp [numB, ofZ, nv]
theorem lb_inR {z : Int} (h : inR z) : (lb z.natAbs).length ≤ 2 := lb_len.2 (by unfold inR at h; show z.natAbs < 18446744073709551616; omega)
theorem rightN_ofZ {z : Int} (h : inR z) : rightN (ofZ z) = true := by
  have hl := lb_inR h
  unfold rightN
  rw [numT_ofZ, numB_ofZ]
  refine decide_eq_true ⟨by simp only [ofZ]; omega, by simp [ofZ], ?_⟩
  unfold mkR
  simp only [Int.natAbs_one, Nat.gcd_one_right, Nat.div_one, lb_one]
  rw [if_neg (by decide), if_neg (by simp only [List.length_cons, List.length_nil]; omega)]
  unfold ofZ
  congr 2
  by_cases hz : z < 0
  · have : 0 < (lb z.natAbs).length := by
      rcases Nat.eq_zero_or_pos (lb z.natAbs).length with h0 | h0
      · have := lb_len0.1 h0; omega
      · exact h0
    simp [hz, this]
  · simp [hz]
theorem smallN_ofZ {z : Int} (h : inR z) : smallN (ofZ z) = some z := by
  unfold smallN smO
  rw [if_pos (show (ofZ z).bot = [1] from rfl), numT_ofZ, if_pos h]
theorem rightN_len {n : Num} (h : rightN n = true) : n.top.length ≤ 32 ∧ n.bot.length ≤ 32 := by
  have := of_decide_eq_true h
  exact ⟨this.1, this.2.1⟩
theorem rightC_len {d : Nat} {c : Cell} (h : rightC d c = true) : c.n.top.length ≤ 32 ∧ c.n.bot.length ≤ 32 ∧ c.inn.length ≤ 1 := by
  suffices key : ∀ k r, cellR k r c = true → c.n.top.length ≤ 32 ∧ c.n.bot.length ≤ 32 ∧ c.inn.length ≤ 1 by
    cases d with
    | zero => exact key _ _ h
    | succ d => exact key _ _ h
  intro k r h
  unfold cellR at h
  split at h
  · simp only [Bool.and_eq_true, decide_eq_true_eq] at h
    exact ⟨(rightN_len h.2).1, (rightN_len h.2).2, by omega⟩
  split at h
  · simp only [Bool.and_eq_true, decide_eq_true_eq] at h
    rw [h.1.1]; exact ⟨by decide, by decide, by omega⟩
  · simp only [Bool.and_eq_true, decide_eq_true_eq] at h
    rw [h.1.2.1]
    refine ⟨by decide, by decide, ?_⟩
    have hb := h.2.2
    unfold boxOK at hb
    split at hb
    · rename_i hi; rw [hi]; simp
    · cases hb
theorem rightA_cells {d : Nat} {a : Arr} (h : rightA d a = true) : countS a.shape = ((a.cells.length : Int), 0) ∧ ∀ c ∈ a.cells, rightC d c = true := by
  rw [rightA_eq] at h
  simp only [Bool.and_eq_true, decide_eq_true_eq, List.all_eq_true] at h
  exact h
theorem rightA_of {d : Nat} {a : Arr} (h1 : countS a.shape = ((a.cells.length : Int), 0)) (h2 : ∀ c ∈ a.cells, rightC d c = true) : rightA d a = true := by
  rw [rightA_eq]
  simp only [Bool.and_eq_true, decide_eq_true_eq, List.all_eq_true]
  exact ⟨h1, h2⟩
theorem rightA_len {d : Nat} {a : Arr} (h : rightA d a = true) : a.cells.length ≤ 2048 ∧ a.shape.length ≤ 6 ∧ ∀ x ∈ a.shape, 0 ≤ x ∧ x ≤ 2048 := by
  have h1 := (rightA_cells h).1
  have h2 := countS_le a.shape
  have h3 := countS_len (l := a.shape) (by rw [h1])
  rw [h1] at h2
  exact ⟨by simp only at h2; omega, h3⟩
theorem rightA_top {d : Nat} {a : Arr} (h : rightA d a = true) : ∀ c ∈ a.cells, c.n.top.length ≤ 32 := fun c hc => (rightC_len ((rightA_cells h).2 c hc)).1
theorem rightC_int {z : Int} (d : Nat) (h : inR z) : rightC d (intC z) = true := by
  have : ∀ k r, cellR k r (intC z) = true := by
    intro k r
    unfold cellR
    rw [if_pos (show (intC z).kind = 0 from rfl)]
    have := rightN_ofZ h
    simp only [intC, this]; rfl
  cases d <;> exact this _ _
theorem fitsC_int {z : Int} (h : inR z) : FitsC (intC z) := by
  have := lb_inR h
  refine ⟨?_, ?_, ?_, ?_⟩
  · simp only [intC, ofZ]; omega
  · simp [intC, ofZ]
  · simp [intC]
  · simp [intC]
theorem inR_small {z : Int} (h1 : -100000 ≤ z) (h2 : z ≤ 100000) : inR z := by unfold inR; omega
theorem fits_vec {l : List Int} {s : Lab} (hl : l.length ≤ 100000) (h : ∀ x ∈ l, inR x) : Fits (.mk s [(l.length : Int)] (l.map intC)) := by
  refine Fits.of (by simp) (by simp; omega) ?_ ?_
  · intro x hx; simp only [List.mem_singleton] at hx; subst hx; exact inR_small (by omega) (by omega)
  · intro c hc
    obtain ⟨z, hz, rfl⟩ := List.mem_map.1 hc
    exact fitsC_int (h z hz)
theorem fits_none : Fits .none := Fits.of (by simp) (by simp) (by simp) (by simp)
end Go.Proofs.YtbgcadcpeabpgaaGreat
set_option maxRecDepth 100000
namespace Go.Proofs.YtbgcadcpeabpgaaGreat

/-- No list is long, and there are not more than so many arrays within one another. -/
def Sml : Nat → Arr → Prop
  | 0, _ => False
  | d + 1, a => a.shape.length ≤ 1048576 ∧ a.cells.length ≤ 1048576 ∧ (∀ x ∈ a.shape, inR x) ∧ ∀ c ∈ a.cells, c.n.top.length ≤ 1048576 ∧ c.n.bot.length ≤ 1048576 ∧ c.inn.length ≤ 1048576 ∧ ∀ x ∈ c.inn, Sml d x
def SmlC (d : Nat) (c : Cell) : Prop := c.n.top.length ≤ 1048576 ∧ c.n.bot.length ≤ 1048576 ∧ c.inn.length ≤ 1048576 ∧ ∀ x ∈ c.inn, Sml d x
theorem Sml.succ {d : Nat} {a : Arr} (h : Sml d a) : ∃ e, d = e + 1 := by
  cases d with
  | zero => exact h.elim
  | succ e => exact ⟨e, rfl⟩
theorem Sml.cell {d : Nat} {a : Arr} (h : Sml (d + 1) a) : ∀ c ∈ a.cells, SmlC d c := h.2.2.2
theorem Sml.of {d : Nat} {a : Arr} (h1 : a.shape.length ≤ 1048576) (h2 : a.cells.length ≤ 1048576) (h3 : ∀ x ∈ a.shape, inR x) (h4 : ∀ c ∈ a.cells, SmlC d c) : Sml (d + 1) a := ⟨h1, h2, h3, h4⟩
theorem Sml.fits : ∀ {d : Nat} {a : Arr}, Sml d a → Fits a
  | 0, _, h => h.elim
  | d + 1, .mk s sh cs, ⟨h1, h2, h3, h4⟩ => by
    have h1' : sh.length ≤ 1048576 := h1
    have h2' : cs.length ≤ 1048576 := h2
    refine Fits.of (by omega) (by omega) h3 (fun c hc => ?_)
    obtain ⟨g1, g2, g3, g4⟩ := h4 c hc
    exact ⟨by omega, by omega, by omega, fun x hx => (g4 x hx).fits⟩
theorem SmlC.fits {d : Nat} {c : Cell} (h : SmlC d c) : FitsC c := ⟨by have := h.1; omega, by have := h.2.1; omega, by have := h.2.2.1; omega, fun x hx => (h.2.2.2 x hx).fits⟩
theorem Sml.mono : ∀ {d e : Nat} {a : Arr}, Sml d a → d ≤ e → Sml e a
  | 0, _, _, h, _ => h.elim
  | d + 1, 0, _, _, hle => by omega
  | d + 1, e + 1, a, ⟨h1, h2, h3, h4⟩, hle => ⟨h1, h2, h3, fun c hc => ⟨(h4 c hc).1, (h4 c hc).2.1, (h4 c hc).2.2.1, fun x hx => ((h4 c hc).2.2.2 x hx).mono (by omega)⟩⟩
theorem SmlC.mono {d e : Nat} {c : Cell} (h : SmlC d c) (hle : d ≤ e) : SmlC e c := ⟨h.1, h.2.1, h.2.2.1, fun x hx => (h.2.2.2 x hx).mono hle⟩

/-- What is in a right cell. -/
theorem rightC_inn {d : Nat} {c : Cell} (h : rightC d c = true) : ∀ x ∈ c.inn, ∃ e, d = e + 1 ∧ simpleA x = false ∧ rightA e x = true ∧ c.inn = [x] ∧ c.kind = 2 := by
  have key : ∀ k r, cellR k r c = true → ∀ x ∈ c.inn, k = true ∧ simpleA x = false ∧ r x = true ∧ c.inn = [x] ∧ c.kind = 2 := by
    intro k r h x hx
    unfold cellR at h
    split at h
    · simp only [Bool.and_eq_true, decide_eq_true_eq] at h
      rw [List.length_eq_zero_iff.1 h.1.2] at hx; cases hx
    split at h
    · simp only [Bool.and_eq_true, decide_eq_true_eq] at h
      rw [List.length_eq_zero_iff.1 h.1.2] at hx; cases hx
    · simp only [Bool.and_eq_true, decide_eq_true_eq] at h
      obtain ⟨h1, h2, h3⟩ := h
      unfold boxOK at h3
      split at h3
      · rename_i y hy
        rw [hy] at hx ⊢
        have : x = y := by simpa using hx
        subst this
        simp only [Bool.and_eq_true, Bool.not_eq_true'] at h3
        exact ⟨h2, h3.1, h3.2, rfl, h1.1⟩
      · cases h3
  cases d with
  | zero => intro x hx; exact absurd (key _ _ h x hx).1 (by simp)
  | succ e => intro x hx; exact ⟨e, rfl, (key _ _ h x hx).2⟩
theorem rightA_sml : ∀ {d : Nat} {a : Arr}, rightA d a = true → Sml (d + 1) a
  | 0, a, h => by
    have hl := rightA_len h
    refine ⟨by omega, by omega, fun x hx => inR_small (by have := hl.2.2 x hx; omega) (by have := hl.2.2 x hx; omega), fun c hc => ?_⟩
    have hc' := (rightA_cells h).2 c hc
    have := rightC_len hc'
    exact ⟨by omega, by omega, by omega, fun x hx => by obtain ⟨e, he, _⟩ := rightC_inn hc' x hx; omega⟩
  | d + 1, a, h => by
    have hl := rightA_len h
    refine ⟨by omega, by omega, fun x hx => inR_small (by have := hl.2.2 x hx; omega) (by have := hl.2.2 x hx; omega), fun c hc => ?_⟩
    have hc' := (rightA_cells h).2 c hc
    have := rightC_len hc'
    refine ⟨by omega, by omega, by omega, fun x hx => ?_⟩
    obtain ⟨e, he, _, hr, _⟩ := rightC_inn hc' x hx
    have : e = d := by omega
    subst this
    exact rightA_sml hr
theorem rightC_sml {d : Nat} {c : Cell} (h : rightC d c = true) : SmlC d c := by
  have := rightC_len h
  refine ⟨by omega, by omega, by omega, fun x hx => ?_⟩
  obtain ⟨e, rfl, _, hr, _⟩ := rightC_inn h x hx
  exact rightA_sml hr

theorem clone_tw (es : List D) (h : es.length ≤ 1048576) : Tw (.amb es.isEmpty (.ret [D.sl []]) (.br (decide (([] : List D).length + es.length ≤ bigN)) (.ret [D.sl ([] ++ es)]) .fail)) [D.sl es] := by
  refine wp_amb (fun h => wp_ret ?_) (wp_dec ?_ (wp_ret ?_))
  · rw [List.isEmpty_iff.1 h]
  · simp only [List.length_nil, bigN]; omega
  · rw [List.nil_append]
theorem clone_U_sp (l : List Limb) (h : l.length ≤ 1048576) : Sp 135 [dL l] [dL l] := sound_ 0 (slices_Clone_uint32_uint32_tree _ _) (by simp only [els_dL]; exact clone_tw _ (by simpa using h))
theorem clone_I_sp (l : List Int) (h : l.length ≤ 1048576) : Sp 82 [dI l] [dI l] := sound_ 0 (slices_Clone_int_int_tree _ _) (by simp only [els_dI]; exact clone_tw _ (by simpa using h))
theorem clone_A_sp (l : List Arr) (h : l.length ≤ 1048576) : Sp 136 [.sl (l.map dA)] [.sl (l.map dA)] := sound_ 0 (slices_Clone_api_Array_api_Array_tree _ _) (by simp only [els_sl]; exact clone_tw _ (by simpa using h))
theorem array_own_sp {d : Nat} (c : Cell) (h : SmlC d c) : Sp 103 [dC c] [dC c] := by
  refine sound_ 0 (array_own_tree _ _) ?_
  simp only [dA_0, dA_1, dA_2, dC_0, dC_1, dC_2, dC_3, dC_4, dN_0, dN_1, dN_2, els_sl, els_dI, els_dL, List.length_map, Int.toNat_natCast, toInt_int, toInt_dB, toBool_bool, getD_c0, getD_c1, int_beq, int_bne, not_dec, dInt_dB, Int.toNat_zero]
  refine wp_call (clone_U_sp _ h.1) (wp_call (clone_U_sp _ h.2.1) (wp_call (clone_A_sp _ h.2.2.1) (wp_ret ?_)))
  simp only [getD_c0, els_dL, els_sl, dsl_dL]
  rw [dC_eq]; rfl
def oneA (c : Cell) : Arr := .mk 0 [] [c]
def vectA (l : List Cell) : Arr := .mk 0 [(l.length : Int)] l
def raiseA (a : Arr) (l : Lab) : Arr := .mk (a.s ||| l) a.shape a.cells
theorem set_next {α : Type} {f : α → D} {z : D} (pre : List α) (x : α) (k : Nat) : ((pre.map f) ++ List.replicate (k + 1) z).set pre.length (f x) = ((pre ++ [x]).map f) ++ List.replicate k z := by
  rw [List.set_append_right _ _ (by simp), List.length_map, Nat.sub_self, List.replicate_succ, List.set_cons_zero]
  simp
theorem dA_none : D.agg [D.int 0, D.sl [], D.sl []] = dA .none := by rw [dA_eq]; rfl
theorem dC_none' : D.agg [D.int 0, D.int 0, D.agg [D.bool false, D.sl [], D.sl []], D.int 0, D.sl []] = dC Cell.none := by rw [dC_eq]; rfl
theorem array_Vector_sp {d : Nat} (l : List Cell) (h : ∀ c ∈ l, SmlC d c) (hl : l.length ≤ 1048576) : Sp 66 [.sl (l.map dC)] [dA (vectA l)] := by
  refine sound_ (l.length + 1) (array_Vector_tree _ _) ?_
  simp only [dA_0, dA_1, dA_2, dC_0, dC_1, dC_2, dC_3, dC_4, dN_0, dN_1, dN_2, els_sl, els_dI, els_dL, List.length_map, Int.toNat_natCast, toInt_int, toInt_dB, toBool_bool, getD_c0, getD_c1, int_beq, int_bne, not_dec, dInt_dB, Int.toNat_zero, dC_none']
  refine wp_dec (by omega) (wp_dec (by omega) (wp_dec (by simp only [bigN]; omega) ?_))
  have key := loop_list (P := Tryz.prog) (md := md) l (fun m k (cs : List D) => array_Vector_l3 (l.length + 1) m (.sl (l.map dC)) cs (.sl (l.map dC)) (l.length : Int) (k : Int) 0) (fun _ _ => [dA (vectA l)])
    (fun rest cs => ∃ pre, l = pre ++ rest ∧ cs = pre.map dC ++ List.replicate rest.length (dC Cell.none))
    (fun m k cs hk hI => by
      obtain ⟨pre, h1, rfl⟩ := hI
      simp only [array_Vector_l3_succ, dA_0, dA_1, dA_2, dC_0, dC_1, dC_2, dC_3, dC_4, dN_0, dN_1, dN_2, els_sl, els_dI, els_dL, List.length_map, Int.toNat_natCast, toInt_int, toInt_dB, toBool_bool, getD_c0, getD_c1, int_beq, int_bne, not_dec, dInt_dB, Int.toNat_zero]
      refine wp_ndec (by omega) (wp_ret ?_)
      rw [List.append_nil] at h1
      rw [dA_eq, vectA]; subst h1; simp [dI]; rfl)
    (fun m k cs c rest hdr hI ih => by
      obtain ⟨h1, h2, h3⟩ := drop_cons hdr
      obtain ⟨pre, hp, rfl⟩ := hI
      have hk : k = pre.length := by
        have := congrArg List.length hdr
        rw [hp] at this h1
        simp at this h1; omega
      simp only [array_Vector_l3_succ, dA_0, dA_1, dA_2, dC_0, dC_1, dC_2, dC_3, dC_4, dN_0, dN_1, dN_2, els_sl, els_dI, els_dL, List.length_map, Int.toNat_natCast, toInt_int, toInt_dB, toBool_bool, getD_c0, getD_c1, int_beq, int_bne, not_dec, dInt_dB, Int.toNat_zero, getD_map h2, wrap_succ (show k < 9223372036854775807 by omega)]
      repeat (refine wp_dec (by omega) ?_)
      refine wp_call (array_own_sp c (h c (List.mem_of_getElem? h2))) ?_
      have hlen : (pre.map dC ++ List.replicate (rest.length + 1) (dC Cell.none)).length = l.length := by rw [hp]; simp
      rw [List.length_cons, hlen]
      refine wp_dec (by omega) (wp_dec (by omega) ?_)
      rw [getD_c0, hk, set_next, ← hk]
      exact ih _ ⟨pre ++ [c], by rw [hp]; simp, rfl⟩)
    (l.length + 1) 0 (List.replicate l.length (dC Cell.none)) (by omega) (by omega) ⟨[], by simp, by simp⟩
  exact key
theorem array_Raise_sp (a : Arr) (l : Lab) : Sp 65 [dA a, dB l] [dA (raiseA a l)] := by
  refine sound_ 0 (array_Raise_tree _ _ _) ?_
  simp only [dA_0, dA_1, dA_2, dC_0, dC_1, dC_2, dC_3, dC_4, dN_0, dN_1, dN_2, els_sl, els_dI, els_dL, List.length_map, Int.toNat_natCast, toInt_int, toInt_dB, toBool_bool, getD_c0, getD_c1, int_beq, int_bne, not_dec, dInt_dB, Int.toNat_zero]
  refine wp_call (label_Join_sp a.s l) (wp_ret ?_)
  rw [dA_eq]; rfl
/-- A cell as an array. -/
def unpC (c : Cell) : Arr := match c.inn with
  | [x] => if c.kind = 2 then raiseA x c.l else .mk c.l [] [c]
  | _ => .mk c.l [] [c]
theorem raise_one (c : Cell) : raiseA (oneA c) c.l = .mk c.l [] [c] := by simp [raiseA, oneA]
theorem unpC_neg {c : Cell} (h : ¬ (c.kind = 2 ∧ c.inn.length = 1)) : unpC c = .mk c.l [] [c] := by
  unfold unpC
  split
  · rename_i x hx
    rw [if_neg (fun hk => h ⟨hk, by rw [hx]; rfl⟩)]
  · rfl
theorem unpC_pos {c : Cell} {x : Arr} (h : c.kind = 2) (hx : c.inn = [x]) : unpC c = raiseA x c.l := by unfold unpC; rw [hx]; simp [h]
theorem len_one {α : Type} {l : List α} (h : l.length = 1) : ∃ x, l = [x] := by
  match l, h with
  | [x], _ => exact ⟨x, rfl⟩
/-- An array as a cell. -/
def packC (a : Arr) : Cell := match a.shape, a.cells with
  | [], [c] => ⟨c.l ||| a.s, c.kind, c.n, c.c, c.inn⟩
  | _, _ => ⟨a.s, 2, .zero, 0, [a]⟩
theorem packC_pos {a : Arr} {c : Cell} (h : a.shape = []) (hc : a.cells = [c]) : packC a = ⟨c.l ||| a.s, c.kind, c.n, c.c, c.inn⟩ := by unfold packC; rw [h, hc]
theorem packC_neg {a : Arr} (h : ¬ (a.shape.length = 0 ∧ a.cells.length = 1)) : packC a = ⟨a.s, 2, .zero, 0, [a]⟩ := by
  unfold packC
  match hs : a.shape, hc : a.cells with
  | [], [c] => rw [hs, hc] at h; simp at h
  | x :: xs, _ => rfl
  | [], [] => rfl
  | [], x :: y :: xs => rfl
theorem dC_box (l : Lab) (a : Arr) : D.agg [dB l, D.int 2, D.agg [D.bool false, D.sl [], D.sl []], D.int 0, D.sl [dA a]] = dC ⟨l, 2, .zero, 0, [a]⟩ := by rw [dC_eq]; rfl
mutual
def relA (g : Lab → Lab) : Arr → Arr
  | .mk s sh cs => .mk (g s) sh (relCs g cs)
def relCs (g : Lab → Lab) : List (CellF Arr) → List (CellF Arr)
  | [] => []
  | c :: cs => relC g c :: relCs g cs
def relC (g : Lab → Lab) : CellF Arr → CellF Arr
  | ⟨l, k, n, c, inn⟩ => ⟨g l, k, n, c, relAs g inn⟩
def relAs (g : Lab → Lab) : List Arr → List Arr
  | [] => []
  | a :: as_ => relA g a :: relAs g as_
end
theorem relCs_map (g : Lab → Lab) : ∀ cs, relCs g cs = cs.map (relC g)
  | [] => by simp [relCs]
  | c :: cs => by simp [relCs, relCs_map g cs]
theorem relAs_map (g : Lab → Lab) : ∀ as_, relAs g as_ = as_.map (relA g)
  | [] => by simp [relAs]
  | a :: as_ => by simp [relAs, relAs_map g as_]
theorem relA_eq (g : Lab → Lab) (a : Arr) : relA g a = .mk (g a.s) a.shape (a.cells.map (relC g)) := by cases a; simp [relA, relCs_map]
theorem relC_eq (g : Lab → Lab) (c : Cell) : relC g c = ⟨g c.l, c.kind, c.n, c.c, c.inn.map (relA g)⟩ := by cases c; simp [relC, relAs_map]
theorem relC_id_of (g : Lab → Lab) (hg : ∀ l, g l = l) (c : Cell) (h : ∀ x ∈ c.inn, relA g x = x) : relC g c = c := by
  rw [relC_eq, hg]
  have : c.inn.map (relA g) = c.inn := by conv => rhs; rw [← List.map_id c.inn]
                                          exact List.map_congr_left h
  rw [this]
theorem relA_id (g : Lab → Lab) (hg : ∀ l, g l = l) (a : Arr) : relA g a = a := by
  induction a using Arr.ind with
  | h s sh cs IH =>
    rw [relA_eq, hg]
    have : cs.map (relC g) = cs := by
      conv => rhs; rw [← List.map_id cs]
      exact List.map_congr_left (fun c hc => relC_id_of g hg c (IH c hc))
    show Arr.mk s sh (cs.map (relC g)) = _
    rw [this]
theorem relA_sml {g : Lab → Lab} : ∀ {d : Nat} {a : Arr}, Sml d a → Sml d (relA g a)
  | 0, _, h => h.elim
  | d + 1, a, ⟨h1, h2, h3, h4⟩ => by
    rw [relA_eq]
    refine ⟨h1, by simpa using h2, h3, fun c hc => ?_⟩
    obtain ⟨c', hc', rfl⟩ := List.mem_map.1 hc
    obtain ⟨g1, g2, g3, g4⟩ := h4 c' hc'
    rw [relC_eq]
    refine ⟨g1, g2, by simpa using g3, fun x hx => ?_⟩
    obtain ⟨y, hy, rfl⟩ := List.mem_map.1 hx
    exact relA_sml (g4 y hy)
theorem relC_sml {g : Lab → Lab} {d : Nat} {c : Cell} (h : SmlC d c) : SmlC d (relC g c) := by
  rw [relC_eq]
  refine ⟨h.1, h.2.1, by simpa using h.2.2.1, fun x hx => ?_⟩
  obtain ⟨y, hy, rfl⟩ := List.mem_map.1 hx
  exact relA_sml (h.2.2.2 y hy)
def cvr (l : Lab) (er : Bool) (x : Lab) : Lab := if er then l else x ||| l
def eraA (a : Arr) : Arr := relA (fun _ => 0) a
noncomputable def matA (a b : Arr) : Bool := eqA (eraA a) (eraA b)
end Go.Proofs.YtbgcadcpeabpgaaGreat
set_option maxRecDepth 100000
namespace Go.Proofs.YtbgcadcpeabpgaaGreat

/-- A loop that asks whether two lists are the same, as they are seen. -/
theorem same_loopF {α β : Type} {P : Program} {md : Nat → FMode} (φ : α → β) (a b : List α) (e : α → α → Bool) (he : ∀ x ∈ a, ∀ y, e x y = true ↔ φ x = φ y) (hlen : a.length = b.length) (r : Bool) (hr : r = true ↔ a.map φ = b.map φ) (L : Nat → Nat → Tree)
    (hend : ∀ m, ∀ Q : List D → Prop, Q [.bool true] → (L (m + 1) a.length).wp P md Q)
    (hstep : ∀ m k x y, ∀ Q : List D → Prop, a[k]? = some x → b[k]? = some y → (e x y = false → Q [.bool false]) → (e x y = true → (L m (k + 1)).wp P md Q) → (L (m + 1) k).wp P md Q) (N : Nat) (hN : a.length < N) : (L N 0).wp P md (fun zs => zs = [.bool r]) := by
  have key := loop_up (P := P) (md := md) a.length (fun m k (_ : Unit) => L m k) (fun _ _ => [.bool r]) (fun k _ => (a.take k).map φ = (b.take k).map φ)
    (fun m s h => by
      refine hend m _ ?_
      rw [List.take_of_length_le (Nat.le_refl _), List.take_of_length_le (by omega)] at h
      rw [hr.2 h])
    (fun m k s hk h ih => by
      have ha : a[k]? = some a[k] := List.getElem?_eq_getElem _
      have hb : b[k]? = some (b[k]'(by omega)) := List.getElem?_eq_getElem _
      refine hstep m k _ _ _ ha hb (fun hf => ?_) (fun ht => ih () ?_)
      · have : r = false := by
          cases hrr : r with
          | false => rfl
          | true =>
            have h2 := hr.1 hrr
            have h3 : (a.map φ)[k]? = (b.map φ)[k]? := by rw [h2]
            rw [List.getElem?_map, List.getElem?_map, ha, hb] at h3
            have h4 : φ a[k] = φ b[k] := by simpa using h3
            rw [(he a[k] (List.getElem_mem _) _).2 h4] at hf; cases hf
        rw [this]
      · have : φ a[k] = φ b[k] := (he a[k] (List.getElem_mem _) _).1 ht
        rw [List.take_succ_eq_append_getElem hk, List.take_succ_eq_append_getElem (by omega), List.map_append, List.map_append, h]
        simp [this])
    N 0 () (by omega) (by omega) (by simp)
  exact key
/-- As an array is seen: with labels, or without. -/
def gl (lb : Bool) (l : Lab) : Lab := if lb then l else 0
noncomputable def eqL (lb : Bool) (a b : Arr) : Bool := eqA (relA (gl lb) a) (relA (gl lb) b)
noncomputable def eqLC (lb : Bool) (a b : Cell) : Bool := eqC (relC (gl lb) a) (relC (gl lb) b)
theorem eqL_true (a b : Arr) : eqL true a b = eqA a b := by unfold eqL; rw [relA_id (gl true) (fun _ => rfl) a, relA_id (gl true) (fun _ => rfl) b]
noncomputable def pd (p : Prop) : Bool := @decide p (Classical.propDecidable _)
theorem pd_iff {p : Prop} : pd p = true ↔ p := @decide_eq_true_iff _ (Classical.propDecidable _)
theorem pd_not {p : Prop} (h : ¬ p) : pd p = false := @decide_eq_false _ (Classical.propDecidable _) h
theorem ite_max {o x : Nat} {z : Int} (h : z = (x : Int)) : (if (o : Int) < z then z else (o : Int)) = ((max o x : Nat) : Int) := by subst h; split <;> omega
theorem eqL_false (a b : Arr) : eqL false a b = matA a b := rfl
theorem eqL_iff {lb : Bool} {a b : Arr} : eqL lb a b = true ↔ relA (gl lb) a = relA (gl lb) b := eqA_iff
theorem eqLC_iff {lb : Bool} {a b : Cell} : eqLC lb a b = true ↔ relC (gl lb) a = relC (gl lb) b := eqC_iff
theorem eqLC_iff' {lb : Bool} {a b : Cell} : eqLC lb a b = true ↔ (gl lb a.l = gl lb b.l ∧ a.kind = b.kind ∧ a.c = b.c ∧ a.n = b.n ∧ a.inn.map (relA (gl lb)) = b.inn.map (relA (gl lb))) := by rw [eqLC_iff, relC_eq, relC_eq, cell_eq]
theorem eqL_iff' {lb : Bool} {a b : Arr} : eqL lb a b = true ↔ (gl lb a.s = gl lb b.s ∧ a.shape = b.shape ∧ a.cells.map (relC (gl lb)) = b.cells.map (relC (gl lb))) := by rw [eqL_iff, relA_eq, relA_eq, arr_eq]; simp
theorem bool_false {b : Bool} (h : ¬ b = true) : b = false := by cases b with | false => rfl | true => exact absurd rfl h
theorem array_equal_all (lb : Bool) : ∀ (d : Nat) (a b : Arr), Sml d a → Sp 67 [dA a, dA b, .bool lb] [.bool (eqL lb a b)]
  | 0, _, _, h => h.elim
  | d + 1, a, b, h => by
    have hcell : ∀ (x y : Cell), SmlC d x → Spec Tryz.prog md 106 [.ref 4] [dC x, dC y, D.ref (.bool lb)] [.bool (eqLC lb x y)] := fun x y hx => by
      have hlx := hx.2.2.1
      have hinn : Sp 108 [.sl (x.inn.map dA), .sl (y.inn.map dA), D.fn 109 [.ref 4] [D.ref (.bool lb)]] [.bool (pd (x.inn.map (relA (gl lb)) = y.inn.map (relA (gl lb))))] := by
        refine sound_ (x.inn.length + 1) (slices_EqualFunc_api_Array_api_Array_api_Array_api_Array_tree_array_equal_1_1 _ _ _ _) ?_
        simp only [dA_0, dA_1, dA_2, dC_0, dC_1, dC_2, dC_3, dC_4, dN_0, dN_1, dN_2, els_sl, els_dI, els_dL, List.length_map, Int.toNat_natCast, toInt_int, toInt_dB, toBool_bool, getD_c0, getD_c1, int_beq, int_bne, not_dec, dInt_dB, Int.toNat_zero]
        refine wp_decs (fun h => wp_ret ?_) (fun h => ?_)
        · rw [pd_not]
          intro hh; have := congrArg List.length hh; simp at this; omega
        · refine same_loopF (P := Tryz.prog) (md := md) (relA (gl lb)) x.inn y.inn (eqL lb) (fun p _ q => eqL_iff) (by omega) _ pd_iff (fun m k => slices_EqualFunc_api_Array_api_Array_api_Array_api_Array_l4 (x.inn.length + 1) m (.sl (y.inn.map dA)) (D.fn 109 [.ref 4] [D.ref (.bool lb)]) (.sl (x.inn.map dA)) (x.inn.length : Int) (k : Int)) ?_ ?_ (x.inn.length + 1) (by omega)
          · intro m Q hQ
            simp only [slices_EqualFunc_api_Array_api_Array_api_Array_api_Array_l4_succ_array_equal_1_1, dA_0, dA_1, dA_2, dC_0, dC_1, dC_2, dC_3, dC_4, dN_0, dN_1, dN_2, els_sl, els_dI, els_dL, List.length_map, Int.toNat_natCast, toInt_int, toInt_dB, toBool_bool, getD_c0, getD_c1, int_beq, int_bne, not_dec, dInt_dB, Int.toNat_zero]
            exact wp_ndec (by omega) (wp_ret hQ)
          · intro m k p q Q hp hq hF hT
            have hk : k < x.inn.length := (List.getElem?_eq_some_iff.1 hp).1
            have hk' : k < y.inn.length := (List.getElem?_eq_some_iff.1 hq).1
            simp only [slices_EqualFunc_api_Array_api_Array_api_Array_api_Array_l4_succ_array_equal_1_1, dA_0, dA_1, dA_2, dC_0, dC_1, dC_2, dC_3, dC_4, dN_0, dN_1, dN_2, els_sl, els_dI, els_dL, List.length_map, Int.toNat_natCast, toInt_int, toInt_dB, toBool_bool, getD_c0, getD_c1, int_beq, int_bne, not_dec, dInt_dB, Int.toNat_zero, getD_map hp, getD_map hq, wrap_succ (show k < 9223372036854775807 by omega), fnId_fn, fnCts_fn, fnDs_fn, List.cons_append, List.nil_append]
            repeat (refine wp_dec (by omega) ?_)
            refine wp_call (ys := [.bool (eqL lb p q)]) (sound_ 0 (array_equal_1_1_tree _ _ _ _) (wp_call (array_equal_all lb d p q (hx.2.2.2 p (List.mem_of_getElem? hp))) (wp_ret rfl))) ?_
            simp only [getD_c0, toBool_bool]
            exact wp_br (fun h => wp_ret (hF (by simpa using h))) (fun h => hT (by simpa using h))
      have fin : ∀ (hl : gl lb x.l = gl lb y.l), Tw (.br (decide (¬ x.kind = y.kind)) (.ret [D.bool false]) (.br (decide (¬ x.c = y.c)) (.ret [D.bool false]) (.call 107 [] [dN x.n, dN y.n] fun yy1 => .br (!((yy1.getD 0 D.nil).toBool)) (.ret [D.bool false]) (.call 108 [] [.sl (x.inn.map dA), .sl (y.inn.map dA), D.fn 109 [.ref 4] [D.ref (.bool lb)]] fun yy2 => .ret [D.bool ((yy2.getD 0 D.nil).toBool)])))) [.bool (eqLC lb x y)] := fun hl => by
        refine wp_decs (fun h => wp_ret ?_) (fun h2 => wp_decs (fun h => wp_ret ?_) (fun h3 => wp_call (ratio_Same_sp x.n y.n hx.fits.1 hx.fits.2.1) ?_))
        · rw [bool_false (fun hh => h (eqLC_iff'.1 hh).2.1)]
        · rw [bool_false (fun hh => h (eqLC_iff'.1 hh).2.2.1)]
        simp only [getD_c0, toBool_bool, not_dec]
        refine wp_decs (fun h => wp_ret ?_) (fun h4 => wp_call hinn (wp_ret ?_))
        · rw [bool_false (fun hh => h (eqLC_iff'.1 hh).2.2.2.1)]
        · simp only [getD_c0, toBool_bool]
          congr 2
          rw [Bool.eq_iff_iff, eqLC_iff', pd_iff]
          exact ⟨fun hh => ⟨hl, Classical.not_not.1 h2, Classical.not_not.1 h3, Classical.not_not.1 h4, hh⟩, fun hh => hh.2.2.2.2⟩
      refine sound_ 0 (array_equal_1_tree _ _ _ _) ?_
      simp only [dA_0, dA_1, dA_2, dC_0, dC_1, dC_2, dC_3, dC_4, dN_0, dN_1, dN_2, els_sl, els_dI, els_dL, List.length_map, Int.toNat_natCast, toInt_int, toInt_dB, toBool_bool, getD_c0, getD_c1, int_beq, int_bne, not_dec, dInt_dB, Int.toNat_zero, unref_ref]
      refine wp_br (fun hb => wp_decs (fun h => wp_ret ?_) (fun h1 => fin ?_)) (fun hb => fin ?_)
      · have hf : eqLC lb x y = false := bool_false (fun hh => h (by
          have := (eqLC_iff'.1 hh).1
          simp only [gl, hb, if_true] at this
          rw [this]))
        rw [hf]
      · simp only [gl, hb, if_true]; exact BitVec.eq_of_toNat_eq (by omega)
      · simp [gl, hb]
    have hcells : Sp 105 [.sl (a.cells.map dC), .sl (b.cells.map dC), D.fn 106 [.ref 4] [D.ref (.bool lb)]] [.bool (pd (a.cells.map (relC (gl lb)) = b.cells.map (relC (gl lb))))] := by
      have hla := h.2.1
      refine sound_ (a.cells.length + 1) (slices_EqualFunc_api_Cell_api_Cell_api_Cell_api_Cell_tree_array_equal_1 _ _ _ _) ?_
      simp only [dA_0, dA_1, dA_2, dC_0, dC_1, dC_2, dC_3, dC_4, dN_0, dN_1, dN_2, els_sl, els_dI, els_dL, List.length_map, Int.toNat_natCast, toInt_int, toInt_dB, toBool_bool, getD_c0, getD_c1, int_beq, int_bne, not_dec, dInt_dB, Int.toNat_zero]
      refine wp_decs (fun h => wp_ret ?_) (fun h' => ?_)
      · rw [pd_not]
        intro hh; have := congrArg List.length hh; simp at this; omega
      · refine same_loopF (P := Tryz.prog) (md := md) (relC (gl lb)) a.cells b.cells (eqLC lb) (fun p _ q => eqLC_iff) (by omega) _ pd_iff (fun m k => slices_EqualFunc_api_Cell_api_Cell_api_Cell_api_Cell_l4 (a.cells.length + 1) m (.sl (b.cells.map dC)) (D.fn 106 [.ref 4] [D.ref (.bool lb)]) (.sl (a.cells.map dC)) (a.cells.length : Int) (k : Int)) ?_ ?_ (a.cells.length + 1) (by omega)
        · intro m Q hQ
          simp only [slices_EqualFunc_api_Cell_api_Cell_api_Cell_api_Cell_l4_succ_array_equal_1, dA_0, dA_1, dA_2, dC_0, dC_1, dC_2, dC_3, dC_4, dN_0, dN_1, dN_2, els_sl, els_dI, els_dL, List.length_map, Int.toNat_natCast, toInt_int, toInt_dB, toBool_bool, getD_c0, getD_c1, int_beq, int_bne, not_dec, dInt_dB, Int.toNat_zero]
          exact wp_ndec (by omega) (wp_ret hQ)
        · intro m k p q Q hp hq hF hT
          have hk : k < a.cells.length := (List.getElem?_eq_some_iff.1 hp).1
          have hk' : k < b.cells.length := (List.getElem?_eq_some_iff.1 hq).1
          simp only [slices_EqualFunc_api_Cell_api_Cell_api_Cell_api_Cell_l4_succ_array_equal_1, dA_0, dA_1, dA_2, dC_0, dC_1, dC_2, dC_3, dC_4, dN_0, dN_1, dN_2, els_sl, els_dI, els_dL, List.length_map, Int.toNat_natCast, toInt_int, toInt_dB, toBool_bool, getD_c0, getD_c1, int_beq, int_bne, not_dec, dInt_dB, Int.toNat_zero, getD_map hp, getD_map hq, wrap_succ (show k < 9223372036854775807 by omega), fnId_fn, fnCts_fn, fnDs_fn, List.cons_append, List.nil_append]
          repeat (refine wp_dec (by omega) ?_)
          refine wp_call (hcell p q (h.cell p (List.mem_of_getElem? hp))) ?_
          simp only [getD_c0, toBool_bool]
          exact wp_br (fun h => wp_ret (hF (by simpa using h))) (fun h => hT (by simpa using h))
    have fin : ∀ (hl : gl lb a.s = gl lb b.s), Tw (.call 104 [] [dI a.shape, dI b.shape] fun yy1 => .br (!((yy1.getD 0 D.nil).toBool)) (.ret [D.bool false]) (.call 105 [] [.sl (a.cells.map dC), .sl (b.cells.map dC), D.fn 106 [.ref 4] [D.ref (.bool lb)]] fun yy2 => .ret [D.bool ((yy2.getD 0 D.nil).toBool)])) [.bool (eqL lb a b)] := fun hl => by
      refine wp_call (slices_EqualI_sp a.shape b.shape (by have := h.1; omega)) ?_
      simp only [getD_c0, toBool_bool, not_dec]
      refine wp_decs (fun h => wp_ret ?_) (fun h1 => wp_call hcells (wp_ret ?_))
      · rw [bool_false (fun hh => h (eqL_iff'.1 hh).2.1)]
      · simp only [getD_c0, toBool_bool]
        congr 2
        rw [Bool.eq_iff_iff, eqL_iff', pd_iff]
        exact ⟨fun hh => ⟨hl, Classical.not_not.1 h1, hh⟩, fun hh => hh.2.2⟩
    refine sound_ 0 (array_equal_tree _ _ _ _) ?_
    simp only [dA_0, dA_1, dA_2, dC_0, dC_1, dC_2, dC_3, dC_4, dN_0, dN_1, dN_2, els_sl, els_dI, els_dL, List.length_map, Int.toNat_natCast, toInt_int, toInt_dB, toBool_bool, getD_c0, getD_c1, int_beq, int_bne, not_dec, dInt_dB, Int.toNat_zero]
    refine wp_br (fun hb => wp_decs (fun h => wp_ret ?_) (fun h1 => fin ?_)) (fun hb => fin ?_)
    · have hf : eqL lb a b = false := bool_false (fun hh => h (by
        have := (eqL_iff'.1 hh).1
        simp only [gl, hb, if_true] at this
        rw [this]))
      rw [hf]
    · simp only [gl, hb, if_true]; exact BitVec.eq_of_toNat_eq (by omega)
    · simp [gl, hb]
theorem array_Same_sp {d : Nat} (a b : Arr) (h : Sml d a) : Sp 30 [dA a, dA b] [.bool (eqA a b)] := sound_ 0 (array_Same_tree _ _ _) (wp_call (array_equal_all true d a b h) (wp_ret (by rw [eqL_true]; rfl)))
mutual
def depA : Arr → Nat
  | .mk s sh cs => if simpleA (.mk s sh cs) then 0 else depCs cs + 1
def depCs : List (CellF Arr) → Nat
  | [] => 0
  | c :: cs => max (depC c) (depCs cs)
def depC : CellF Arr → Nat
  | ⟨_, _, _, _, inn⟩ => depAs inn
def depAs : List Arr → Nat
  | [] => 0
  | a :: as_ => max (depA a) (depAs as_)
end
theorem depA_eq (a : Arr) : depA a = if simpleA a then 0 else depCs a.cells + 1 := by cases a; rw [depA]; rfl
theorem depC_eq (c : Cell) : depC c = depAs c.inn := by cases c; rw [depC]
theorem depCs_le {k : Nat} : ∀ {cs : List Cell}, (∀ c ∈ cs, depC c ≤ k) → depCs cs ≤ k
  | [], _ => by rw [depCs]; omega
  | c :: cs, h => by
    have h1 := h c (by simp)
    have h2 := depCs_le (fun x hx => h x (List.mem_cons_of_mem _ hx))
    rw [depCs]; omega
theorem depAs_le {k : Nat} : ∀ {as_ : List Arr}, (∀ a ∈ as_, depA a ≤ k) → depAs as_ ≤ k
  | [], _ => by rw [depAs]; omega
  | a :: as_, h => by
    have h1 := h a (by simp)
    have h2 := depAs_le (fun x hx => h x (List.mem_cons_of_mem _ hx))
    rw [depAs]; omega
theorem depC_mem : ∀ {cs : List Cell} {c : Cell}, c ∈ cs → depC c ≤ depCs cs
  | d :: cs, c, h => by
    rw [depCs]
    rcases List.mem_cons.1 h with rfl | h
    · omega
    · have := depC_mem h; omega
theorem depA_mem : ∀ {as_ : List Arr} {a : Arr}, a ∈ as_ → depA a ≤ depAs as_
  | d :: as_, a, h => by
    rw [depAs]
    rcases List.mem_cons.1 h with rfl | h
    · omega
    · have := depA_mem h; omega
theorem depA_sml : ∀ {d : Nat} {a : Arr}, Sml d a → depA a ≤ d
  | 0, _, h => h.elim
  | d + 1, a, h => by
    rw [depA_eq]
    have : depCs a.cells ≤ d := depCs_le (fun c hc => by rw [depC_eq]; exact depAs_le (fun x hx => depA_sml ((h.cell c hc).2.2.2 x hx)))
    split <;> omega
end Go.Proofs.YtbgcadcpeabpgaaGreat
set_option maxRecDepth 100000
namespace Go.Proofs.YtbgcadcpeabpgaaGreat
/-! scrim/scrimref11.Vector -/
def ref11_Vector_orc : List (Nat × Orc) := [(3, ⟨[(0, some 23), (4, none), (5, none), (6, none)], [(4, false), (5, false)], [(.fld 5 [1], 1030, 3), (.fld 5 [2], 1031, 68)]⟩)]
def ref11_Vector_ps : List Nat := [23, 22]
def ref11_Vector_rs : List ResultVar := [.cell 4 26]
def ref11_Vector_ts : List Nat := [26]
noncomputable def ref11_Vector_l3 (n m3 : Nat) (l0 : D) (i6 : Int) (t4_0 : Int) (out5_0 : Int) (out5_1 : List D) (out5_2 : List D) : Tree :=
  evLoop Tryz.prog md (ev Tryz.prog md n ref11_Vector_orc (cAt (bodyOf Tryz.prog 37) [1, 1, 0, 1, 0, 0])) (orcAt ref11_Vector_orc 3) m3 ⟨[.d 23 l0, .undef, .undef, .undef, .ptr 4 [], .ptr 5 [], .i .i64 i6, .undef, .undef, .undef, .undef, .undef, .undef, .undef, .undef, .undef, .undef, .undef, .undef, .undef, .undef, .undef, .undef, .undef, .undef, .undef, .undef, .undef, .undef], [(4, .var 26 (.agg 26 [.i .u64 t4_0, .mt, .mt]) true), (5, .var 26 (.agg 26 [.i .u64 out5_0, .row 1030, .row 1031]) true), (1030, .row 3 out5_1 true), (1031, .row 68 out5_2 true)], [4, 5, 1030, 1031], [], []⟩
   (blockK 0 (seqK (joinE Tryz.prog md (joinAt ref11_Vector_orc (cAt (bodyOf Tryz.prog 37) [1, 1, 1])) (ev Tryz.prog md n ref11_Vector_orc (cAt (bodyOf Tryz.prog 37) [1, 1, 1]))) (retK Tryz.prog md (md 37) ref11_Vector_ps ref11_Vector_rs ref11_Vector_ts)))
theorem ref11_Vector_l3_succ (n m3 : Nat) (l0 : D) (i6 : Int) (t4_0 : Int) (out5_0 : Int) (out5_1 : List D) (out5_2 : List D) : ref11_Vector_l3 n (m3 + 1) l0 i6 t4_0 out5_0 out5_1 out5_2 =
 .br (decide (i6 < (l0.els.length : Int))) (.br (decide (0 ≤ i6)) (.br (decide (i6 < (l0.els.length : Int))) (.call 78 [] [D.int ((l0.els.getD (Int.toNat i6) D.nil).toInt)] fun yy1 =>
 .br (decide (out5_2.length + [yy1.getD 0 D.nil].length ≤ bigN)) (ref11_Vector_l3 n m3 l0 (IntKind.wrap .i64 (i6 + 1)) t4_0 out5_0 out5_1 (out5_2 ++ [yy1.getD 0 D.nil])) .fail) .fail) .fail)
 (.ret [D.agg [D.int out5_0, D.sl out5_1, D.sl out5_2]]) := by kernel_rfl
theorem ref11_Vector_tree (n : Nat) (l0 : D) (s1 : D) : evFun Tryz.prog md ref11_Vector_orc n 37 [] [l0, s1] =
 ref11_Vector_l3 n n l0 0 0 s1.toInt [D.int (l0.els.length : Int)] [] := by kernel_rfl

end Go.Proofs.YtbgcadcpeabpgaaGreat
set_option maxRecDepth 100000
namespace Go.Proofs.YtbgcadcpeabpgaaGreat
/-! scrim/scrimref10.Same -/
def ref10_Same_orc : List (Nat × Orc) := []
theorem ref10_Same_tree (n : Nat) (a0 : D) (e1 : D) (b2 : D) (f3 : D) : evFun Tryz.prog md ref10_Same_orc n 14 [] [a0, e1, b2, f3] =
 .br (e1.toInt == f3.toInt) (.call 38 [] [a0, b2] fun yy1 =>
 .ret [D.bool ((yy1.getD 0 D.nil).toBool)])
 (.ret [D.bool false]) := by kernel_rfl

end Go.Proofs.YtbgcadcpeabpgaaGreat
set_option maxRecDepth 100000
namespace Go.Proofs.YtbgcadcpeabpgaaGreat

/-- Numbers along one axis. -/
def vecA (l : List Int) (s : Lab) : Arr := .mk s [(l.length : Int)] (l.map intC)
def aloneA (n : Int) (s : Lab) : Arr := .mk s [] [intC n]
theorem ref11_Vector_sp (l : List Int) (s : Lab) (hl : l.length ≤ 100000) (hr : ∀ x ∈ l, inR x) : Sp 37 [dI l, dB s] [dA (vecA l s)] := by
  refine sound_ (l.length + 1) (ref11_Vector_tree _ _ _) ?_
  simp only [dA_0, dA_1, dA_2, dC_0, dC_1, dC_2, dC_3, dC_4, dN_0, dN_1, dN_2, els_sl, els_dI, els_dL, List.length_map, Int.toNat_natCast, toInt_int, toInt_dB, toBool_bool, getD_c0, getD_c1, int_beq, int_bne, not_dec, dInt_dB, Int.toNat_zero]
  have key := loop_list (P := Tryz.prog) (md := md) l (fun m k (out : List Cell) => ref11_Vector_l3 (l.length + 1) m (dI l) (k : Int) 0 (s.toNat : Int) [D.int (l.length : Int)] (out.map dC)) (fun rest out => [dA (.mk s [(l.length : Int)] (out ++ rest.map intC))]) (fun rest out => out.length + rest.length ≤ 100000)
    (fun m k out hk _ => by
      simp only [ref11_Vector_l3_succ, dA_0, dA_1, dA_2, dC_0, dC_1, dC_2, dC_3, dC_4, dN_0, dN_1, dN_2, els_sl, els_dI, els_dL, List.length_map, Int.toNat_natCast, toInt_int, toInt_dB, toBool_bool, getD_c0, getD_c1, int_beq, int_bne, not_dec, dInt_dB, Int.toNat_zero]
      refine wp_ndec (by omega) (wp_ret ?_)
      rw [dA_eq]; simp; rfl)
    (fun m k out x rest hdr hI ih => by
      obtain ⟨h1, h2, h3⟩ := drop_cons hdr
      have hm := List.mem_of_getElem? h2
      simp only [ref11_Vector_l3_succ, dA_0, dA_1, dA_2, dC_0, dC_1, dC_2, dC_3, dC_4, dN_0, dN_1, dN_2, els_sl, els_dI, els_dL, List.length_map, Int.toNat_natCast, toInt_int, toInt_dB, toBool_bool, getD_c0, getD_c1, int_beq, int_bne, not_dec, dInt_dB, Int.toNat_zero, getD_map h2, wrap_succ (show k < 9223372036854775807 by omega)]
      repeat (refine wp_dec (by omega) ?_)
      refine wp_call (ref08_Int_sp x (hr x hm)) (wp_dec ?_ ?_)
      · simp only [List.length_cons, List.length_nil, bigN, List.length_map] at hI ⊢; omega
      · have := ih (out ++ [intC x]) (by simp only [List.length_append, List.length_cons, List.length_nil] at hI ⊢; omega)
        rw [List.map_append] at this
        refine Tree.wp_mono this (fun ys hy => hy.trans ?_)
        simp)
    (l.length + 1) 0 [] (by omega) (by omega) (by simpa using hl)
  exact key
/-- The cells of an array, from the first one on again. -/
def cyc (fr : List Cell) (k : Nat) : List Cell := (List.range k).map (fun i => fr.getD (i % fr.length) (intC 0))
def reshA (n a : Arr) : Arr × Int :=
  if (intsA n).2 = 0 then (if (countS (intsA n).1).2 = 0 then (.mk (a.s ||| totA n) (intsA n).1 (cyc a.cells (countS (intsA n).1).1.toNat), 0) else (.none, (countS (intsA n).1).2)) else (.none, (intsA n).2)
theorem cyc_succ (fr : List Cell) (k : Nat) : cyc fr (k + 1) = cyc fr k ++ [fr.getD (k % fr.length) (intC 0)] := by simp [cyc, List.range_succ]
theorem cyc_len (fr : List Cell) (k : Nat) : (cyc fr k).length = k := by simp [cyc]
theorem cyc_mem {fr : List Cell} {k : Nat} {c : Cell} (h : c ∈ cyc fr k) : c ∈ fr ∨ c = intC 0 := by
  simp only [cyc, List.mem_map] at h
  obtain ⟨i, _, rfl⟩ := h
  rw [List.getD_eq_getElem?_getD]
  cases hg : fr[i % fr.length]? with
  | none => right; rfl
  | some x => left; exact List.mem_of_getElem? hg
theorem getD_mapC {fr : List Cell} {i : Nat} (h : i < fr.length) : (fr.map dC).getD i D.nil = dC (fr.getD i (intC 0)) := by
  rw [getD_map (List.getElem?_eq_getElem h), List.getD_eq_getElem?_getD, List.getElem?_eq_getElem h]; rfl
theorem mod_next {i n : Nat} (h : 0 < n) : (if i % n + 1 = n then 0 else i % n + 1) = (i + 1) % n := by
  have h1 := Nat.mod_lt i h
  rw [Nat.add_mod]
  by_cases hn : n = 1
  · subst hn; simp [Nat.mod_one]
  · rw [Nat.mod_eq_of_lt (show 1 < n by omega)]
    split
    · rename_i he; rw [he, Nat.mod_self]
    · rw [Nat.mod_eq_of_lt (show i % n + 1 < n by omega)]
theorem ref10_Same_sp (x y : Arr) (e f : Int) (hx : Fits x) : Sp 14 [dA x, .int e, dA y, .int f] [.bool (decide (e = f) && eqA x y)] := by
  refine sound_ 0 (ref10_Same_tree _ _ _ _ _) ?_
  simp only [toInt_int, int_beq]
  refine wp_decs (fun h => wp_call (ref08_Same_sp x hx y) (wp_ret ?_)) (fun h => wp_ret ?_)
  · rw [decide_eq_true h]; rfl
  · rw [decide_eq_false h]; rfl
end Go.Proofs.YtbgcadcpeabpgaaGreat
set_option maxRecDepth 100000
namespace Go.Proofs.YtbgcadcpeabpgaaGreat

theorem number_alone (n : Int) (s : Lab) : raiseA (oneA (intC n)) s = aloneA n s := by simp [raiseA, oneA, aloneA]
theorem smlC_int {z : Int} (h : inR z) (d : Nat) : SmlC d (intC z) := by
  have := lb_inR h
  refine ⟨?_, ?_, ?_, ?_⟩
  · simp only [intC, ofZ]; omega
  · simp [intC, ofZ]
  · simp [intC]
  · simp [intC]
def shapeA (a : Arr) : Arr := vecA a.shape a.s
def ravA (a : Arr) : Arr := .mk a.s [(a.cells.length : Int)] a.cells
def tallyA (a : Arr) : Arr := aloneA (a.shape.headD 1) a.s
def mdepA (a : Arr) : Arr := aloneA (depA a : Int) (totA a)
noncomputable def mmatA (a b : Arr) (same : Bool) : Arr := aloneA (if matA a b = same then 1 else 0) (totA a ||| totA b)
/-- An array in a box. -/
def boxL (a : Arr) : Lab := match a.shape, a.cells with
  | [], c :: _ => c.l
  | _, _ => 0
def boxA (a : Arr) : Arr := .mk a.s [] [⟨boxL a, 2, .zero, 0, [a]⟩]
def enclA (a : Arr) : Arr × Int := if simpleA a then (a, 0) else if 8 < depA a then (.none, 7) else (boxA a, 0)
theorem dA_box (a : Arr) (l : Lab) (h : l = boxL a) : D.agg [dB a.s, D.sl [], D.sl [D.agg [dB l, D.int 2, D.agg [D.bool false, D.sl [], D.sl []], D.int 0, D.sl [dA a]]]] = dA (boxA a) := by subst h; rw [dC_box, dA_eq]; rfl
/-- What is in the first cell. -/
def firstA (a : Arr) : Arr := match a.cells with
  | [] => aloneA 0 a.s
  | c :: _ => raiseA (unpC c) a.s
mutual
def flatA : Arr → List (CellF Arr)
  | .mk _ _ cs => flatCs cs
def flatCs : List (CellF Arr) → List (CellF Arr)
  | [] => []
  | c :: cs => flatC c ++ flatCs cs
def flatC : CellF Arr → List (CellF Arr)
  | ⟨l, k, n, c, inn⟩ => if k = 2 then flatAs inn else [⟨l, k, n, c, inn⟩]
def flatAs : List Arr → List (CellF Arr)
  | [] => []
  | a :: as_ => flatA a ++ flatAs as_
end
theorem flatA_eq (a : Arr) : flatA a = flatCs a.cells := by cases a; rw [flatA]; rfl
theorem flatC_eq (c : Cell) : flatC c = if c.kind = 2 then flatAs c.inn else [c] := by cases c; rw [flatC]
/-- Few parts: few cells. -/
theorem leftCs_pos {r : Arr → Int → Int} : ∀ {cs : List Cell} {n : Int}, 0 ≤ leftCs r cs n → 0 ≤ n
  | [], n, h => h
  | c :: cs, n, h => by
    simp only [leftCs] at h
    split at h
    · assumption
    · exact h
theorem leftAs_pos {r : Arr → Int → Int} : ∀ {as_ : List Arr} {n : Int}, 0 ≤ leftAs r as_ n → 0 ≤ n
  | [], n, h => h
  | a :: as_, n, h => by
    simp only [leftAs] at h
    split at h
    · assumption
    · exact h
theorem leftAs_flat {r : Arr → Int → Int} : ∀ {as_ : List Arr} {n : Int}, (∀ a ∈ as_, ∀ m, 0 ≤ m → m ≤ 4000 → 0 ≤ r a m → r a m + ((flatA a).length : Int) ≤ m) → n ≤ 4000 → 0 ≤ leftAs r as_ n → leftAs r as_ n + ((flatAs as_).length : Int) ≤ n
  | [], n, _, _, _ => by simp [leftAs, flatAs]
  | a :: as_, n, hr, hn, h => by
    have h0 := leftAs_pos h
    simp only [leftAs] at h ⊢
    rw [if_pos h0] at h ⊢
    have h1 := leftAs_pos h
    have h2 := hr a (by simp) n h0 hn h1
    have h3 := leftAs_flat (fun x hx => hr x (List.mem_cons_of_mem _ hx)) (by omega) h
    rw [flatAs, List.length_append]; omega
theorem leftCs_flat {r : Arr → Int → Int} {d : Nat} : ∀ {cs : List Cell} {n : Int}, (∀ c ∈ cs, SmlC d c) → (∀ c ∈ cs, ∀ a ∈ c.inn, ∀ m, 0 ≤ m → m ≤ 4000 → 0 ≤ r a m → r a m + ((flatA a).length : Int) ≤ m) → n ≤ 4000 → 0 ≤ leftCs r cs n → leftCs r cs n + ((flatCs cs).length : Int) ≤ n
  | [], n, _, _, _, _ => by simp [leftCs, flatCs]
  | c :: cs, n, hs, hr, hn, h => by
    have h0 := leftCs_pos h
    have hc := hs c (by simp)
    have hc1 := hc.1
    have hc2 := hc.2.1
    have e : w64 (w64 (w64 (n - 1) - (c.n.top.length : Int)) - (c.n.bot.length : Int)) = n - 1 - (c.n.top.length : Int) - (c.n.bot.length : Int) := by
      unfold w64
      rw [wrap64 (x := n - 1) (by omega) (by omega), wrap64 (x := n - 1 - (c.n.top.length : Int)) (by omega) (by omega), wrap64 (by omega) (by omega)]
    simp only [leftCs] at h ⊢
    rw [if_pos h0, e] at h ⊢
    have h1 := leftCs_pos h
    have h2 := leftAs_flat (hr c (by simp)) (by omega) h1
    have h3 := leftCs_flat (fun x hx => hs x (List.mem_cons_of_mem _ hx)) (fun x hx => hr x (List.mem_cons_of_mem _ hx)) (by omega) h
    have h4 : ((flatC c).length : Int) ≤ ((flatAs c.inn).length : Int) + 1 := by
      rw [flatC_eq]; split
      · omega
      · simp only [List.length_cons, List.length_nil]; omega
    rw [flatCs, List.length_append]; omega
theorem leftA_flat : ∀ {e d : Nat} {a : Arr} {n : Int}, Sml d a → 0 ≤ n → n ≤ 4000 → 0 ≤ leftA e a n → leftA e a n + ((flatA a).length : Int) ≤ n
  | 0, _, _, _, _, _, _, h => by simp [leftA] at h
  | e + 1, 0, _, _, hs, _, _, _ => hs.elim
  | e + 1, d + 1, a, n, hs, h0, hn, h => by
    rw [leftA] at h ⊢
    have h1 := hs.1
    have e1 : w64 (w64 (n - 1) - (a.shape.length : Int)) = n - 1 - (a.shape.length : Int) := by
      unfold w64
      rw [wrap64 (x := n - 1) (by omega) (by omega), wrap64 (by omega) (by omega)]
    rw [e1] at h ⊢
    have key : leftCs (leftA e) a.cells (n - 1 - (a.shape.length : Int)) + ((flatCs a.cells).length : Int) ≤ n - 1 - (a.shape.length : Int) := leftCs_flat hs.cell (fun c hc x hx m hm0 hm h0 => leftA_flat ((hs.cell c hc).2.2.2 x hx) hm0 hm h0) (by omega) h
    rw [flatA_eq]; clear h; omega
theorem few_flat {d : Nat} {a : Arr} (h : Sml d a) (hf : fewA a = true) : (flatA a).length ≤ 4000 := by
  have h1 : 0 ≤ leftA 12 a 4000 := of_decide_eq_true hf
  have := leftA_flat h (by omega) (by omega) h1
  omega
/-- Cells, and behind them those of an array that are no boxes. -/
def enR (out fl : List Cell) : List D := if out.length + fl.length ≤ 2048 then [.sl ((out ++ fl).map dC), .bool true] else [.sl [], .bool false]
def enlA (a : Arr) : Arr × Int := if (flatA a).length ≤ 2048 then (.mk (totA a) [((flatA a).length : Int)] (flatA a), 0) else (.none, 7)
end Go.Proofs.YtbgcadcpeabpgaaGreat
set_option maxRecDepth 100000
namespace Go.Proofs.YtbgcadcpeabpgaaGreat
open Go.RowKit

section
variable {P : Program} {md : Nat → FMode}
/-- A result, as data. -/
def ResV (P : Program) (md : Nat → FMode) (w : World) (M : Nat → Prop) (t : Nat) (y : D) (u : Value) : Prop := ∃ look β, VL P md w (Mof M look β) look β (ofD P t y) u
theorem ResV.int {w : World} {M : Nat → Prop} {t : Nat} {k : IntKind} {n : Int} {u : Value} (h : ResV P md w M t (.int n) u) (ht : P.underlying t = some (.int k)) : u = .int k n ∧ k.min ≤ n ∧ n ≤ k.max := by
  obtain ⟨look, β, h⟩ := h
  unfold ofD at h
  rw [ht] at h
  exact vl_i h
theorem ResV.bool {w : World} {M : Nat → Prop} {t : Nat} {b : Bool} {u : Value} (h : ResV P md w M t (.bool b) u) (ht : P.underlying t = some .bool) : u = .bool b := by
  obtain ⟨look, β, h⟩ := h
  unfold ofD at h
  rw [ht] at h
  exact vl_b h
theorem ResV.rd {w : World} {M : Nat → Prop} {t : Nat} {y : D} {u : Value} (h : ResV P md w M t y u) (ht : ofD P t y = .d t y) : Rd P md w M (.ty t) y u := by
  obtain ⟨look, β, h⟩ := h
  rw [ht] at h
  obtain ⟨h1, h2⟩ := vl_ne h (by simp) (by simp) (by simp)
  cases h1 with
  | d h1 => exact ⟨h1.mono (Nat.le_refl _) (fun _ _ _ => rfl) (fun b hb _ => .inl hb), h2.size, h2.agg⟩
theorem rd_weak {w w' : World} {M M' : Nat → Prop} {t : CT} {x : D} {v : Value} (h : Rd P md w M t x v) (hx : Ext w w') (hM : ∀ b, M' b → b < w.heap.size → M b) : Rd P md w' M' t x v :=
  ⟨h.rd.mono hx.size (fun b _ hb => hx.block b hb) hM, h.size, h.agg⟩
/-- ████ A call of a function that lends nothing, and tells no row of its own. -/
theorem sp_calls {F : Nat} {fn : Func} {xs ys : List D} {vs : List Value} {W : World} {M : Nat → Prop} (hs : Spec P md F [] xs ys) (hfn : P.funcs[F]? = some fn) (hm : md F = {}) (hM : ∀ b, M b → b < W.heap.size)
    (hlx : xs.length = fn.params.size) (hlv : vs.length = fn.params.size) (hrd : ∀ (i t : Nat) (x : D) (v : Value), fn.params.toList[i]? = some t → xs[i]? = some x → vs[i]? = some v → Rd P md W M (.ty t) x v) :
    Calls P F vs.toArray W (fun e w' => ∃ us, e = .returned (retV us) ∧ us.length = fn.resultTypes.size ∧ (∀ (i t : Nat) (u : Value), fn.resultTypes.toList[i]? = some t → us[i]? = some u → ResV P md w' M t (ys.getD i .nil) u) ∧ Ext W w') := by
  obtain ⟨fn', h1, _, _, h⟩ := hs
  rw [hfn] at h1
  injection h1 with h1
  subst h1
  have nol : ∀ b, ¬ lentN (md F) vs b := fun b ⟨p, v, h1, _⟩ => by rw [hm] at h1; cases h1
  refine (h W M vs 0 1 (fun k hk => by rw [hm] at hk; cases hk) ⟨by simp [hlx], by simp [hlv], fun b hb => ⟨hM b hb, nol b⟩, ?_, fun p hp => by rw [hm] at hp; cases hp⟩).mono ?_
  · intro i ct x v hc hx hv _
    simp only [List.append_nil, List.getElem?_map, Option.map_eq_some_iff] at hc
    obtain ⟨t, ht, rfl⟩ := hc
    have := hrd i t x v ht hx hv
    exact ⟨this.rd.mono (Nat.le_refl _) (fun _ _ _ => rfl) (fun b hb _ => hb.elim id (fun h => (nol b h).elim)), this.size, this.agg⟩
  · rintro e w' ⟨us, β', hp⟩
    refine ⟨us, hp.ending, by simpa using hp.len, fun i t u ht hu => ?_, ?_⟩
    · have := hp.vl (resL P fn.resultTypes.toList ys 0) (by rw [hm]; rfl) i _ u (resL_at ht) hu
      rw [Nat.zero_add] at this
      exact ⟨_, _, this⟩
    · exact Stp.ext (hp.stp.weak fun b hb => (nol b hb).elim)
theorem one_of {us : List Value} {n : Nat} (h : us.length = n) (hn : n = 1) : ∃ u, us = [u] := by
  subst hn
  match us, h with
  | [u], _ => exact ⟨u, rfl⟩
theorem sp_int {F : Nat} {fn : Func} {xs : List D} {n : Int} {vs : List Value} {W : World} {M : Nat → Prop} {t : Nat} {k : IntKind} (hs : Spec P md F [] xs [.int n]) (hfn : P.funcs[F]? = some fn) (hm : md F = {}) (hM : ∀ b, M b → b < W.heap.size)
    (hlx : xs.length = fn.params.size) (hlv : vs.length = fn.params.size) (hrd : ∀ (i t : Nat) (x : D) (v : Value), fn.params.toList[i]? = some t → xs[i]? = some x → vs[i]? = some v → Rd P md W M (.ty t) x v)
    (hrt : fn.resultTypes = #[t]) (ht : P.underlying t = some (.int k)) : Calls P F vs.toArray W (fun e w' => e = .returned (.int k n) ∧ (k.min ≤ n ∧ n ≤ k.max) ∧ Ext W w') := by
  refine (sp_calls hs hfn hm hM hlx hlv hrd).mono ?_
  rintro e w' ⟨us, rfl, hl, hh, hx⟩
  obtain ⟨u, rfl⟩ := one_of hl (by rw [hrt]; rfl)
  obtain ⟨rfl, h2⟩ := (hh 0 t u (by rw [hrt]; rfl) rfl).int ht
  exact ⟨rfl, h2, hx⟩
theorem sp_sl {F : Nat} {fn : Func} {xs : List D} {y : D} {vs : List Value} {W : World} {M : Nat → Prop} {t : Nat} (hs : Spec P md F [] xs [y]) (hfn : P.funcs[F]? = some fn) (hm : md F = {}) (hM : ∀ b, M b → b < W.heap.size)
    (hlx : xs.length = fn.params.size) (hlv : vs.length = fn.params.size) (hrd : ∀ (i t : Nat) (x : D) (v : Value), fn.params.toList[i]? = some t → xs[i]? = some x → vs[i]? = some v → Rd P md W M (.ty t) x v)
    (hrt : fn.resultTypes = #[t]) (ht : ofD P t y = .d t y) : Calls P F vs.toArray W (fun e w' => ∃ u, e = .returned u ∧ Rd P md w' M (.ty t) y u ∧ Ext W w') := by
  refine (sp_calls hs hfn hm hM hlx hlv hrd).mono ?_
  rintro e w' ⟨us, rfl, hl, hh, hx⟩
  obtain ⟨u, rfl⟩ := one_of hl (by rw [hrt]; rfl)
  exact ⟨u, rfl, (hh 0 t u (by rw [hrt]; rfl) rfl).rd ht, hx⟩
/-- ████ A call of a function that tells one row of its own, not empty. -/
theorem own_calls {F : Nat} {fn : Func} {xs es : List D} {vs : List Value} {W : World} {M : Nat → Prop} {t e : Nat} (hs : Spec P md F [] xs [.sl es]) (hfn : P.funcs[F]? = some fn) (hm : md F = { own := [(0, [])] }) (hM : ∀ b, M b → b < W.heap.size)
    (hlx : xs.length = fn.params.size) (hlv : vs.length = fn.params.size) (hrd : ∀ (i t : Nat) (x : D) (v : Value), fn.params.toList[i]? = some t → xs[i]? = some x → vs[i]? = some v → Rd P md W M (.ty t) x v)
    (hrt : fn.resultTypes = #[t]) (ht : tElem P t = some e) (h1 : one P t = true) (hne : es ≠ []) :
    Calls P F vs.toArray W (fun en w' => ∃ G cap cur, en = .returned (.slice (some ⟨G, 0, none⟩) es.length cap) ∧ W.heap.size ≤ G ∧ G < w'.heap.size ∧ w'.heap[G]? = some (.cells cur e (0, 0)) ∧ es.length ≤ cap ∧ cap ≤ maxLen ∧ cur.size = cap * P.cellsOf e ∧
      (∀ (i : Nat) (x : D), es[i]? = some x → ∃ M', RdC P md w' M' (.ty e) x (fun j => cur[i * P.cellsOf e + j]?)) ∧ Ext W w') := by
  obtain ⟨fn', g1, _, _, h⟩ := hs
  rw [hfn] at g1
  injection g1 with g1
  subst g1
  have nol : ∀ b, ¬ lentN (md F) vs b := fun b ⟨p, v, h1, _⟩ => by rw [hm] at h1; cases h1
  refine (h W M vs 0 1 (fun k hk => by rw [hm] at hk; simp at hk; omega) ⟨by simp [hlx], by simp [hlv], fun b hb => ⟨hM b hb, nol b⟩, ?_, fun p hp => by rw [hm] at hp; cases hp⟩).mono ?_
  · intro i ct x v hc hx hv _
    simp only [List.append_nil, List.getElem?_map, Option.map_eq_some_iff] at hc
    obtain ⟨t, ht, rfl⟩ := hc
    have := hrd i t x v ht hx hv
    exact ⟨this.rd.mono (Nat.le_refl _) (fun _ _ _ => rfl) (fun b hb _ => hb.elim id (fun h => (nol b h).elim)), this.size, this.agg⟩
  · rintro en w' ⟨us, β', hp⟩
    have hl := hp.len
    rw [hrt] at hl
    obtain ⟨u, rfl⟩ := one_of hl rfl
    have hot : ownT P [t] (0, []) = some e := by simp [ownT, typeAt, h1, ht]
    have hlook : postLook P (md F) fn.params.toList fn.resultTypes.toList [.sl es] 0 1 0 = some (.row e es true) := by
      rw [hm, hrt]
      simp [postLook, backEff, ownEff, effF, updN, hot, D.path, D.els, List.getD]
    have hv := hp.vl [.row 0] (by rw [hm, hrt]; simp [resL, setOwn, setL]) 0 (.row 0) u rfl rfl
    have hu := vl_row hv hlook
    have hb := hp.blks 0 _ hlook
    have ho := fun B => hp.own 0 _ B hlook
    obtain ⟨A, cap, hA, hb⟩ := hb
    rcases hb with ⟨hn, _⟩ | ⟨B, cur, rfl, hc0, hB, hlen, hcap, hsz, hpos, hrd'⟩
    · exact absurd hn hne
    · have hob := ho B (by rw [hA]; simp [ownB]; omega)
      have hG := hob.1.resolve_right (nol B)
      refine ⟨B, cap, cur, ?_, hG, hob.2, hB, hlen, hcap, hsz, fun i x hx => ⟨_, hrd' i x hx⟩, Stp.ext (hp.stp.weak fun b hb => (nol b hb).elim)⟩
      rw [hp.ending, hu, hA]; rfl
theorem rd_all1 {w : World} {M : Nat → Prop} {ps : List Nat} {t : Nat} {x : D} {v : Value} (hp : ps = [t]) (h : Rd P md w M (.ty t) x v) : ∀ (i t' : Nat) (x' : D) (v' : Value), ps[i]? = some t' → [x][i]? = some x' → [v][i]? = some v' → Rd P md w M (.ty t') x' v' := by
  intro i t' x' v' h1 h2 h3
  subst hp
  match i with
  | 0 => cases h1; cases h2; cases h3; exact h
  | i + 1 => simp at h1
theorem rd_all2 {w : World} {M : Nat → Prop} {ps : List Nat} {t u : Nat} {x y : D} {v z : Value} (hp : ps = [t, u]) (h : Rd P md w M (.ty t) x v) (h' : Rd P md w M (.ty u) y z) : ∀ (i t' : Nat) (x' : D) (v' : Value), ps[i]? = some t' → [x, y][i]? = some x' → [v, z][i]? = some v' → Rd P md w M (.ty t') x' v' := by
  intro i t' x' v' h1 h2 h3
  subst hp
  match i with
  | 0 => cases h1; cases h2; cases h3; exact h
  | 1 => cases h1; cases h2; cases h3; exact h'
  | i + 2 => simp at h1
theorem rd_num_ {w : World} {M : Nat → Prop} {t : Nat} {k : IntKind} {n : Int} (ht : P.underlying t = some (.int k)) (hs : P.cellsOf t = 1) (ha : isAggT P t = false) (h1 : k.min ≤ n) (h2 : n ≤ k.max) : Rd P md w M (.ty t) (.int n) (.int k n) :=
  ⟨.int ht h1 h2 rfl, hs.symm, ha.symm⟩
/-- ████ What is said of a function, by a walk of it. -/
theorem spec_of (hP : WfP P) {F : Nat} {fn : Func} {cts : List CT} {xs ys : List D} (hfn : P.funcs[F]? = some fn) (hb : fn.body.isSome = true) (hn : (fn.name == "runtime.NumGoroutine") = false) (hm : md F = {})
    (h : ∀ (w : World) (M : Nat → Prop) (vs : List Value), (∀ b, M b → b < w.heap.size) → xs.length = fn.params.size + cts.length → vs.length = fn.params.size + cts.length → (∀ (i : Nat) (t : CT) (x : D) (v : Value), (fn.params.toList.map CT.ty ++ cts)[i]? = some t → xs[i]? = some x → vs[i]? = some v → Rd P md w M t x v) →
      Calls P F vs.toArray w (fun e w' => ∃ us, e = .returned (retV us) ∧ us.length = fn.resultTypes.size ∧ (∀ (i t : Nat) (u : Value), fn.resultTypes.toList[i]? = some t → us[i]? = some u → Rd P md w' M (.ty t) (ys.getD i .nil) u) ∧ Ext w w')) : Spec P md F cts xs ys := by
  refine ⟨fn, hfn, hb, hn, fun w M vs d bid _ hp => ?_⟩
  have nol : ∀ b, ¬ lentN (md F) vs b := fun b ⟨p, v, h1, _⟩ => by rw [hm] at h1; cases h1
  have hlook : postLook P (md F) fn.params.toList fn.resultTypes.toList ys d bid = fun _ => none := by rw [hm]; rfl
  refine (h w M vs (fun b hb => (hp.m b hb).1) (by simpa using hp.lenx) (by simpa using hp.lenv) (fun i t x v h1 h2 h3 => ?_)).mono ?_
  · have := hp.rd i t x v h1 h2 h3 (by rw [hm]; simp)
    exact ⟨this.rd.mono (Nat.le_refl _) (fun _ _ _ => rfl) (fun b hb _ => .inl hb), this.size, this.agg⟩
  · rintro e w' ⟨us, rfl, hl, hh, hx⟩
    refine ⟨us, fun _ => undef, rfl, by simpa using hl, (Stp.of_ext hx).weak (fun _ h => h), ?_, ?_, ?_, ?_, ?_⟩
    · intro ls hls i l u hi hu
      rw [hm] at hls
      simp only [setOwn, Option.some.injEq] at hls
      subst hls
      obtain ⟨t, ht⟩ : ∃ t, fn.resultTypes.toList[i]? = some t := by
        have := (List.getElem?_eq_some_iff.1 hi).1
        rw [resL_len] at this
        exact ⟨_, List.getElem?_eq_getElem this⟩
      have hr := hh i t u ht hu
      rw [resL_at ht, Nat.zero_add] at hi
      injection hi with hi
      subst hi
      have hr' : Rd P md w' (Mof M (postLook P (md F) fn.params.toList fn.resultTypes.toList ys d bid) (fun _ => undef)) (.ty t) (ys.getD i .nil) u := by
        refine rd_weak hr (Ext.refl _) (fun b hb _ => ?_)
        rcases hb with hb | ⟨r, k, hk, _⟩
        · exact hb
        · rw [hlook] at hk; cases hk
      exact (rd_vl' hP hr').1
    · intro r b hb; rw [hlook] at hb; cases hb
    · intro r b B hb; rw [hlook] at hb; cases hb
    · intro r q b c B hb; rw [hlook] at hb; cases hb
    · intro hb; rw [hm] at hb; cases hb
end
end Go.Proofs.YtbgcadcpeabpgaaGreat
set_option maxRecDepth 100000
namespace Go.Proofs.YtbgcadcpeabpgaaGreat

theorem can_len {x k : Nat} (h : (lb x).length = k + 1) : B ^ k ≤ x := by
  rcases Nat.lt_or_ge x (B ^ k) with h1 | h1
  · have := lb_len.2 h1; omega
  · exact h1
theorem lb_of {r : List Limb} (h : ∀ k, r.length = k + 1 → B ^ k ≤ nv r) : lb (nv r) = r := by
  refine lb_can (fun hne hz => ?_)
  have hd := List.dropLast_concat_getLast hne
  have hl : 0 < r.length := List.length_pos_iff.2 hne
  have h1 := h (r.length - 1) (by omega)
  have e : nv r = nv r.dropLast := by
    have e2 := nv_snoc r.dropLast (r.getLast hne)
    rw [hd, hz, show (0 : Limb).toNat = 0 from rfl, Nat.mul_zero, Nat.add_zero] at e2
    exact e2
  have h2 := nv_lt r.dropLast
  rw [List.length_dropLast] at h2
  omega
theorem pre_get {α : Type} {pre l : List α} {k : Nat} (hp : pre.length = k) (hk : k < l.length) : (pre ++ l.drop k)[k]? = some l[k] := by
  rw [List.getElem?_append_right (by omega), hp, Nat.sub_self, List.getElem?_drop, Nat.add_zero, List.getElem?_eq_getElem hk]
theorem pre_set {α : Type} {pre l : List α} {k : Nat} (v : α) (hp : pre.length = k) (hk : k < l.length) : (pre ++ l.drop k).set k v = (pre ++ [v]) ++ l.drop (k + 1) := by
  rw [List.set_append_right _ _ (by omega), hp, Nat.sub_self, List.drop_eq_getElem_cons hk, List.set_cons_zero]; simp
theorem map_set {α : Type} {f : α → D} {l : List α} {k : Nat} {v : α} : (l.map f).set k (f v) = (l.set k v).map f := by rw [List.map_set]
theorem nv_set (l : List Limb) (i : Nat) (hi : i < l.length) (v : Limb) : nv (l.set i v) + B ^ i * (l[i]).toNat = nv l + B ^ i * v.toNat := by
  induction l generalizing i with
  | nil => simp at hi
  | cons y l ih =>
    cases i with
    | zero => simp [nv]; omega
    | succ i =>
      have hi' : i < l.length := by simpa using hi
      have := ih i hi'
      simp only [List.set_cons_succ, nv, List.getElem_cons_succ, Nat.pow_succ]
      have h2 := congrArg (fun n => B * n) this
      simp only [Nat.mul_add] at h2
      rw [show B ^ i * B * (l[i]).toNat = B * (B ^ i * (l[i]).toNat) by rw [Nat.mul_comm (B ^ i) B, Nat.mul_assoc], show B ^ i * B * v.toNat = B * (B ^ i * v.toNat) by rw [Nat.mul_comm (B ^ i) B, Nat.mul_assoc]]
      omega
theorem bits32 {X Y : Nat} (hX : X < 4294967296) (hY : Y < 4294967296) : bits_ .xor .u32 (X : Int) (Y : Int) = ((X ^^^ Y : Nat) : Int) ∧ bits_ .and .u32 (X : Int) (Y : Int) = ((X &&& Y : Nat) : Int) ∧ bits_ .or .u32 (X : Int) (Y : Int) = ((X ||| Y : Nat) : Int) := by
  have b : IntKind.bits .u32 = 32 := rfl
  have e1 : (X ^^^ Y) < 2 ^ 32 := Nat.xor_lt_two_pow (by omega) (by omega)
  have e2 : (X &&& Y) < 2 ^ 32 := Nat.and_lt_two_pow _ (by omega)
  have e3 : (X ||| Y) < 2 ^ 32 := Nat.or_lt_two_pow (by omega) (by omega)
  simp only [bits_, b, BitVec.ofInt_natCast, BitVec.toNat_xor, BitVec.toNat_and, BitVec.toNat_or, BitVec.toNat_ofNat, Nat.mod_eq_of_lt (show X < 2 ^ 32 by omega), Nat.mod_eq_of_lt (show Y < 2 ^ 32 by omega)]
  exact ⟨wrapU32 (by omega) (by omega), wrapU32 (by omega) (by omega), wrapU32 (by omega) (by omega)⟩
theorem top_bit (n : Nat) (h : n < 4294967296) : n.testBit 31 = decide (2147483648 ≤ n) := by
  rw [Nat.testBit_eq_decide_div_mod_eq]
  have : n / 2 ^ 31 % 2 = 1 ↔ 2147483648 ≤ n := by omega
  simp only [this]
theorem sub_nat (X Y D c : Nat) (hX : X < 4294967296) (hY : Y < 4294967296) (hc : c ≤ 1) (hD : (D : Int) = ((X : Int) - Y - c) % 4294967296) :
    ((((4294967295 ^^^ X) &&& Y) ||| ((4294967295 ^^^ (X ^^^ Y)) &&& D) : Nat) : Int) / 2147483648 = if X < Y + c then 1 else 0 := by
  have hDl : D < 4294967296 := by omega
  have hN : (((4294967295 ^^^ X) &&& Y) ||| ((4294967295 ^^^ (X ^^^ Y)) &&& D)) < 2 ^ 32 :=
    Nat.or_lt_two_pow (Nat.and_lt_two_pow _ (by omega)) (Nat.and_lt_two_pow _ (by omega))
  have ht := top_bit _ (show _ < 4294967296 from hN)
  rw [Nat.testBit_or, Nat.testBit_and, Nat.testBit_and, Nat.testBit_xor, Nat.testBit_xor, Nat.testBit_xor, top_bit X hX, top_bit Y hY, top_bit D hDl, show Nat.testBit 4294967295 31 = true by decide] at ht
  generalize (((4294967295 ^^^ X) &&& Y) ||| ((4294967295 ^^^ (X ^^^ Y)) &&& D)) = N at *
  by_cases h1 : 2147483648 ≤ X <;> by_cases h2 : 2147483648 ≤ Y <;> by_cases h3 : 2147483648 ≤ D <;> simp [h1, h2, h3] at ht <;> split <;> omega
theorem nat_Cmp_sp (a b : List Limb) (ha : a.length ≤ 1000000) (hb : b.length ≤ 1000000) : Sp 160 [dL a, dL b] [.int (cmpN (nv a) (nv b))] := by
  refine sound_ (a.length + 1) (nat_Cmp_tree _ _ _) (wp_call (nat_trim_sp a (by omega)) (wp_call (nat_trim_sp b (by omega)) ?_))
  have la : (lb (nv a)).length ≤ a.length := lb_len.2 (nv_lt a)
  have lb_ : (lb (nv b)).length ≤ b.length := lb_len.2 (nv_lt b)
  simp only [getD_c0, els_dL, List.length_map]
  refine wp_decs (fun h => wp_ret ?_) (fun h => wp_decs (fun h' => wp_ret ?_) (fun h' => ?_))
  · have h1 : nv a < nv b := by
      have e1 : nv a < B ^ (lb (nv a)).length := lb_len.1 (Nat.le_refl _)
      rcases Nat.lt_or_ge (nv b) (B ^ (lb (nv a)).length) with h2 | h2
      · have := lb_len.2 h2; omega
      · omega
    rw [cmpN, if_pos h1]
  · have h1 : nv b < nv a := by
      have e1 : nv b < B ^ (lb (nv b)).length := lb_len.1 (Nat.le_refl _)
      rcases Nat.lt_or_ge (nv a) (B ^ (lb (nv b)).length) with h2 | h2
      · have := lb_len.2 h2; omega
      · omega
    rw [cmpN, if_neg (by omega), if_neg (by omega)]
  · have hl : (lb (nv b)).length = (lb (nv a)).length := by omega
    have key := loop_down (P := Tryz.prog) (md := md) (fun m k (_ : Unit) => nat_Cmp_l7 (a.length + 1) m (dL (lb (nv a))) (dL (lb (nv b))) ((k : Int) - 1)) (fun _ _ => [.int (cmpN (nv a) (nv b))]) (fun k _ => k ≤ (lb (nv a)).length ∧ nv a / B ^ k = nv b / B ^ k)
      (fun m s ⟨_, h⟩ => by
        simp only [nat_Cmp_l7_succ]
        refine wp_ndec (by omega) (wp_ret ?_)
        simp at h
        simp [cmpN, h])
      (fun m k s ⟨h0, h⟩ ih => by
        have g1 := nv_limb (lb (nv a)) k (by omega)
        have g2 := nv_limb (lb (nv b)) k (by omega)
        rw [nv_lb] at g1 g2
        have ga : ((lb (nv a)).map dB).getD k D.nil = D.int ((nv a / B ^ k % B : Nat) : Int) := by rw [getD_map (List.getElem?_eq_getElem (show k < (lb (nv a)).length by omega)), ← g1]; rfl
        have gb : ((lb (nv b)).map dB).getD k D.nil = D.int ((nv b / B ^ k % B : Nat) : Int) := by rw [getD_map (List.getElem?_eq_getElem (show k < (lb (nv b)).length by omega)), ← g2]; rfl
        simp only [nat_Cmp_l7_succ, show ((k + 1 : Nat) : Int) - 1 = (k : Int) by omega, dA_0, dA_1, dA_2, dC_0, dC_1, dC_2, dC_3, dC_4, dN_0, dN_1, dN_2, els_sl, els_dI, els_dL, List.length_map, Int.toNat_natCast, toInt_int, toInt_dB, toBool_bool, getD_c0, getD_c1, int_beq, int_bne, not_dec, dInt_dB, Int.toNat_zero, ga, gb]
        have ea := Nat.div_add_mod (nv a / B ^ k) B
        have eb := Nat.div_add_mod (nv b / B ^ k) B
        rw [Nat.div_div_eq_div_mul, ← Nat.pow_succ] at ea eb
        rw [h] at ea
        generalize B * (nv b / B ^ (k + 1)) = q at ea eb
        refine wp_dec (by omega) (wp_dec (by omega) (wp_dec (by omega) (wp_dec (by omega) (wp_dec (by omega) (wp_decs (fun h' => wp_ret ?_) (fun h' => wp_dec (by omega) (wp_dec (by omega) (wp_dec (by omega) (wp_dec (by omega) (wp_decs (fun h2 => wp_ret ?_) (fun h2 => ?_)))))))))))
        · have hlt := lt_of_div (show nv a / B ^ k < nv b / B ^ k by omega)
          simp only [cmpN]; rw [if_pos hlt]
        · have hlt := lt_of_div (show nv b / B ^ k < nv a / B ^ k by omega)
          simp only [cmpN]; rw [if_neg (by omega), if_neg (by omega)]
        · rw [wrap64 (by omega) (by omega)]
          exact ih () ⟨by omega, by omega⟩)
      (a.length + 1) (lb (nv a)).length () (by omega) ⟨by omega, by
        rw [Nat.div_eq_of_lt (lb_len.1 (Nat.le_refl _)), Nat.div_eq_of_lt (lb_len.1 (by omega))]⟩
    rw [wrap64 (by omega) (by omega)]
    exact key
end Go.Proofs.YtbgcadcpeabpgaaGreat
set_option maxRecDepth 100000
namespace Go.Proofs.YtbgcadcpeabpgaaGreat

theorem mul_bound {x y o c : Nat} (hx : x < B) (hy : y < B) (ho : o < B) (hc : c < B) : x * y + o + c < 18446744073709551616 ∧ x * y < 18446744073709551616 ∧ x * y + o < 18446744073709551616 := by
  have h1 : x * y ≤ (B - 1) * (B - 1) := Nat.mul_le_mul (by omega) (by omega)
  rw [B_eq] at *
  omega
theorem nat_Mul_sp (a b : List Limb) (ha : a.length ≤ 100000) (hb : b.length ≤ 100000) : Sp 161 [dL a, dL b] [dL (lb (nv a * nv b))] := by
  refine sound_ 100001 (nat_Mul_tree _ _ _) (wp_call (nat_trim_sp a (by omega)) (wp_call (nat_trim_sp b (by omega)) ?_))
  have la : (lb (nv a)).length ≤ a.length := lb_len.2 (nv_lt a)
  have lb_ : (lb (nv b)).length ≤ b.length := lb_len.2 (nv_lt b)
  simp only [getD_c0, els_dL, List.length_map, int_beq]
  generalize nv a = x at *
  generalize nv b = y at *
  refine wp_decs (fun h => wp_ret ?_) (fun h => wp_decs (fun h' => wp_ret ?_) (fun h' => ?_))
  · have : x = 0 := lb_len0.1 (by omega)
    rw [this, Nat.zero_mul, lb_zero]; rfl
  · have : y = 0 := lb_len0.1 (by omega)
    rw [this, Nat.mul_zero, lb_zero]; rfl
  have hm : (lb y).length = (lb y).length := rfl
  generalize hmm : (lb y).length = mm at *
  rw [wrap64 (by omega) (by omega)]
  refine wp_dec (by omega) (wp_dec (by omega) (wp_dec (by simp only [bigN]; omega) ?_))
  have hyB : y < B ^ mm := lb_len.1 (by omega)
  have hxB : x < B ^ (lb x).length := lb_len.1 (Nat.le_refl _)
  rw [show ((lb x).length : Int) + (mm : Int) = (((lb x).length + mm : Nat) : Int) by omega, Int.toNat_natCast]
  have key := loop_up (P := Tryz.prog) (md := md) (lb x).length (fun m i (lo : List Limb) => nat_Mul_l6 100001 m (dL (lb y)) ((lo ++ List.replicate ((lb x).length - i) 0).map dB) (dL (lb x)) ((lb x).length : Int) (i : Int)) (fun _ _ => [dL (lb (x * y))])
    (fun i lo => lo.length = i + mm ∧ nv lo = (x % B ^ i) * y)
    (fun m lo ⟨h1, h2⟩ => by
      simp only [nat_Mul_l6_succ, Nat.sub_self, List.replicate_zero, List.append_nil, dA_0, dA_1, dA_2, dC_0, dC_1, dC_2, dC_3, dC_4, dN_0, dN_1, dN_2, els_sl, els_dI, els_dL, List.length_map, Int.toNat_natCast, toInt_int, toInt_dB, toBool_bool, getD_c0, getD_c1, int_beq, int_bne, not_dec, dInt_dB, Int.toNat_zero]
      refine wp_ndec (by omega) (wp_call (nat_trim_sp lo (by omega)) (wp_ret ?_))
      rw [h2, Nat.mod_eq_of_lt hxB]; rfl)
    (fun m i lo hi ⟨h1, h2⟩ ih => by
      have gx := nv_limb (lb x) i hi
      rw [nv_lb] at gx
      have xl : x / B ^ i % B < B := Nat.mod_lt _ B_pos
      have gX : ((lb x).map dB).getD i D.nil = D.int ((x / B ^ i % B : Nat) : Int) := by rw [getD_map (List.getElem?_eq_getElem hi), ← gx]; rfl
      simp only [nat_Mul_l6_succ, dA_0, dA_1, dA_2, dC_0, dC_1, dC_2, dC_3, dC_4, dN_0, dN_1, dN_2, els_sl, els_dI, els_dL, List.length_map, Int.toNat_natCast, toInt_int, toInt_dB, toBool_bool, getD_c0, getD_c1, int_beq, int_bne, not_dec, dInt_dB, Int.toNat_zero, gX, hmm]
      refine wp_dec (by omega) (wp_dec (by omega) (wp_dec (by omega) ?_))
      have hxs : x % B ^ (i + 1) = x % B ^ i + B ^ i * (x / B ^ i % B) := Nat.mod_pow_succ
      generalize x / B ^ i % B = xi at *
      have key := loop_up (P := Tryz.prog) (md := md) mm (fun m' j (s : List Limb × Nat) => nat_Mul_l10 100001 m m' (dL (lb y)) ((s.1 ++ List.replicate ((lb x).length - i) 0).map dB) (i : Int) (xi : Int) (s.2 : Int) (dL (lb x)) ((lb x).length : Int) (i : Int) (dL (lb y)) (mm : Int) (j : Int)) (fun _ _ => [dL (lb (x * y))])
        (fun j s => s.1.length = i + mm ∧ s.2 < B ∧ nv s.1 + B ^ (i + j) * s.2 = nv lo + B ^ i * (xi * (y % B ^ j)))
        (fun m' s ⟨g1, g2, g3⟩ => by
          have ew : IntKind.wrap .i64 ((i : Int) + (mm : Int)) = ((i + mm : Nat) : Int) := by rw [wrap64 (by omega) (by omega)]; omega
          have hB := B_eq
          have ec : IntKind.wrap .u32 (s.2 : Int) = (s.2 : Int) := wrapU32 (by omega) (by omega)
          have hlen : (s.1 ++ List.replicate ((lb x).length - i) (0 : Limb)).length = (lb x).length + mm := by simp [g1]; omega
          simp only [nat_Mul_l10_succ, dA_0, dA_1, dA_2, dC_0, dC_1, dC_2, dC_3, dC_4, dN_0, dN_1, dN_2, els_sl, els_dI, els_dL, List.length_map, Int.toNat_natCast, toInt_int, toInt_dB, toBool_bool, getD_c0, getD_c1, int_beq, int_bne, not_dec, dInt_dB, Int.toNat_zero, hmm, ew, ec, hlen, wrap_succ (show i < 9223372036854775807 by omega)]
          refine wp_ndec (by omega) (wp_dec (by omega) (wp_dec (by omega) ?_))
          have hset : ((s.1 ++ List.replicate ((lb x).length - i) 0).map dB).set (i + mm) (D.int (s.2 : Int)) = ((s.1 ++ [BitVec.ofNat 32 s.2]) ++ List.replicate ((lb x).length - (i + 1)) 0).map dB := by
            rw [dB_ofNat g2, map_set, List.set_append_right _ _ (by omega), g1, Nat.sub_self, show (lb x).length - i = ((lb x).length - (i + 1)) + 1 by omega, List.replicate_succ, List.set_cons_zero]; simp
          rw [hset]
          refine ih _ ⟨by simp [g1]; omega, ?_⟩
          rw [nv_snoc, g1, ofNat_lt g2, g3, h2, Nat.mod_eq_of_lt hyB, hxs, Nat.add_mul, Nat.mul_assoc])
        (fun m' j s hj ⟨g1, g2, g3⟩ ih' => by
          have gy := nv_limb (lb y) j (by omega)
          rw [nv_lb] at gy
          have yl : y / B ^ j % B < B := Nat.mod_lt _ B_pos
          have gY : ((lb y).map dB).getD j D.nil = D.int ((y / B ^ j % B : Nat) : Int) := by rw [getD_map (List.getElem?_eq_getElem (by omega)), ← gy]; rfl
          have hys : y % B ^ (j + 1) = y % B ^ j + B ^ j * (y / B ^ j % B) := Nat.mod_pow_succ
          have hij : i + j < s.1.length := by omega
          have ew : IntKind.wrap .i64 ((i : Int) + (j : Int)) = ((i + j : Nat) : Int) := by rw [wrap64 (by omega) (by omega)]; omega
          have hlen : (s.1 ++ List.replicate ((lb x).length - i) (0 : Limb)).length = (lb x).length + mm := by simp [g1]; omega
          have gO : ((s.1 ++ List.replicate ((lb x).length - i) 0).map dB).getD (i + j) D.nil = D.int ((s.1[i + j]).toNat : Int) := by rw [getD_map (x := s.1[i + j]) (by rw [List.getElem?_append_left hij, List.getElem?_eq_getElem hij])]; rfl
          simp only [nat_Mul_l10_succ, dA_0, dA_1, dA_2, dC_0, dC_1, dC_2, dC_3, dC_4, dN_0, dN_1, dN_2, els_sl, els_dI, els_dL, List.length_map, Int.toNat_natCast, toInt_int, toInt_dB, toBool_bool, getD_c0, getD_c1, int_beq, int_bne, not_dec, dInt_dB, Int.toNat_zero, ew, gO, gY, hlen, wrap_succ (show j < 9223372036854775807 by omega)]
          generalize y / B ^ j % B = yj at *
          have ol := limb_lt (s.1[i + j])
          have hns := nv_set s.1 (i + j) hij (BitVec.ofNat 32 ((xi * yj + (s.1[i + j]).toNat + s.2) % B))
          have hmd := Nat.mod_lt (xi * yj + (s.1[i + j]).toNat + s.2) B_pos
          rw [ofNat_lt hmd] at hns
          generalize hoo : (s.1[i + j]).toNat = o at *
          have hbd := mul_bound xl yl ol g2
          have hB := B_eq
          have t0 : IntKind.wrap .u64 (xi : Int) = (xi : Int) := wrapU64 (by omega) (by omega)
          have t0' : IntKind.wrap .u64 (yj : Int) = (yj : Int) := wrapU64 (by omega) (by omega)
          have t0'' : IntKind.wrap .u64 (o : Int) = (o : Int) := wrapU64 (by omega) (by omega)
          have t1 : IntKind.wrap .u64 ((xi : Int) * (yj : Int)) = ((xi * yj : Nat) : Int) := by rw [← Int.natCast_mul]; exact wrapU64 (by omega) (by omega)
          have t2 : IntKind.wrap .u64 (((xi * yj : Nat) : Int) + (o : Int)) = ((xi * yj + o : Nat) : Int) := by rw [wrapU64 (by omega) (by omega)]; omega
          have t3 : IntKind.wrap .u64 (((xi * yj + o : Nat) : Int) + (s.2 : Int)) = ((xi * yj + o + s.2 : Nat) : Int) := by rw [wrapU64 (by omega) (by omega)]; omega
          simp only [t0, t0', t0'', t1, t2, t3, fdiv32]
          have t4 : IntKind.wrap .u32 ((xi * yj + o + s.2 : Nat) : Int) = (((xi * yj + o + s.2) % B : Nat) : Int) := by rw [IntKind.wrap_u32, B_eq]; omega
          have hset : ((s.1 ++ List.replicate ((lb x).length - i) 0).map dB).set (i + j) (D.int (((xi * yj + o + s.2) % B : Nat) : Int)) = ((s.1.set (i + j) (BitVec.ofNat 32 ((xi * yj + o + s.2) % B))) ++ List.replicate ((lb x).length - i) 0).map dB := by
            rw [dB_ofNat hmd, map_set, List.set_append_left _ _ hij]
          rw [t4, hset]
          refine wp_dec (by omega) (wp_dec (by omega) (wp_dec (by omega) (wp_dec (by omega) (wp_dec (by omega) (wp_dec (by omega) (wp_dec (by omega) (wp_tt (by decide) ?_)))))))
          have hcl : (xi * yj + o + s.2) / 4294967296 < B := by rw [B_eq]; omega
          refine ih' (s.1.set (i + j) (BitVec.ofNat 32 ((xi * yj + o + s.2) % B)), (xi * yj + o + s.2) / 4294967296) ⟨by simp [g1], hcl, ?_⟩
          show nv (s.1.set (i + j) _) + B ^ (i + (j + 1)) * ((xi * yj + o + s.2) / B) = _
          have q1 : B ^ (i + (j + 1)) * ((xi * yj + o + s.2) / B) = B ^ (i + j) * (B * ((xi * yj + o + s.2) / B)) := by rw [← Nat.add_assoc, Nat.pow_succ, Nat.mul_assoc]
          have q2 : B ^ (i + j) * ((xi * yj + o + s.2) % B) + B ^ (i + j) * (B * ((xi * yj + o + s.2) / B)) = B ^ (i + j) * (xi * yj + o + s.2) := by rw [← Nat.mul_add, Nat.mod_add_div]
          have q3 : B ^ (i + j) * (xi * yj + o + s.2) = B ^ (i + j) * (xi * yj) + B ^ (i + j) * o + B ^ (i + j) * s.2 := by rw [Nat.mul_add, Nat.mul_add]
          have q4 : B ^ i * (xi * (y % B ^ (j + 1))) = B ^ i * (xi * (y % B ^ j)) + B ^ (i + j) * (xi * yj) := by
            rw [hys, Nat.mul_add, Nat.mul_add, Nat.pow_add, Nat.mul_left_comm xi, Nat.mul_assoc]
          rw [q1, q4]
          omega)
        100001 0 (lo, 0) (by omega) (by omega) ⟨h1, B_pos, by simp [Nat.mod_one]⟩
      exact key)
    100001 0 (List.replicate mm 0) (by omega) (by omega) ⟨by simp, by rw [nv_zeros]; simp [Nat.mod_one]⟩
  have e0 : (List.replicate mm (0 : Limb) ++ List.replicate ((lb x).length - 0) 0).map dB = List.replicate ((lb x).length + mm) (D.int 0) := by
    rw [List.replicate_append_replicate, List.map_replicate, show mm + ((lb x).length - 0) = (lb x).length + mm by omega]; rfl
  rw [e0] at key
  exact key
theorem lb_two (z : Nat) : (lb (2 * z)).length ≤ (lb z).length + 1 := by
  refine lb_len.2 ?_
  have h : z < B ^ (lb z).length := lb_len.1 (Nat.le_refl _)
  rw [Nat.pow_succ]
  generalize B ^ (lb z).length = q at *
  rw [B_eq]; omega
theorem ref02_Mul_sp (a b : List Limb) (ha : a.length ≤ 10000) (hb : b.length ≤ 10000) : Sp 150 [dL a, dL b] [dL (lb (nv a * nv b))] := by
  refine sound_ (32 * a.length + 1) (ref02_Mul_tree _ _ _) ?_
  simp only [dA_0, dA_1, dA_2, dC_0, dC_1, dC_2, dC_3, dC_4, dN_0, dN_1, dN_2, els_sl, els_dI, els_dL, List.length_map, Int.toNat_natCast, toInt_int, toInt_dB, toBool_bool, getD_c0, getD_c1, int_beq, int_bne, not_dec, dInt_dB, Int.toNat_zero]
  have key := loop_down (P := Tryz.prog) (md := md) (fun m k (out : Nat) => ref02_Mul_l3 (32 * a.length + 1) m (dL a) (dL b) (dL (lb out)) ((k : Int) - 1)) (fun _ _ => [dL (lb (nv a * nv b))]) (fun k out => k ≤ 32 * a.length ∧ out = nv a / 2 ^ k * nv b)
    (fun m out ⟨_, h⟩ => by
      simp only [ref02_Mul_l3_succ]
      refine wp_ndec (by omega) (wp_ret ?_)
      simp at h; rw [h])
    (fun m k out ⟨h0, h⟩ ih => by
      simp only [ref02_Mul_l3_succ, show ((k + 1 : Nat) : Int) - 1 = (k : Int) by omega]
      have hl1 : (lb out).length ≤ a.length + b.length := by
        rw [h]
        refine lb_len.2 ?_
        have h1 : nv a / 2 ^ (k + 1) * nv b ≤ nv a * nv b := Nat.mul_le_mul_right _ (Nat.div_le_self _ _)
        have h2 : nv a * nv b < B ^ a.length * B ^ b.length := Nat.mul_lt_mul'' (nv_lt a) (nv_lt b)
        rw [← Nat.pow_add] at h2
        exact Nat.lt_of_le_of_lt h1 h2
      have hbit : nv a / 2 ^ k = 2 * (nv a / 2 ^ (k + 1)) + nv a / 2 ^ k % 2 := by
        have := Nat.div_add_mod (nv a / 2 ^ k) 2
        rw [Nat.div_div_eq_div_mul, ← Nat.pow_succ] at this
        exact this.symm
      have tw := ref02_twice_sp (lb out) 0 (by omega) (by omega)
      rw [nv_lb, Nat.add_zero] at tw
      refine wp_dec (by omega) (wp_call tw (wp_call (ref02_Bit_sp a k (by omega)) ?_))
      simp only [getD_c0, toInt_int]
      rw [wrap64 (by omega) (by omega)]
      refine wp_decs (fun h1 => ?_) (fun h1 => ?_)
      · have ad := ref02_Add_sp (lb (2 * out)) b (by have := lb_two out; omega) (by omega)
        rw [nv_lb] at ad
        refine wp_call ad ?_
        refine ih (2 * out + nv b) ⟨by omega, ?_⟩
        rw [hbit, show nv a / 2 ^ k % 2 = 1 by omega, Nat.add_mul, Nat.one_mul, Nat.mul_assoc, ← h]
      · refine ih (2 * out) ⟨by omega, ?_⟩
        have h2 := Nat.mod_lt (nv a / 2 ^ k) (show 0 < 2 by decide)
        rw [hbit, show nv a / 2 ^ k % 2 = 0 by omega, Nat.add_zero, Nat.mul_assoc, ← h])
    (32 * a.length + 1) (32 * a.length) 0 (by omega) ⟨by omega, by
      rw [Nat.div_eq_of_lt (by rw [← B_two]; exact nv_lt a), Nat.zero_mul]⟩
  rw [lb_zero] at key
  have e1 : IntKind.wrap .i64 (IntKind.wrap .i64 (32 * (a.length : Int)) - 1) = ((32 * a.length : Nat) : Int) - 1 := by rw [wrap64 (x := 32 * (a.length : Int)) (by omega) (by omega), wrap64 (by omega) (by omega)]; omega
  rw [e1]
  exact key
end Go.Proofs.YtbgcadcpeabpgaaGreat
set_option maxRecDepth 100000
namespace Go.Proofs.YtbgcadcpeabpgaaGreat

theorem zv_mk (b : Bool) (l : List Limb) : zv ⟨b, l⟩ = if b then -(nv l : Int) else (nv l : Int) := rfl
theorem sgn_cases (z : Int) : (sgnZ z = -1 ∧ z < 0) ∨ (sgnZ z = 0 ∧ z = 0) ∨ (sgnZ z = 1 ∧ 0 < z) := by
  unfold sgnZ
  by_cases h1 : z < 0
  · exact .inl ⟨if_pos h1, h1⟩
  · by_cases h2 : z = 0
    · exact .inr (.inl ⟨by rw [if_neg h1, if_pos h2], h2⟩)
    · exact .inr (.inr ⟨by rw [if_neg h1, if_neg h2], by omega⟩)
theorem whole_Sign_sp (a : Wh) (h : a.mag.length ≤ 1000000) : Sp 159 [dW a] [.int (sgnZ (zv a))] := by
  refine sound_ 0 (whole_Sign_tree _ _) ?_
  have cm := nat_Cmp_sp a.mag [] h (by simp)
  simp only [dW_0, dW_1, toBool_bool]
  refine wp_call cm ?_
  simp only [getD_c0, toInt_int, int_beq, nv_nil]
  unfold sgnZ zv cmpN
  refine wp_decs (fun h0 => wp_ret ?_) (fun h0 => wp_br (fun h1 => wp_ret ?_) (fun h1 => wp_ret ?_))
  · have : nv a.mag = 0 := by
      rw [if_neg (by omega)] at h0
      split at h0
      · assumption
      · omega
    rw [this]; cases a.neg <;> simp
  · have : nv a.mag ≠ 0 := fun hh => h0 (by rw [hh]; simp)
    rw [if_pos (by rw [if_pos h1]; omega)]
  · have : nv a.mag ≠ 0 := fun hh => h0 (by rw [hh]; simp)
    rw [if_neg (by rw [if_neg (by simp [h1])]; omega), if_neg (by rw [if_neg (by simp [h1])]; omega)]
theorem whole_Cmp_sp (a b : Wh) (ha : a.mag.length ≤ 1000000) (hb : b.mag.length ≤ 1000000) : Sp 141 [dW a, dW b] [.int (cmpZ (zv a) (zv b))] := by
  refine sound_ 0 (whole_Cmp_tree _ _ _) (wp_call (whole_Sign_sp a ha) (wp_call (whole_Sign_sp b hb) ?_))
  simp only [getD_c0, toInt_int, dW_1]
  have za := zv_abs a
  have zb := zv_abs b
  refine wp_decs (fun h => wp_ret ?_) (fun h => wp_decs (fun h' => wp_ret ?_) (fun h' => wp_decs (fun h2 => wp_call (nat_Cmp_sp b.mag a.mag hb ha) (wp_ret ?_)) (fun h2 => wp_call (nat_Cmp_sp a.mag b.mag ha hb) (wp_ret ?_))))
  · have : zv a < zv b := by rcases sgn_cases (zv a) with h1 | h1 | h1 <;> rcases sgn_cases (zv b) with h2 | h2 | h2 <;> omega
    rw [cmpZ, if_pos this]
  · have : zv b < zv a := by rcases sgn_cases (zv a) with h1 | h1 | h1 <;> rcases sgn_cases (zv b) with h2 | h2 | h2 <;> omega
    rw [cmpZ, if_neg (by omega), if_neg (by omega)]
  · have h3 : zv a < 0 ∧ zv b < 0 := by rcases sgn_cases (zv a) with h1 | h1 | h1 <;> rcases sgn_cases (zv b) with h2 | h2 | h2 <;> omega
    simp only [getD_c0, toInt_int]
    have : cmpN (nv b.mag) (nv a.mag) = cmpZ (zv a) (zv b) := by
      unfold cmpN cmpZ
      by_cases g1 : nv b.mag < nv a.mag
      · rw [if_pos g1, if_pos (show zv a < zv b by omega)]
      · rw [if_neg g1, if_neg (show ¬ zv a < zv b by omega)]
        by_cases g2 : nv b.mag = nv a.mag
        · rw [if_pos g2, if_pos (show zv a = zv b by omega)]
        · rw [if_neg g2, if_neg (show ¬ zv a = zv b by omega)]
    rw [this]
  · have h3 : 0 ≤ zv a ∧ 0 ≤ zv b := by rcases sgn_cases (zv a) with h1 | h1 | h1 <;> rcases sgn_cases (zv b) with h2 | h2 | h2 <;> omega
    simp only [getD_c0, toInt_int]
    have : cmpN (nv a.mag) (nv b.mag) = cmpZ (zv a) (zv b) := by
      unfold cmpN cmpZ
      by_cases g1 : nv a.mag < nv b.mag
      · rw [if_pos g1, if_pos (show zv a < zv b by omega)]
      · rw [if_neg g1, if_neg (show ¬ zv a < zv b by omega)]
        by_cases g2 : nv a.mag = nv b.mag
        · rw [if_pos g2, if_pos (show zv a = zv b by omega)]
        · rw [if_neg g2, if_neg (show ¬ zv a = zv b by omega)]
    rw [this]
theorem zv_flip (b : Wh) : zv ⟨!b.neg, b.mag⟩ = -zv b := by unfold zv; cases b.neg <;> simp
theorem zv_mul (a b : Wh) : (if (!(a.neg == b.neg)) = true then -((nv a.mag * nv b.mag : Nat) : Int) else ((nv a.mag * nv b.mag : Nat) : Int)) = zv a * zv b := by
  unfold zv; cases a.neg <;> cases b.neg <;> simp [Int.neg_mul, Int.mul_neg, Int.natCast_mul]
theorem whole_Mul_sp (a b : Wh) (ha : a.mag.length ≤ 100000) (hb : b.mag.length ≤ 100000) : Sp 142 [dW a, dW b] [dW (wz (zv a * zv b))] := by
  refine sound_ 0 (whole_Mul_tree _ _ _) ?_
  simp only [dW_0, dW_1, toBool_bool]
  refine wp_call (nat_Mul_sp a.mag b.mag ha hb) (wp_call (whole_signed_sp (!(a.neg == b.neg)) _) (wp_ret ?_))
  rw [zv_mul]; rfl
theorem ref03_Mul_sp (a b : Wh) (ha : a.mag.length ≤ 10000) (hb : b.mag.length ≤ 10000) : Sp 119 [dW a, dW b] [dW (wz (zv a * zv b))] := by
  have la : (lb (nv a.mag)).length ≤ a.mag.length := lb_len.2 (nv_lt _)
  have lb_ : (lb (nv b.mag)).length ≤ b.mag.length := lb_len.2 (nv_lt _)
  have ml := ref02_Mul_sp (lb (nv a.mag)) (lb (nv b.mag)) (by omega) (by omega)
  rw [nv_lb, nv_lb] at ml
  have hlen : (lb (nv a.mag * nv b.mag)).length ≤ a.mag.length + b.mag.length := lb_len.2 (by
    rw [Nat.pow_add]; exact Nat.mul_lt_mul'' (nv_lt _) (nv_lt _))
  refine sound_ 0 (ref03_Mul_tree _ _ _) (wp_call (ref03_Norm_sp a (by omega)) (wp_call (ref03_Norm_sp b (by omega)) ?_))
  simp only [dW_1]
  refine wp_call (ref02_Norm_sp a.mag (by omega)) (wp_call (ref02_Norm_sp b.mag (by omega)) (wp_call ml ?_))
  simp only [getD_c0, dW_0, toBool_bool]
  refine wp_call (ref03_Norm_sp ⟨!((wz (zv a)).neg == (wz (zv b)).neg), lb (nv a.mag * nv b.mag)⟩ (by show (lb _).length ≤ _; omega)) (wp_ret ?_)
  rw [getD_c0]
  congr 3
  have h1 : ∀ w : Wh, nv w.mag ≠ 0 → (wz (zv w)).neg = w.neg := fun w hw => by rw [wz_zv, if_neg hw]
  by_cases ha0 : nv a.mag = 0
  · have : zv a = 0 := by unfold zv; rw [ha0]; simp
    rw [this, Int.zero_mul, zv_lb, ha0, Nat.zero_mul]; simp
  · by_cases hb0 : nv b.mag = 0
    · have : zv b = 0 := by unfold zv; rw [hb0]; simp
      rw [this, Int.mul_zero, zv_lb, hb0, Nat.mul_zero]; simp
    · rw [h1 a ha0, h1 b hb0, zv_lb]
      exact zv_mul a b
/-- A quotient, rounded down, and the rest. -/
def dmZ (x y : Int) : Int × Int :=
  if (x < 0) = (y < 0) then (((x.natAbs / y.natAbs : Nat) : Int), if x < 0 then -((x.natAbs % y.natAbs : Nat) : Int) else ((x.natAbs % y.natAbs : Nat) : Int))
  else if x.natAbs % y.natAbs = 0 then (-((x.natAbs / y.natAbs : Nat) : Int), 0)
  else (-((x.natAbs / y.natAbs : Nat) : Int) - 1, (if x < 0 then -((x.natAbs % y.natAbs : Nat) : Int) else ((x.natAbs % y.natAbs : Nat) : Int)) + y)
def dmD (x y : Int) : List D := if y = 0 then [dW (wz 0), dW (wz 0), .bool false] else [dW (wz (dmZ x y).1), dW (wz (dmZ x y).2), .bool true]
theorem zv_neg {w : Wh} (h : nv w.mag ≠ 0) : (zv w < 0) ↔ w.neg = true := by unfold zv; cases w.neg <;> simp <;> omega
theorem zv_zero {w : Wh} : zv w = 0 ↔ nv w.mag = 0 := by unfold zv; cases w.neg <;> simp
theorem dmZ_neg {a b : Wh} (hb : nv b.mag ≠ 0) (hr : nv a.mag % nv b.mag ≠ 0) (hs : a.neg ≠ b.neg) : dmZ (zv a) (zv b) = ((if (!(a.neg == b.neg)) = true then -((nv a.mag / nv b.mag : Nat) : Int) else ((nv a.mag / nv b.mag : Nat) : Int)) - 1, (if a.neg = true then -((nv a.mag % nv b.mag : Nat) : Int) else ((nv a.mag % nv b.mag : Nat) : Int)) + zv b) := by
  have ha : nv a.mag ≠ 0 := fun h => hr (by rw [h]; simp)
  have h1 := zv_neg ha
  have h2 := zv_neg hb
  unfold dmZ
  rw [zv_abs, zv_abs, if_neg (by rw [eq_iff_iff, h1, h2]; cases ea : a.neg <;> cases eb : b.neg <;> simp [ea, eb] at hs ⊢), if_neg hr]
  have e1 : (!(a.neg == b.neg)) = true := by cases ea : a.neg <;> cases eb : b.neg <;> simp [ea, eb] at hs ⊢
  rw [if_pos e1]
  by_cases h : a.neg = true
  · rw [if_pos (h1.2 h), if_pos h]
  · rw [if_neg (fun hh => h (h1.1 hh)), if_neg h]
theorem dmZ_same {a b : Wh} (hb : nv b.mag ≠ 0) (hr : a.neg = b.neg ∨ nv a.mag % nv b.mag = 0) : dmZ (zv a) (zv b) = (if (!(a.neg == b.neg)) = true then -((nv a.mag / nv b.mag : Nat) : Int) else ((nv a.mag / nv b.mag : Nat) : Int), if a.neg = true then -((nv a.mag % nv b.mag : Nat) : Int) else ((nv a.mag % nv b.mag : Nat) : Int)) := by
  have h2 := zv_neg hb
  unfold dmZ
  rw [zv_abs, zv_abs]
  by_cases ha : nv a.mag = 0
  · have h0 : zv a = 0 := zv_zero.2 ha
    rw [h0, ha]
    simp
  · have h1 := zv_neg ha
    by_cases hs : a.neg = b.neg
    · rw [if_pos (by rw [eq_iff_iff, h1, h2, hs])]
      have e1 : (!(a.neg == b.neg)) = false := by rw [hs]; simp
      rw [e1]
      by_cases h : a.neg = true
      · rw [if_pos (h1.2 h), if_pos h]; simp
      · rw [if_neg (fun hh => h (h1.1 hh)), if_neg h]; simp
    · have h3 := hr.resolve_left hs
      rw [if_neg (by rw [eq_iff_iff, h1, h2]; cases ea : a.neg <;> cases eb : b.neg <;> simp [ea, eb] at hs ⊢), if_pos h3, h3]
      have e1 : (!(a.neg == b.neg)) = true := by cases ea : a.neg <;> cases eb : b.neg <;> simp [ea, eb] at hs ⊢
      rw [if_pos e1]
      cases a.neg <;> simp
theorem wz_len_le {n : Nat} {z : Int} (h : z.natAbs < B ^ n) : (wz z).mag.length ≤ n := lb_len.2 h
def lenZ (z : Int) : Nat := (lb z.natAbs).length
/-- A power by squares; an error. -/
def powR : Nat → Nat → Int → Int → Int × Int
  | 0, _, out, _ => (out, 0)
  | k + 1, n, out, base => if n = 0 then (out, 0) else if 32 < lenZ base then (0, 7) else
    if 32 < lenZ (if n % 2 = 1 then out * base else out) then (0, 7) else
    if n / 2 = 0 then (if n % 2 = 1 then out * base else out, 0) else powR k (n / 2) (if n % 2 = 1 then out * base else out) (base * base)
def powD (r : Int × Int) : List D := [dW (wz r.1), .int r.2]
theorem lenZ_mul (x y : Int) : lenZ (x * y) ≤ lenZ x + lenZ y := by
  unfold lenZ
  refine lb_len.2 ?_
  rw [Int.natAbs_mul, Nat.pow_add]
  exact Nat.mul_lt_mul'' (lb_len.1 (Nat.le_refl _)) (lb_len.1 (Nat.le_refl _))
theorem and_one (n : Nat) (h : n ≤ 9223372036854775807) : bits_ .and .i64 (n : Int) 1 = ((n % 2 : Nat) : Int) := by
  have b : IntKind.bits .i64 = 64 := rfl
  have h1 : n % 2 < 2 := Nat.mod_lt _ (by decide)
  have e : (BitVec.ofInt 64 (n : Int) &&& BitVec.ofInt 64 1).toNat = n % 2 := by
    rw [BitVec.ofInt_natCast, show BitVec.ofInt 64 1 = BitVec.ofNat 64 1 from rfl, BitVec.toNat_and, BitVec.toNat_ofNat, BitVec.toNat_ofNat, Nat.mod_eq_of_lt (show n < 2 ^ 64 by omega)]
    exact Nat.and_one_is_mod n
  show IntKind.wrap .i64 ((BitVec.ofInt 64 (n : Int) &&& BitVec.ofInt 64 1).toNat : Int) = _
  rw [e]
  exact wrap64 (x := ((n % 2 : Nat) : Int)) (by omega) (by omega)
theorem fdiv_two (n : Nat) : Int.fdiv (n : Int) (2 ^ (min (Int.toNat 1) (IntKind.bits .i64))) = ((n / 2 : Nat) : Int) := by
  rw [show (2 : Int) ^ (min (Int.toNat 1) (IntKind.bits .i64)) = 2 by decide, Int.fdiv_eq_ediv_of_nonneg _ (by omega)]; omega
def powZ (x n : Int) : Int × Int := if n < 0 then (0, 3) else powR 20 n.toNat 1 x
end Go.Proofs.YtbgcadcpeabpgaaGreat
set_option maxRecDepth 100000
namespace Go.Proofs.YtbgcadcpeabpgaaGreat
/-! slices.Compare[[]int,int] -/
def slices_Compare_int_int_orc : List (Nat × Orc) := [(2, ⟨[(0, some 23), (1, some 23), (9, some 23), (10, none), (11, none)], [], []⟩)]
def slices_Compare_int_int_ps : List Nat := [23, 23]
def slices_Compare_int_int_rs : List ResultVar := [.tmp 4]
def slices_Compare_int_int_ts : List Nat := [3]
noncomputable def slices_Compare_int_int_l2 (n m2 : Nat) (s10 : D) (s21 : D) (t9 : D) (t10 : Int) (t11 : Int) : Tree :=
  evLoop Tryz.prog md (ev Tryz.prog md n slices_Compare_int_int_orc (cAt (bodyOf Tryz.prog 144) [1, 0, 1, 0, 0])) (orcAt slices_Compare_int_int_orc 2) m2 ⟨[.d 23 s10, .d 23 s21, .undef, .undef, .undef, .undef, .undef, .undef, .undef, .d 23 t9, .i .i64 t10, .i .i64 t11, .undef, .undef, .undef, .undef, .undef, .undef, .undef, .undef, .undef, .undef, .undef, .undef, .undef, .undef, .undef, .undef, .undef, .undef, .undef, .undef, .undef, .undef, .undef, .undef], [], [], [], []⟩
   (blockK 0 (seqK (joinE Tryz.prog md (joinAt slices_Compare_int_int_orc (cAt (bodyOf Tryz.prog 144) [1, 1])) (ev Tryz.prog md n slices_Compare_int_int_orc (cAt (bodyOf Tryz.prog 144) [1, 1]))) (retK Tryz.prog md (md 144) slices_Compare_int_int_ps slices_Compare_int_int_rs slices_Compare_int_int_ts)))
theorem slices_Compare_int_int_l2_succ (n m2 : Nat) (s10 : D) (s21 : D) (t9 : D) (t10 : Int) (t11 : Int) : slices_Compare_int_int_l2 n (m2 + 1) s10 s21 t9 t10 t11 =
 .br (decide (t11 < t10)) (.br (decide (0 ≤ t11)) (.br (decide (t11 < (t9.els.length : Int))) (.br (decide ((s21.els.length : Int) ≤ t11)) (.ret [D.int 1])
 (.br (decide (0 ≤ t11)) (.br (decide (t11 < (s21.els.length : Int))) (.call 111 [] [D.int ((t9.els.getD (Int.toNat t11) D.nil).toInt), D.int ((s21.els.getD (Int.toNat t11) D.nil).toInt)] fun yy1 =>
 .br (((yy1.getD 0 D.nil).toInt) != 0) (.ret [D.int ((yy1.getD 0 D.nil).toInt)])
 (slices_Compare_int_int_l2 n m2 s10 s21 t9 t10 (IntKind.wrap .i64 (t11 + 1)))) .fail) .fail)) .fail) .fail)
 (.br (decide ((s10.els.length : Int) < (s21.els.length : Int))) (.ret [D.int (-1)])
 (.ret [D.int 0])) := by kernel_rfl
theorem slices_Compare_int_int_tree (n : Nat) (s10 : D) (s21 : D) : evFun Tryz.prog md slices_Compare_int_int_orc n 144 [] [s10, s21] =
 slices_Compare_int_int_l2 n n s10 s21 s10 (s10.els.length : Int) 0 := by kernel_rfl

end Go.Proofs.YtbgcadcpeabpgaaGreat
set_option maxRecDepth 100000
namespace Go.Proofs.YtbgcadcpeabpgaaGreat
open Go.RowKit

theorem and_low (n : Nat) (h : n < 4294967296) : bits_ .and .u64 (n : Int) 4294967295 = (n : Int) := by
  have e : (BitVec.ofInt 64 (n : Int) &&& BitVec.ofInt 64 4294967295).toNat = n := by
    rw [BitVec.ofInt_natCast, show BitVec.ofInt 64 4294967295 = BitVec.ofNat 64 4294967295 from rfl, BitVec.toNat_and, BitVec.toNat_ofNat, BitVec.toNat_ofNat, Nat.mod_eq_of_lt (show n < 2 ^ 64 by omega)]
    show n &&& (2 ^ 32 - 1) = n
    rw [Nat.and_two_pow_sub_one_eq_mod]; exact Nat.mod_eq_of_lt h
  show IntKind.wrap .u64 ((BitVec.ofInt 64 (n : Int) &&& BitVec.ofInt 64 4294967295).toNat : Int) = _
  rw [e]
  exact wrapU64 (by omega) (by omega)
theorem mul64_sp (y : Nat) (h : y < 4294967296) : Sp 127 [.int 1, .int (y : Int)] [.int 0, .int (y : Int)] := by
  refine sound_ 0 (bits_Mul64_tree _ _ _) ?_
  have p : (2 : Int) ^ (min (Int.toNat 32) (IntKind.bits .u64)) = 4294967296 := by decide
  have a1 : bits_ .and .u64 1 4294967295 = 1 := and_low 1 (by decide)
  have a2 := and_low y h
  have a3 : bits_ .and .u64 0 4294967295 = 0 := and_low 0 (by decide)
  have d0 : Int.fdiv 0 4294967296 = 0 := by decide
  have d1 : Int.fdiv 1 4294967296 = 0 := by decide
  have d2 : Int.fdiv (y : Int) 4294967296 = 0 := by rw [Int.fdiv_eq_ediv_of_nonneg _ (by decide)]; omega
  have w0 : IntKind.wrap .u64 0 = 0 := by decide
  have w1 : IntKind.wrap .u64 (y : Int) = (y : Int) := wrapU64 (by omega) (by omega)
  simp only [toInt_int, p, a1, a2, a3, d0, d1, d2, w0, w1, Int.zero_mul, Int.mul_zero, Int.one_mul, Int.zero_add, Int.add_zero]
  repeat (refine wp_dec (by omega) ?_)
  exact wp_ret rfl
theorem mul_sp (y : Nat) (h : y < 4294967296) : Sp 83 [.int 1, .int (y : Int)] [.int 0, .int (y : Int)] := by
  refine sound_ 0 (bits_Mul_tree _ _ _) ?_
  simp only [toInt_int]
  refine wp_call (mul64_sp y h) (wp_ret ?_)
  simp only [getD_c0, getD_c1, toInt_int]
theorem mul_calls (y : Nat) (h : y < 4294967296) (w : World) : Calls Tryz.prog 83 #[.int .u64 1, .int .u64 y] w fun e w' => e = .returned (.tuple #[.int .u64 0, .int .u64 y]) ∧ Ext w w' := by
  have hps : Tryz.f83.params.toList = [107, 107] := by kernel_rfl
  have hrs : Tryz.f83.resultTypes.toList = [107, 107] := by kernel_rfl
  have ht : Tryz.prog.underlying 107 = some (.int .u64) := by kernel_rfl
  have n1 : ∀ k : Nat, k < 4294967296 → Rd Tryz.prog md w (fun _ => False) (.ty 107) (.int (k : Int)) (.int .u64 (k : Int)) := fun k hk => rd_num_ ht (by kernel_rfl) (by kernel_rfl) (by show (0 : Int) ≤ _; omega) (by show _ ≤ (18446744073709551615 : Int); omega)
  refine (sp_calls (vs := [.int .u64 1, .int .u64 y]) (M := fun _ => False) (mul_sp y h) Tryz.func83 (by kernel_rfl) (fun b hb => hb.elim) (by kernel_rfl) (by kernel_rfl) (rd_all2 hps (n1 1 (by decide)) (n1 y h))).mono ?_
  rintro e w' ⟨us, rfl, hl, hh, hx⟩
  have hl2 : us.length = 2 := by rw [hl]; rfl
  match us, hl2 with
  | [u1, u2], _ =>
    obtain ⟨rfl, _⟩ := (hh 0 107 u1 (by rw [hrs]; rfl) rfl).int ht
    obtain ⟨rfl, _⟩ := (hh 1 107 u2 (by rw [hrs]; rfl) rfl).int ht
    exact ⟨rfl, hx⟩
/-- make([]T, n), as a row. -/
theorem wpList_mkrow {P : Program} {w : World} {ops : Array Oper} {rest : List Oper} {o : Oper} {a : Act} {Q : Exit → Act → World → Prop} {t e : TypeId} {size bytes : Nat} (hE : Elt P t e size bytes)
    (hg : o.guard = none) (l c : Operand) (hop : o.op = Op.makeSlice t l c) {kl kc : IntKind} (n : Nat) {L C : Int} (hl : a.eval l = .int kl L) (hc : a.eval c = .int kc C) (hL : L = (n : Int)) (hC : C = (n : Int)) (hb : bytes * n ≤ 281474976710656) (hm : n ≤ maxLen)
    (h : ∀ (G : Nat) (w' : World) (X : List Value), w.heap.size ≤ G → Hid (w'.heap[G]? = some (.cells X.toArray e (0, 0))) → X.length = n * size → Ext w w' → wpList P ops Q rest (a.put o.dst (.slice (some ⟨G, 0, none⟩) n n)) w') : wpList P ops Q (o :: rest) a w := by
  subst hL
  subst hC
  obtain ⟨i, z, hi, hz, hsz, hby, hzc⟩ := hE.info
  have hbb : (i.bytes : Int) * (n : Int) ≤ 281474976710656 := by
    have h : ((i.bytes * n : Nat) : Int) ≤ 281474976710656 := by rw [hby]; omega
    rwa [Int.natCast_mul] at h
  have h63 : n ≤ 9223372036854775807 := by unfold maxLen at hm; omega
  have hr := run_make (P := P) w t e i z hE.under hi hz kl kc n n (by omega) (by omega) hbb (by omega)
  simp only [Int.toNat_natCast] at hr
  refine wpList_plain hg fun K hK' => ?_
  unfold Oper.wp
  simp [execOp, hop, hl, hc, hr, Result.andThen]
  have hx : Ext w (w.alloc (.cells (madeCells z.cells (n * i.size)) e)) := (Ext.refl w).alloc _
  refine hK' _ _ (h w.heap.size _ (madeCells z.cells (n * i.size)).toList (Nat.le_refl _) ?_ (by simp [size_madeCells, hsz]) hx)
  show _ = _
  rw [Array.toArray_toList]
  exact heap_alloc_new w _
theorem splice_rep {x : Value} {cur : List Value} {k m : Nat} (h : cur.take k = List.replicate k x) (hk : k + m ≤ cur.length) : (splice cur k (List.replicate m x)).take (k + m) = List.replicate (k + m) x ∧ (splice cur k (List.replicate m x)).length = cur.length := by
  refine ⟨?_, length_splice _ _ _ (by simpa using hk)⟩
  unfold splice
  rw [h, ← List.append_assoc, List.replicate_append_replicate, List.take_append_of_le_length (by simp), List.take_of_length_le (by simp)]
theorem src_one {w w2 : World} {A : Option Addr} {c : Nat} {z : Int} (h : SlI w (.slice A 1 c) .i64 [z]) (hx : Ext w w2) (m : Nat) (hm : m ≤ 1) : 0 < (List.replicate m (Value.int .i64 z)).length → ∃ ad, A = some ad ∧ ∀ j v, (List.replicate m (Value.int .i64 z))[j]? = some v → w2.cell? (ad.add j) = some v := by
  intro _
  obtain ⟨ad, rfl, hb, hc⟩ := (h.keep hx).cellAt 0 (by simp)
  refine ⟨ad, rfl, fun j v hv => ?_⟩
  have hj := (List.getElem?_eq_some_iff.1 hv).1
  simp only [List.length_replicate] at hj
  have : j = 0 := by omega
  subst this
  rw [List.getElem?_replicate, if_pos (by omega)] at hv
  cases hv
  exact hc
theorem src_row {w : World} {G k : Nat} {z : Int} {cur : List Value} {T : TypeId} (h : w.heap[G]? = some (.cells cur.toArray T (0, 0))) (ht : cur.take k = List.replicate k (.int .i64 z)) (m : Nat) (hm : m ≤ k) (hk : k ≤ cur.length) : ∀ j v, (List.replicate m (Value.int .i64 z))[j]? = some v → w.cell? ((⟨G, 0, none⟩ : Addr).add j) = some v := by
  intro j v hv
  have hj := (List.getElem?_eq_some_iff.1 hv).1
  simp only [List.length_replicate] at hj
  rw [List.getElem?_replicate, if_pos hj] at hv
  cases hv
  have hcj : cur[j]? = some (.int .i64 z) := by
    have := congrArg (fun l => l[j]?) ht
    simp only [List.getElem?_take, List.getElem?_replicate] at this
    rw [if_pos (by omega), if_pos (by omega)] at this
    exact this
  have ea : (⟨G, 0, none⟩ : Addr).add j = ⟨G, j, none⟩ := by unfold Addr.add; split <;> simp_all
  rw [ea]
  unfold World.cell?
  simp [h, hcj]
theorem elt_int_ : Elt Tryz.prog 23 3 1 8 :=
  ⟨Tryz.underlying23, by
    obtain ⟨i, hi, h1, h2, h3⟩ := info_parts (P := Tryz.prog) (e := 3) (z := .int .i64 0) (size := 1) (bytes := 8) (by kernel_rfl)
    exact ⟨i, _, hi, h1, h2, h3, rfl⟩, by decide⟩
/-- So many are there. -/
def RInv (w2 : World) (G n : Nat) (z : Int) (iv : Value) (wr : World) : Prop := ∃ (k : Nat) (cur : List Value), iv = .int .i64 k ∧ k ≤ n ∧ (0 < n → 0 < k) ∧ cur.length = n ∧ cur.take k = List.replicate k (.int .i64 z) ∧ wr.heap[G]? = some (.cells cur.toArray 3 (0, 0)) ∧ Below G w2 wr
theorem RInv.start {w2 w3 : World} {G n : Nat} {z : Int} {X : List Value} (hX : X.length = n * 1) (h : w3.heap[G]? = some (.cells (splice X 0 (List.replicate (Nat.min 1 n) (.int .i64 z))).toArray 3 (0, 0))) (hb : Below G w2 w3) : RInv w2 G n z (.int .i64 ((Nat.min 1 n : Nat) : Int)) w3 := by
  have h2 : Nat.min 1 n ≤ n := Nat.min_le_right 1 n
  have h3 : Nat.min 1 n = if 1 ≤ n then 1 else n := Nat.min_def
  obtain ⟨s1, s2⟩ := splice_rep (x := .int .i64 z) (cur := X) (k := 0) (m := Nat.min 1 n) rfl (by omega)
  rw [Nat.zero_add] at s1
  exact ⟨Nat.min 1 n, _, rfl, h2, fun h => by rw [h3]; split <;> omega, by omega, s1, h, hb⟩
theorem RInv.next {w2 w4 : World} {G n k : Nat} {z : Int} {cur : List Value} (hk : k < n) (hp : 0 < k) (hl : cur.length = n) (ht : cur.take k = List.replicate k (.int .i64 z)) (h : w4.heap[G]? = some (.cells (splice cur k (List.replicate (Nat.min k (n - k)) (.int .i64 z))).toArray 3 (0, 0))) (hb : Below G w2 w4) : RInv w2 G n z (.int .i64 ((k + Nat.min k (n - k) : Nat) : Int)) w4 ∧ n - (k + Nat.min k (n - k)) < n - k := by
  have h3 : Nat.min k (n - k) = if k ≤ n - k then k else n - k := Nat.min_def
  have h4 : 0 < Nat.min k (n - k) ∧ k + Nat.min k (n - k) ≤ n := by rw [h3]; split <;> omega
  obtain ⟨s1, s2⟩ := splice_rep (x := .int .i64 z) (cur := cur) (k := k) (m := Nat.min k (n - k)) ht (by omega)
  exact ⟨⟨_, _, rfl, h4.2, fun _ => by omega, by omega, s1, h, hb⟩, by omega⟩
/-- A row of its own is told, of so many. -/
def RetRow (n : Nat) (z : Int) (w : World) (e : Ending) (w' : World) : Prop := ∃ G, e = .returned (.slice (some ⟨G, 0, none⟩) n n) ∧ w.heap.size ≤ G ∧ SlI w' (.slice (some ⟨G, 0, none⟩) n n) .i64 (List.replicate n z) ∧ Ext w w'
theorem rd_slI {w : World} {M : Nat → Prop} {v : Value} {l : List Int} (h : Rd Tryz.prog md w M (.ty 23) (dI l) v) : SlI w v .i64 l := by
  obtain ⟨h1, h2, h3⟩ := h
  have hc1 : Tryz.prog.cellsOf 3 = 1 := by kernel_rfl
  unfold dI at h1
  cases h1 with
  | @sl _ e _ _ A cap bk off ht hc h4 h5 hA hh =>
    have he : e = 3 := by
      have : Tryz.prog.underlying 23 = some (.slice e) := ht
      rw [show Tryz.prog.underlying 23 = some (.slice 3) by kernel_rfl] at this
      injection this with this; injection this with this; exact this.symm
    subst he
    have hv : v = .slice A (l.map D.int).length cap := by
      have ha : isAggV v = false := by rw [h3]; kernel_rfl
      rw [cells_of ha] at hc
      simpa using hc
    refine ⟨A, cap, by rw [hv]; simp, by simpa using h4, by simp, fun i x hx => ?_⟩
    rw [List.getElem?_map, Option.map_eq_some_iff] at hx
    obtain ⟨b, hb, rfl⟩ := hx
    have hne : l.map D.int ≠ [] := fun e => by rw [List.map_eq_nil_iff.1 e] at hb; simp at hb
    obtain ⟨a1, a2, a3⟩ := hA hne
    have := hh i (D.int b) (by rw [List.getElem?_map, hb]; rfl)
    rw [hc1] at this
    refine ⟨_, a1, a3, ?_⟩
    cases this with
    | @int _ k _ _ ht' h1' h2' hc' =>
      have hk : k = .i64 := by
        have : Tryz.prog.underlying 3 = some (.int k) := ht'
        rw [show Tryz.prog.underlying 3 = some (.int .i64) by kernel_rfl] at this
        injection this with this; injection this with this; exact this.symm
      subst hk
      simp only [Nat.mul_one, Nat.add_zero] at hc'
      have ea : (⟨bk, off, none⟩ : Addr).add i = ⟨bk, off + i, none⟩ := by unfold Addr.add; split <;> simp_all
      rw [ea]; exact hc'
theorem row_rdI {w : World} {M : Nat → Prop} {G n c : Nat} {l : List Int} (h : SlI w (.slice (some ⟨G, 0, none⟩) n c) .i64 l) (hc : c ≤ maxLen) (hG : ¬ M G) (hr : ∀ x ∈ l, inR x) : Rd Tryz.prog md w M (.ty 23) (dI l) (.slice (some ⟨G, 0, none⟩) n c) := by
  obtain ⟨h1, h2⟩ := h.len
  have hc1 : Tryz.prog.cellsOf 3 = 1 := by kernel_rfl
  refine ⟨.sl (e := 3) (A := some ⟨G, 0, none⟩) (cap := c) (bk := G) (off := 0) (by kernel_rfl) (by rw [h1, List.length_map]; rfl) (by rw [List.length_map]; omega) hc (fun hne => ?_) (fun i x hx => ?_), by kernel_rfl, by kernel_rfl⟩
  · have : 0 < l.length := List.length_pos_iff.2 (fun e => hne (by rw [e]; rfl))
    obtain ⟨ad, ha, hb, _⟩ := h.cellAt 0 this
    cases ha
    exact ⟨rfl, hG, hb⟩
  · rw [List.getElem?_map, Option.map_eq_some_iff] at hx
    obtain ⟨b, hb, rfl⟩ := hx
    have hi : i < l.length := (List.getElem?_eq_some_iff.1 hb).1
    obtain ⟨ad, ha, _, hcell⟩ := h.cellAt i hi
    cases ha
    have ea : (⟨G, 0, none⟩ : Addr).add i = ⟨G, 0 + i, none⟩ := by unfold Addr.add; split <;> simp_all
    rw [ea] at hcell
    have hx : l[i] = b := (List.getElem?_eq_some_iff.1 hb).2
    rw [hx] at hcell
    have := hr b (List.mem_of_getElem? hb)
    exact .int (k := .i64) (by kernel_rfl) this.1 this.2 (by rw [hc1]; simpa using hcell)
theorem rd_i64 {w : World} {M : Nat → Prop} {v : Value} {n : Int} (h : Rd Tryz.prog md w M (.ty 3) (.int n) v) : v = .int .i64 n ∧ inR n := by
  obtain ⟨h1, h2, h3⟩ := h
  have ha : isAggV v = false := by rw [h3]; kernel_rfl
  cases h1 with
  | @int _ k _ _ ht h1' h2' hc' =>
    have hk : k = .i64 := by
      have : Tryz.prog.underlying 3 = some (.int k) := ht
      rw [show Tryz.prog.underlying 3 = some (.int .i64) by kernel_rfl] at this
      injection this with this; injection this with this; exact this.symm
    subst hk
    rw [cells_of ha] at hc'
    exact ⟨by simpa using hc', h1', h2'⟩
theorem rep_wrap {k n : Nat} (hk : k < n) (hn : n ≤ 1000000) : IntKind.wrap .i64 ((k : Int) + ((Nat.min k (n - k) : Nat) : Int)) = ((k + Nat.min k (n - k) : Nat) : Int) := by
  have h2 : Nat.min k (n - k) ≤ n - k := Nat.min_le_right k (n - k)
  rw [wrap64 (by omega) (by omega)]; omega
set_option maxHeartbeats 2000000 in
theorem repeat_any (A : Option Addr) (c n : Nat) (z : Int) (w : World) (hn : n ≤ 1000000) (hs : SlI w (.slice A 1 c) .i64 [z]) : Calls Tryz.prog 44 #[.slice A 1 c, .int .i64 n] w (RetRow n z w) := by
  have HS := Lib.hid hs
  have hc1 := hs.len.2
  clear hs
  have hu : Tryz.prog.underlying 23 = some (.slice 3) := by kernel_rfl
  have hz : (Tryz.prog.info? 3).map (·.size) = some 1 := by kernel_rfl
  have HU := Lib.hid hu
  have HZ := Lib.hid hz
  clear hu hz
  go_enter Tryz.func44, Tryz.ntmps44
  go_wp2_with (first
    | (go_at_call 83; refine (mul_calls n (by omega) _).mono ?_; rintro e w1 ⟨rfl, hx1⟩)
    | (at_make; refine wpList_mkrow elt_int_ rfl _ _ rfl n rfl rfl (by omega) (by omega) (by omega) (by unfold maxLen; omega) ?_; intro G w2 X hG HG hX hx2; have HX := Lib.hid hX; clear hX)
    | (refine wpList_copy_splice rfl (.tmp 31) (.tmp 32) 23 23 rfl 3 HU.out HZ.out (some ⟨G, 0, none⟩) A n n 1 c (by simp [Act.eval, Act.put]) (by simp [Act.eval, Act.put]) G 0 X 3 HG.out (List.replicate (Nat.min 1 n) (.int .i64 z)) (by simp) (fun hp => ⟨rfl, src_one HS.out (hx1.trans hx2) _ (Nat.min_le_left _ _) hp⟩) (by have h1 := HX.out; have h2 : Nat.min 1 n ≤ n := Nat.min_le_right 1 n; simp only [List.length_replicate]; omega) (by intro v hv; rw [List.eq_of_mem_replicate hv]; rfl) G w2 (Below.refl _ _) (Nat.le_refl _) ?_; intro w3 HG3 hb3))
  go_loopw [8] (RInv w2 G n z) (fun iv _ => n - (intOf iv).toNat)
  case atStart => exact RInv.start HX.out HG3.out hb3
  case round =>
    obtain ⟨k, cur, rfl, hk, hp, hl, ht, hh, hb⟩ := hrel
    have HT := Lib.hid ht
    have HH := Lib.hid hh
    have HB := Lib.hid hb
    have HL := Lib.hid hl
    clear ht hh hb hl
    by_cases hlt : k < n
    · have hpk : 0 < k := hp (by omega)
      clear hp
      have HNE := Lib.hid (show (if n = k then some (⟨G, 0, none⟩ : Addr) else some ⟨G, k, none⟩) = some ⟨G, k, none⟩ from if_neg (by omega))
      have HSR := Lib.hid (src_row (w := wr.drew) HH.out HT.out (Nat.min k (n - k)) (Nat.min_le_left _ _) (by have := HL.out; omega))
      go_wp2_with fail
      go_region_law (refine step_copy_splice rfl (.tmp 41) (.tmp 44) 23 23 rfl 3 HU.out HZ.out (if n = k then some ⟨G, 0, none⟩ else some ⟨G, k, none⟩) (some ⟨G, 0, none⟩) (n - k) (n - k) k n (by simp [Act.eval, Act.put]) (by simp [Act.eval, Act.put]) G k cur 3 HH.out (List.replicate (Nat.min k (n - k)) (.int .i64 z)) (by simp) (fun _ => ⟨HNE.out, _, rfl, HSR.out⟩) (by have h1 := HL.out; have h2 : Nat.min k (n - k) ≤ n - k := Nat.min_le_right k (n - k); simp only [List.length_replicate]; omega) (by intro v hv; rw [List.eq_of_mem_replicate hv]; rfl) G w2 HB.out.drew (Nat.le_refl _) ?_; intro w4 HG4 hb4)
      go_wp2
      go_roundw
      case rel =>
        rw [rep_wrap hlt (by omega)]
        exact (RInv.next hlt hpk HL.out HT.out HG4.out hb4).1
      case measure =>
        rw [rep_wrap hlt (by omega)]
        exact (RInv.next hlt hpk HL.out HT.out HG4.out hb4).2
    · have hkn : k = n := by omega
      subst hkn
      go_wp2_with fail
      go_ret
      have hh := HH.out
      have hcur : cur = (List.replicate k z).map (.int .i64) := by
        have h1 := HT.out
        rw [List.take_of_length_le (by have := HL.out; omega)] at h1
        rw [h1]; simp
      rw [hcur] at hh
      exact ⟨G, rfl, Nat.le_trans hx1.size hG, SlI.made hh (by simp) (Nat.le_refl _), Below.trans (hx1.trans hx2) (Below.mono HB.out (Nat.le_trans hx1.size hG))⟩
/-- What is said of slices.Repeat: of one int. -/
theorem repeat_sp (n : Nat) (z : Int) (hn : n ≤ 1000000) (hz : inR z) : Sp 44 [dI [z], .int (n : Int)] [dI (List.replicate n z)] := by
  refine spec_of wfP Tryz.func44 (by kernel_rfl) (by kernel_rfl) (by kernel_rfl) (fun w M vs hM _ hlv hrd => ?_)
  have hps : Tryz.f44.params.toList = [23, 3] := by kernel_rfl
  have hlen : vs.length = 2 := by rw [hlv]; rfl
  match vs, hlen with
  | [va, vb], _ =>
    rw [hps] at hrd
    have hs := rd_slI (hrd 0 _ _ _ rfl rfl rfl)
    obtain ⟨rfl, _⟩ := rd_i64 (hrd 1 _ _ _ rfl rfl rfl)
    obtain ⟨A, c, rfl, _, _⟩ := hs.form
    refine (repeat_any A c n z w hn hs).mono ?_
    rintro e w' ⟨G, rfl, hG, hv, hx⟩
    refine ⟨[_], rfl, rfl, fun i t u ht hu => ?_, hx⟩
    rw [show Tryz.f44.resultTypes.toList = [23] by kernel_rfl] at ht
    match i with
    | 0 => cases ht; cases hu; exact row_rdI hv (by unfold maxLen; omega) (fun hm => by have := hM G hm; omega) (fun x hx => by rw [List.eq_of_mem_replicate hx]; exact hz)
    | i + 1 => simp at ht
end Go.Proofs.YtbgcadcpeabpgaaGreat
set_option maxRecDepth 100000
namespace Go.Proofs.YtbgcadcpeabpgaaGreat

/-- The places along all axes, from the last one on. -/
def digR : List Int → Int → List Int
  | [], _ => []
  | x :: xs, n => Int.tmod n x :: digR xs (Int.tdiv n x)
def atS (s : List Int) (n : Int) : List Int := (digR s.reverse n).reverse
theorem digR_len : ∀ (l : List Int) (n : Int), (digR l n).length = l.length
  | [], _ => rfl
  | x :: xs, n => by simp [digR, digR_len xs]
theorem atS_len (s : List Int) (n : Int) : (atS s n).length = s.length := by simp [atS, digR_len]
theorem digR_range : ∀ (l : List Int) (n : Int), (∀ x ∈ l, 1 ≤ x ∧ x ≤ 2048) → 0 ≤ n → ∀ y ∈ digR l n, 0 ≤ y ∧ y ≤ 2048
  | [], _, _, _ => by simp [digR]
  | x :: xs, n, h, hn => by
    intro y hy
    have hx := h x (by simp)
    simp only [digR, List.mem_cons] at hy
    rcases hy with rfl | hy
    · have := Int.tmod_lt_of_pos n (show 0 < x by omega)
      have := Int.tmod_nonneg x hn
      omega
    · exact digR_range xs _ (fun z hz => h z (by simp [hz])) (Int.tdiv_nonneg hn (by omega)) y hy
theorem atS_range {s : List Int} {n : Int} (h : ∀ x ∈ s, 1 ≤ x ∧ x ≤ 2048) (hn : 0 ≤ n) : ∀ y ∈ atS s n, 0 ≤ y ∧ y ≤ 2048 := fun y hy => digR_range s.reverse n (fun x hx => h x (by simpa using hx)) hn y (by simpa [atS] using hy)
/-- Which cell stands at a place. -/
def idxW : List Int → List Int → Int → Option Int
  | [], _, o => some o
  | _ :: _, [], _ => none
  | x :: xs, a :: as_, o => if a < 0 ∨ x ≤ a then none else idxW xs as_ (IntKind.wrap .i64 (IntKind.wrap .i64 (o * x) + a))
def idxS (s at_ : List Int) : Option Int := if (countS s).2 = 0 ∧ at_.length = s.length then idxW s at_ 0 else none
theorem idxW_zero : ∀ {s at_ : List Int} {o : Int}, (0 : Int) ∈ s → idxW s at_ o = none
  | x :: xs, [], o, _ => rfl
  | x :: xs, a :: as_, o, h => by
    simp only [idxW]
    split
    · rfl
    · rename_i hc
      rcases List.mem_cons.1 h with h | h
      · subst h; omega
      · exact idxW_zero h
theorem prodS_ne {x : Int} {xs : List Int} {p : Int} (h : prodS (x :: xs) p ≠ 0) : p * x ≤ 2048 ∧ prodS xs (p * x) ≠ 0 := by
  rw [prodS_cons] at h
  split at h
  · exact absurd rfl h
  · exact ⟨by omega, h⟩
theorem idxW_lt : ∀ {s at_ : List Int} {o p k : Int}, (∀ x ∈ s, 1 ≤ x ∧ x ≤ 2048) → 0 ≤ o → o < p → p ≤ 2048 → prodS s p ≠ 0 → idxW s at_ o = some k → 0 ≤ k ∧ k < prodS s p
  | [], at_, o, p, k, _, h0, h1, _, _, h => by
    simp only [idxW, Option.some.injEq] at h
    subst h
    exact ⟨h0, h1⟩
  | x :: xs, [], o, p, k, _, _, _, _, _, h => by simp [idxW] at h
  | x :: xs, a :: as_, o, p, k, hx, h0, h1, h2, hp, h => by
    simp only [idxW] at h
    split at h
    · cases h
    · rename_i hc
      have hxx := hx x (by simp)
      obtain ⟨q1, q2⟩ := prodS_ne hp
      have m1 : (o + 1) * x ≤ p * x := Int.mul_le_mul_of_nonneg_right (by omega) (by omega)
      have m2 : 0 ≤ o * x := Int.mul_nonneg h0 (by omega)
      rw [Int.add_mul, Int.one_mul] at m1
      rw [wrap64 (x := o * x) (by omega) (by omega), wrap64 (by omega) (by omega)] at h
      have := idxW_lt (s := xs) (p := p * x) (fun y hy => hx y (by simp [hy])) (by omega) (by omega) q1 q2 h
      rw [prodS_cons, if_neg (by omega)]
      exact this
theorem countS_cases {s : List Int} {c : Int} (h : countS s = (c, 0)) : s.length ≤ 6 ∧ (((0 : Int) ∈ s ∧ c = 0) ∨ ((∀ x ∈ s, 1 ≤ x ∧ x ≤ 2048) ∧ prodS s 1 = c ∧ c ≠ 0)) := by
  unfold countS at h
  split at h
  · cases h
  split at h
  · cases h
  split at h
  · cases h
  · rename_i h1 h2 h3
    refine ⟨by omega, ?_⟩
    split at h
    · rename_i h4
      obtain ⟨x, hx, h5⟩ := List.any_eq_true.1 h4
      have : x = 0 := by simpa using h5
      subst this
      exact .inl ⟨hx, by injection h with h; exact h.symm⟩
    · rename_i h4
      split at h
      · cases h
      · rename_i h5
        injection h with h
        exact .inr ⟨count_pos h2 h3 h4, h, by omega⟩
theorem idxS_lt {s at_ : List Int} {c k : Int} (hc : countS s = (c, 0)) (h : idxS s at_ = some k) : 0 ≤ k ∧ k < c := by
  unfold idxS at h
  split at h
  · rcases (countS_cases hc).2 with ⟨h0, _⟩ | ⟨h1, h2, h3⟩
    · rw [idxW_zero h0] at h; cases h
    · rw [← h2]
      exact idxW_lt h1 (by omega) (by omega) (by omega) (by rw [h2]; exact h3) h
  · cases h
theorem wrap_pr1 {k : Nat} (h : k ≤ 9223372036854775807) : IntKind.wrap .i64 ((k : Int) - 1) = (k : Int) - 1 := wrap64 (by omega) (by omega)
theorem getElem?_take_succ {l : List Int} {k : Nat} {x : Int} (h : l[k]? = some x) : l.take (k + 1) = l.take k ++ [x] := by
  rw [List.take_add_one, h]; rfl
theorem getD_int {l : List Int} {i : Nat} (h : i < l.length) : (l.map D.int).getD i D.nil = D.int (l.getD i 0) := by
  rw [getD_map (List.getElem?_eq_getElem h), List.getD_eq_getElem?_getD, List.getElem?_eq_getElem h]; rfl
/-- A number without its sign. -/
def greatS (k : Int) : Int := if 2049 < k then 2049 else if k < -2049 then 2049 else if k < 0 - k then 0 - k else k
theorem greatS_le (k : Int) : 0 ≤ greatS k ∧ greatS k ≤ 2049 := by unfold greatS; split; · omega
                                                                   split; · omega
                                                                   split <;> omega
def axesS (n a : Arr) : List Int × List Int × Int :=
  if (intsA n).2 = 0 then (if 0 < a.shape.length then (if a.shape.length < (intsA n).1.length then ([], [], 4) else ((intsA n).1, a.shape, 0)) else if 6 < (intsA n).1.length then ([], [], 7) else ((intsA n).1, List.replicate (intsA n).1.length 1, 0)) else ([], [], (intsA n).2)
def fromT : List Int → List Int → List Int
  | k :: l, x :: s => (if k < 0 then x - greatS k else 0) :: fromT l s
  | _, s => List.replicate s.length 0
def sizeT : List Int → List Int → List Int
  | k :: l, _ :: s => greatS k :: sizeT l s
  | _, s => s
def offS (k x : Int) : Int := if x < greatS k then x else greatS k
def fromD : List Int → List Int → List Int
  | k :: l, x :: s => (if 0 < k then offS k x else 0) :: fromD l s
  | _, s => List.replicate s.length 0
def sizeD : List Int → List Int → List Int
  | k :: l, x :: s => (x - offS k x) :: sizeD l s
  | _, s => s
theorem fromT_len : ∀ l s, (fromT l s).length = s.length
  | k :: l, x :: s => by simp [fromT, fromT_len l s]
  | [], s => by simp [fromT]
  | k :: l, [] => by simp [fromT]
theorem sizeT_len : ∀ l s, (sizeT l s).length = s.length
  | k :: l, x :: s => by simp [sizeT, sizeT_len l s]
  | [], s => by simp [sizeT]
  | k :: l, [] => by simp [sizeT]
theorem fromD_len : ∀ l s, (fromD l s).length = s.length
  | k :: l, x :: s => by simp [fromD, fromD_len l s]
  | [], s => by simp [fromD]
  | k :: l, [] => by simp [fromD]
theorem sizeD_len : ∀ l s, (sizeD l s).length = s.length
  | k :: l, x :: s => by simp [sizeD, sizeD_len l s]
  | [], s => by simp [sizeD]
  | k :: l, [] => by simp [sizeD]
/-- The place in the array. -/
def addW : List Int → List Int → List Int
  | a :: as_, f :: fs => IntKind.wrap .i64 (a + f) :: addW as_ fs
  | _, _ => []
theorem addW_len : ∀ a f, a.length ≤ f.length → (addW a f).length = a.length
  | a :: as_, f :: fs, h => by simp [addW, addW_len as_ fs (by simpa using h)]
  | [], f, h => by simp [addW]
  | a :: as_, [], h => by simp at h
def seenC (cs : List Cell) (fill : Cell) (s from_ size : List Int) (i : Nat) : Cell := match idxS s (addW (atS size (i : Int)) from_) with
  | some k => cs.getD k.toNat fill
  | none => fill
def seenS (a : Arr) (s from_ size : List Int) (K : Nat) : List Cell := (List.range K).map (seenC a.cells (fillC a) s from_ size)
def cutS (n a : Arr) (s from_ size : List Int) : Arr × Int := if (countS size).2 = 0 then (.mk (a.s ||| totA n) size (seenS a s from_ size (countS size).1.toNat), 0) else (.none, (countS size).2)
def takeA (n a : Arr) : Arr × Int := if (axesS n a).2.2 = 0 then cutS n a (axesS n a).2.1 (fromT (axesS n a).1 (axesS n a).2.1) (sizeT (axesS n a).1 (axesS n a).2.1) else (.none, (axesS n a).2.2)
def dropA (n a : Arr) : Arr × Int := if (axesS n a).2.2 = 0 then cutS n a (axesS n a).2.1 (fromD (axesS n a).1 (axesS n a).2.1) (sizeD (axesS n a).1 (axesS n a).2.1) else (.none, (axesS n a).2.2)
theorem axesS_len {n a : Arr} (h : (axesS n a).2.2 = 0) (ha : a.shape.length ≤ 6) : (axesS n a).1.length ≤ (axesS n a).2.1.length ∧ (axesS n a).2.1.length ≤ 6 := by
  unfold axesS at h ⊢
  split at h
  · rename_i h1
    rw [if_pos h1]
    split at h
    · rename_i h2
      rw [if_pos h2]
      split at h
      · cases h
      · rename_i h3; rw [if_neg h3]; simp only; omega
    · rename_i h2
      rw [if_neg h2]
      split at h
      · cases h
      · rename_i h3; rw [if_neg h3]; simp only [List.length_replicate]; omega
  · rename_i h1; exact absurd h h1
theorem countS_ones : ∀ k : Nat, k ≤ 6 → countS (List.replicate k 1) = (1, 0) := by decide
/-- The shape that is looked at has the array's cells. -/
theorem axesS_count {n a : Arr} (h : (axesS n a).2.2 = 0) (ha : countS a.shape = ((a.cells.length : Int), 0)) : countS (axesS n a).2.1 = ((a.cells.length : Int), 0) := by
  unfold axesS at h ⊢
  split at h
  · rename_i h1
    rw [if_pos h1]
    split at h
    · rename_i h2
      rw [if_pos h2]
      split at h
      · cases h
      · rename_i h3; rw [if_neg h3]; exact ha
    · rename_i h2
      rw [if_neg h2]
      split at h
      · cases h
      · rename_i h3
        rw [if_neg h3]
        simp only
        rw [countS_ones _ (by omega)]
        have : a.shape = [] := List.length_eq_zero_iff.1 (by omega)
        rw [this] at ha
        have e : countS [] = (1, 0) := by decide
        rw [e] at ha
        exact ha
  · rename_i h1; exact absurd h h1
end Go.Proofs.YtbgcadcpeabpgaaGreat
set_option maxRecDepth 100000
namespace Go.Proofs.YtbgcadcpeabpgaaGreat

theorem prodS_one1 {n : Nat} (h : n ≤ 2048) : prodS [(n : Int)] 1 = (n : Int) := by
  simp only [prodS]; rw [if_neg (by omega)]; omega
theorem countS_cases1 {n : Nat} (h : n ≤ 2048) : countS [(n : Int)] = ((n : Int), 0) := by
  unfold countS
  rw [prodS_one1 h]
  simp only [List.length_cons, List.length_nil, List.any_cons, List.any_nil, Bool.or_false]
  by_cases h0 : n = 0
  · subst h0; rfl
  · rw [if_neg (by omega), if_neg (by simp), if_neg (by simp; omega), if_neg (by simp; omega), if_neg (by omega)]
theorem shape_product0_sp (l : List Int) (hb : l.length ≤ 6) (hx : ∀ x ∈ l, 0 ≤ x ∧ x ≤ 2048) : Sp 100 [dI l] [.int (prodS l 1)] := by
  refine sound_ (l.length + 1) (shape_product_tree _ _) ?_
  have key := loop_list (P := Tryz.prog) (md := md) l (fun m k (p : Int) => shape_product_l3 (l.length + 1) m p (dI l) (l.length : Int) (k : Int)) (fun rest p => [.int (prodS rest p)]) (fun _ p => 0 ≤ p ∧ p ≤ 2048)
    (fun m k p hk hI => by
      simp only [shape_product_l3_succ]
      exact wp_ndec (by omega) (wp_ret rfl))
    (fun m k p x rest hd hI ih => by
      obtain ⟨h1, h2, h3⟩ := drop_cons hd
      have hxx := hx x (List.mem_of_getElem? h2)
      have hp : 0 ≤ p * x ∧ p * x ≤ 4194304 := ⟨Int.mul_nonneg hI.1 hxx.1, by have := Int.mul_le_mul hI.2 hxx.2 hxx.1 (by omega); omega⟩
      simp only [shape_product_l3_succ, els_dI, List.length_map, Int.toNat_natCast, getD_map h2, toInt_int, wrap_succ (show k < 9223372036854775807 by omega), wrap64 (x := p * x) (by omega) (by omega)]
      repeat (refine wp_dec (by omega) ?_)
      simp only [prodS]
      refine wp_decs (fun h => wp_ret ?_) (fun h => ?_)
      · rw [if_pos h]
      · rw [if_neg h]; exact ih _ ⟨hp.1, by omega⟩)
    (l.length + 1) 0 1 (by omega) (by omega) (by decide)
  simpa using key
def aroundD (s : List Int) (x : Int) : List D := if (countS s).2 = 0 ∧ 0 ≤ x ∧ x < s.length then [.int (prodS (s.take x.toNat) 1), .int (s.getD x.toNat 0), .int (prodS (s.drop (x.toNat + 1)) 1), .bool true] else [.int 0, .int 0, .int 0, .bool false]
theorem shape_Around_sp (s : List Int) (x : Int) : Sp 85 [dI s, .int x] (aroundD s x) := by
  refine sound_ 0 (shape_Around_tree _ _ _) (wp_call (shape_Count_sp s) ?_)
  unfold aroundD
  simp only [dA_0, dA_1, dA_2, dC_0, dC_1, dC_2, dC_3, dC_4, dN_0, dN_1, dN_2, els_sl, els_dI, els_dL, List.length_map, Int.toNat_natCast, toInt_int, toInt_dB, toBool_bool, getD_c0, getD_c1, int_beq, int_bne, not_dec, dInt_dB, Int.toNat_zero]
  refine wp_decs (fun h => wp_ret (by rw [if_neg (fun hh => h hh.1)])) (fun h => wp_decs (fun h1 => wp_ret (by rw [if_neg (by omega)])) (fun h1 => wp_decs (fun h2 => wp_ret (by rw [if_neg (by omega)])) (fun h2 => ?_)))
  have h0 : (countS s).2 = 0 := Classical.not_not.1 h
  rw [if_pos ⟨h0, by omega, by omega⟩]
  obtain ⟨c1, c2⟩ := countS_len h0
  obtain ⟨X, rfl⟩ : ∃ X : Nat, x = (X : Int) := ⟨x.toNat, by omega⟩
  simp only [wrap_succ (show X < 9223372036854775807 by omega), Int.toNat_natCast, ← List.map_take, ← List.map_drop, dsl_dI]
  refine wp_dec (by omega) (wp_dec (by omega) (wp_call (shape_product0_sp (s.take X) (by rw [List.length_take]; omega) (fun y hy => c2 y (List.mem_of_mem_take hy))) (wp_dec (by omega) (wp_dec (by omega) (wp_dec (by omega) (wp_dec (by omega) (wp_call (shape_product0_sp (s.drop (X + 1)) (by rw [List.length_drop]; omega) (fun y hy => c2 y (List.mem_of_mem_drop hy))) (wp_ret ?_))))))))
  rw [getD_int (show X < s.length by omega)]
  simp only [dA_0, dA_1, dA_2, dC_0, dC_1, dC_2, dC_3, dC_4, dN_0, dN_1, dN_2, els_sl, els_dI, els_dL, List.length_map, Int.toNat_natCast, toInt_int, toInt_dB, toBool_bool, getD_c0, getD_c1, int_beq, int_bne, not_dec, dInt_dB, Int.toNat_zero]
def withD (s : List Int) (x n : Int) : List D := if 0 ≤ x ∧ x < s.length then [dI (s.set x.toNat n), .bool true] else [.sl [], .bool false]
theorem shape_With_sp (s : List Int) (x n : Int) (hs : s.length ≤ 1048576) : Sp 84 [dI s, .int x, .int n] (withD s x n) := by
  refine sound_ 0 (shape_With_tree _ _ _ _) ?_
  unfold withD
  simp only [dA_0, dA_1, dA_2, dC_0, dC_1, dC_2, dC_3, dC_4, dN_0, dN_1, dN_2, els_sl, els_dI, els_dL, List.length_map, Int.toNat_natCast, toInt_int, toInt_dB, toBool_bool, getD_c0, getD_c1, int_beq, int_bne, not_dec, dInt_dB, Int.toNat_zero]
  refine wp_decs (fun h1 => wp_ret (by rw [if_neg (by omega)])) (fun h1 => wp_decs (fun h2 => wp_ret (by rw [if_neg (by omega)])) (fun h2 => wp_call (clone_I_sp s hs) ?_))
  rw [if_pos ⟨by omega, by omega⟩]
  simp only [dA_0, dA_1, dA_2, dC_0, dC_1, dC_2, dC_3, dC_4, dN_0, dN_1, dN_2, els_sl, els_dI, els_dL, List.length_map, Int.toNat_natCast, toInt_int, toInt_dB, toBool_bool, getD_c0, getD_c1, int_beq, int_bne, not_dec, dInt_dB, Int.toNat_zero]
  refine wp_dec (by omega) (wp_dec (by omega) (wp_ret ?_))
  rw [← List.map_set]; rfl
end Go.Proofs.YtbgcadcpeabpgaaGreat
set_option maxRecDepth 100000
namespace Go.Proofs.YtbgcadcpeabpgaaGreat
/-! scrim/scrimref09.Alike -/
def ref09_Alike_orc : List (Nat × Orc) := [(6, ⟨[(2, none), (3, none), (4, none), (7, none)], [(3, true), (4, true)], []⟩)]
def ref09_Alike_ps : List Nat := [26, 26, 22]
def ref09_Alike_rs : List ResultVar := [.tmp 6]
def ref09_Alike_ts : List Nat := [4]
noncomputable def ref09_Alike_l6 (n m6 : Nat) (o2 : Int) (i7 : Int) (a3 : D) (b4 : D) : Tree :=
  evLoop Tryz.prog md (ev Tryz.prog md n ref09_Alike_orc (cAt (bodyOf Tryz.prog 27) [1, 1, 1, 0, 1, 0, 0])) (orcAt ref09_Alike_orc 6) m6 ⟨[.undef, .undef, .i .u64 o2, .ptr 3 [], .ptr 4 [], .undef, .undef, .i .i64 i7, .undef, .undef, .undef, .undef, .undef, .undef, .undef, .undef, .undef, .undef, .undef, .undef, .undef, .undef, .undef, .undef, .undef, .undef, .undef, .undef, .undef, .undef, .undef, .undef, .undef, .undef, .undef, .undef, .undef, .undef, .undef, .undef, .undef, .undef, .undef, .undef, .undef, .undef, .undef, .undef, .undef, .undef, .undef, .undef, .undef, .undef, .undef, .undef, .undef, .undef, .undef, .undef, .undef, .undef, .undef, .undef, .undef, .undef, .undef, .undef, .undef, .undef, .undef], [(3, .var 26 (.d 26 a3) true), (4, .var 26 (.d 26 b4) true)], [3, 4], [], []⟩
   (blockK 0 (seqK (joinE Tryz.prog md (joinAt ref09_Alike_orc (cAt (bodyOf Tryz.prog 27) [1, 1, 1, 1])) (ev Tryz.prog md n ref09_Alike_orc (cAt (bodyOf Tryz.prog 27) [1, 1, 1, 1]))) (retK Tryz.prog md (md 27) ref09_Alike_ps ref09_Alike_rs ref09_Alike_ts)))
theorem ref09_Alike_l6_succ (n m6 : Nat) (o2 : Int) (i7 : Int) (a3 : D) (b4 : D) : ref09_Alike_l6 n (m6 + 1) o2 i7 a3 b4 =
 .br (decide (i7 < (((a3.fld 2).els).length : Int))) (.br (decide (0 ≤ i7)) (.br (decide (i7 < (((a3.fld 2).els).length : Int))) (.br (decide (0 ≤ i7)) (.br (decide (i7 < (((b4.fld 2).els).length : Int))) (.call 63 [] [((a3.fld 2).els).getD (Int.toNat i7) D.nil, ((b4.fld 2).els).getD (Int.toNat i7) D.nil, D.int o2] fun yy8 =>
 .br (!((yy8.getD 0 D.nil).toBool)) (.ret [D.bool false])
 (ref09_Alike_l6 n m6 o2 (IntKind.wrap .i64 (i7 + 1)) a3 b4)) .fail) .fail) .fail) .fail)
 (.ret [D.bool true]) := by kernel_rfl
theorem ref09_Alike_tree (n : Nat) (a0 : D) (b1 : D) (o2 : D) : evFun Tryz.prog md ref09_Alike_orc n 27 [] [a0, b1, o2] =
 .call 62 [] [D.int ((a0.fld 0).toInt), D.int o2.toInt] fun yy1 =>
 .br (!((yy1.getD 0 D.nil).toBool)) (.call 62 [] [D.int ((a0.fld 0).toInt), D.int o2.toInt] fun yy2 =>
 .call 62 [] [D.int ((b1.fld 0).toInt), D.int o2.toInt] fun yy3 =>
 .ret [D.bool (((yy2.getD 0 D.nil).toBool) == ((yy3.getD 0 D.nil).toBool))])
 (.call 62 [] [D.int ((b1.fld 0).toInt), D.int o2.toInt] fun yy4 =>
 .br (!((yy4.getD 0 D.nil).toBool)) (.call 62 [] [D.int ((a0.fld 0).toInt), D.int o2.toInt] fun yy5 =>
 .call 62 [] [D.int ((b1.fld 0).toInt), D.int o2.toInt] fun yy6 =>
 .ret [D.bool (((yy5.getD 0 D.nil).toBool) == ((yy6.getD 0 D.nil).toBool))])
 (.br (((a0.fld 0).toInt) != ((b1.fld 0).toInt)) (.ret [D.bool false])
 (.call 24 [] [a0.fld 1, b1.fld 1] fun yy7 =>
 .br (!((yy7.getD 0 D.nil).toBool)) (.ret [D.bool false])
 (.br ((((a0.fld 2).els).length : Int) != (((b1.fld 2).els).length : Int)) (.ret [D.bool false])
 (ref09_Alike_l6 n n o2.toInt 0 a0 b1))))) := by kernel_rfl

/-! scrim/scrimref09.cells -/
def ref09_cells_orc : List (Nat × Orc) := [(6, ⟨[(2, none), (3, none), (4, none), (7, none)], [(3, true), (4, true)], []⟩)]
def ref09_cells_ps : List Nat := [68, 68, 22]
def ref09_cells_rs : List ResultVar := [.tmp 6]
def ref09_cells_ts : List Nat := [4]
noncomputable def ref09_cells_l6 (n m6 : Nat) (o2 : Int) (i7 : Int) (a3 : D) (b4 : D) : Tree :=
  evLoop Tryz.prog md (ev Tryz.prog md n ref09_cells_orc (cAt (bodyOf Tryz.prog 63) [1, 1, 1, 0, 1, 0, 0])) (orcAt ref09_cells_orc 6) m6 ⟨[.undef, .undef, .i .u64 o2, .ptr 3 [], .ptr 4 [], .undef, .undef, .i .i64 i7, .undef, .undef, .undef, .undef, .undef, .undef, .undef, .undef, .undef, .undef, .undef, .undef, .undef, .undef, .undef, .undef, .undef, .undef, .undef, .undef, .undef, .undef, .undef, .undef, .undef, .undef, .undef, .undef, .undef, .undef, .undef, .undef, .undef, .undef, .undef, .undef, .undef, .undef, .undef, .undef, .undef, .undef, .undef, .undef, .undef, .undef, .undef, .undef, .undef, .undef, .undef, .undef, .undef, .undef, .undef, .undef, .undef, .undef, .undef, .undef, .undef, .undef, .undef, .undef, .undef, .undef, .undef, .undef, .undef, .undef, .undef, .undef, .undef, .undef, .undef, .undef, .undef], [(3, .var 68 (.d 68 a3) true), (4, .var 68 (.d 68 b4) true)], [3, 4], [], []⟩
   (blockK 0 (seqK (joinE Tryz.prog md (joinAt ref09_cells_orc (cAt (bodyOf Tryz.prog 63) [1, 1, 1, 1])) (ev Tryz.prog md n ref09_cells_orc (cAt (bodyOf Tryz.prog 63) [1, 1, 1, 1]))) (retK Tryz.prog md (md 63) ref09_cells_ps ref09_cells_rs ref09_cells_ts)))
theorem ref09_cells_l6_succ (n m6 : Nat) (o2 : Int) (i7 : Int) (a3 : D) (b4 : D) : ref09_cells_l6 n (m6 + 1) o2 i7 a3 b4 =
 .br (decide (i7 < (((a3.fld 4).els).length : Int))) (.br (decide (0 ≤ i7)) (.br (decide (i7 < (((a3.fld 4).els).length : Int))) (.br (decide (0 ≤ i7)) (.br (decide (i7 < (((b4.fld 4).els).length : Int))) (.call 27 [] [((a3.fld 4).els).getD (Int.toNat i7) D.nil, ((b4.fld 4).els).getD (Int.toNat i7) D.nil, D.int o2] fun yy8 =>
 .br (!((yy8.getD 0 D.nil).toBool)) (.ret [D.bool false])
 (ref09_cells_l6 n m6 o2 (IntKind.wrap .i64 (i7 + 1)) a3 b4)) .fail) .fail) .fail) .fail)
 (.ret [D.bool true]) := by kernel_rfl
theorem ref09_cells_tree (n : Nat) (a0 : D) (b1 : D) (o2 : D) : evFun Tryz.prog md ref09_cells_orc n 63 [] [a0, b1, o2] =
 .call 62 [] [D.int ((a0.fld 0).toInt), D.int o2.toInt] fun yy1 =>
 .br (!((yy1.getD 0 D.nil).toBool)) (.call 62 [] [D.int ((a0.fld 0).toInt), D.int o2.toInt] fun yy2 =>
 .call 62 [] [D.int ((b1.fld 0).toInt), D.int o2.toInt] fun yy3 =>
 .ret [D.bool (((yy2.getD 0 D.nil).toBool) == ((yy3.getD 0 D.nil).toBool))])
 (.call 62 [] [D.int ((b1.fld 0).toInt), D.int o2.toInt] fun yy4 =>
 .br (!((yy4.getD 0 D.nil).toBool)) (.call 62 [] [D.int ((a0.fld 0).toInt), D.int o2.toInt] fun yy5 =>
 .call 62 [] [D.int ((b1.fld 0).toInt), D.int o2.toInt] fun yy6 =>
 .ret [D.bool (((yy5.getD 0 D.nil).toBool) == ((yy6.getD 0 D.nil).toBool))])
 (.br (((a0.fld 0).toInt) != ((b1.fld 0).toInt)) (.ret [D.bool false])
 (.br (((a0.fld 1).toInt) != ((b1.fld 1).toInt)) (.ret [D.bool false])
 (.br (((a0.fld 3).toInt) != ((b1.fld 3).toInt)) (.ret [D.bool false])
 (.call 101 [] [a0.fld 2, b1.fld 2] fun yy7 =>
 .br (!((yy7.getD 0 D.nil).toBool)) (.ret [D.bool false])
 (.br ((((a0.fld 4).els).length : Int) != (((b1.fld 4).els).length : Int)) (.ret [D.bool false])
 (ref09_cells_l6 n n o2.toInt 0 a0 b1))))))) := by kernel_rfl

end Go.Proofs.YtbgcadcpeabpgaaGreat
set_option maxRecDepth 100000
namespace Go.Proofs.YtbgcadcpeabpgaaGreat

def allL : Lab := BitVec.allOnes 64
def secA : Arr := .mk allL [] []
def secC : Cell := ⟨allL, 0, .zero, 0, []⟩
mutual
def hidA (o : Lab) : Arr → Arr
  | .mk s sh cs => if flows s o then .mk s sh (hidCs o cs) else secA
def hidCs (o : Lab) : List (CellF Arr) → List (CellF Arr)
  | [] => []
  | c :: cs => hidC o c :: hidCs o cs
def hidC (o : Lab) : CellF Arr → CellF Arr
  | ⟨l, k, n, c, inn⟩ => if flows l o then ⟨l, k, n, c, hidAs o inn⟩ else secC
def hidAs (o : Lab) : List Arr → List Arr
  | [] => []
  | a :: as_ => hidA o a :: hidAs o as_
end
theorem hidCs_map (o : Lab) : ∀ cs, hidCs o cs = cs.map (hidC o)
  | [] => by simp [hidCs]
  | c :: cs => by simp [hidCs, hidCs_map o cs]
theorem hidAs_map (o : Lab) : ∀ as_, hidAs o as_ = as_.map (hidA o)
  | [] => by simp [hidAs]
  | a :: as_ => by simp [hidAs, hidAs_map o as_]
theorem hidA_eq (o : Lab) (a : Arr) : hidA o a = if flows a.s o then .mk a.s a.shape (a.cells.map (hidC o)) else secA := by cases a; rw [hidA, hidCs_map]; rfl
theorem hidC_eq (o : Lab) (c : Cell) : hidC o c = if flows c.l o then ⟨c.l, c.kind, c.n, c.c, c.inn.map (hidA o)⟩ else secC := by cases c; simp [hidC, hidAs_map]
theorem flows_or {a b o : Lab} : flows (a ||| b) o = (flows a o && flows b o) := by
  rw [Bool.eq_iff_iff, Bool.and_eq_true, flows_iff, flows_iff, flows_iff]
  constructor
  · exact fun h => ⟨fun t ht => h t (by simp [ht]), fun t ht => h t (by simp [ht])⟩
  · rintro ⟨h1, h2⟩ t ht
    simp only [BitVec.getLsbD_or, Bool.or_eq_true] at ht
    exact ht.elim (h1 t) (h2 t)
theorem flows_self (a : Lab) : flows a a = true := flows_iff.2 fun _ h => h
theorem flows_zero (o : Lab) : flows 0 o = true := flows_iff.2 fun t h => by simp at h
theorem flows_trans {a b c : Lab} (h : flows a b = true) (k : flows b c = true) : flows a c = true := flows_iff.2 fun t ht => flows_iff.1 k t (flows_iff.1 h t ht)
theorem flows_all {o : Lab} (h : flows allL o = true) (a : Lab) : flows a o = true := by
  rw [flows_64] at h ⊢
  intro t ht _
  exact h t ht (by unfold allL; rw [BitVec.getLsbD_allOnes]; exact decide_eq_true ht)
theorem hid_vis {o : Lab} {a : Arr} (h : flows a.s o = true) : hidA o a = .mk a.s a.shape (a.cells.map (hidC o)) := by rw [hidA_eq, if_pos h]
theorem hid_hid {o : Lab} {a : Arr} (h : flows a.s o = false) : hidA o a = secA := by rw [hidA_eq, if_neg (by simp [h])]
theorem hidC_vis {o : Lab} {c : Cell} (h : flows c.l o = true) : hidC o c = ⟨c.l, c.kind, c.n, c.c, c.inn.map (hidA o)⟩ := by rw [hidC_eq, if_pos h]
theorem hidC_hid {o : Lab} {c : Cell} (h : flows c.l o = false) : hidC o c = secC := by rw [hidC_eq, if_neg (by simp [h])]
/-- Two that are alike. -/
theorem alike_cases {o : Lab} {a b : Arr} (h : hidA o a = hidA o b) : (flows a.s o = false ∧ flows b.s o = false) ∨ (flows a.s o = true ∧ flows b.s o = true ∧ a.s = b.s ∧ a.shape = b.shape ∧ a.cells.map (hidC o) = b.cells.map (hidC o)) := by
  cases ha : flows a.s o <;> cases hb : flows b.s o
  · exact .inl ⟨rfl, rfl⟩
  · rw [hid_hid ha, hid_vis hb] at h
    have : allL = b.s := congrArg Arr.s h
    rw [← this] at hb
    rw [flows_all hb] at ha; cases ha
  · rw [hid_vis ha, hid_hid hb] at h
    have : a.s = allL := congrArg Arr.s h
    rw [this] at ha
    rw [flows_all ha] at hb; cases hb
  · rw [hid_vis ha, hid_vis hb, arr_eq] at h
    exact .inr ⟨rfl, rfl, h.1, h.2.1, h.2.2⟩
theorem alikeC_cases {o : Lab} {a b : Cell} (h : hidC o a = hidC o b) : (flows a.l o = false ∧ flows b.l o = false) ∨ (flows a.l o = true ∧ flows b.l o = true ∧ a.l = b.l ∧ a.kind = b.kind ∧ a.c = b.c ∧ a.n = b.n ∧ a.inn.map (hidA o) = b.inn.map (hidA o)) := by
  cases ha : flows a.l o <;> cases hb : flows b.l o
  · exact .inl ⟨rfl, rfl⟩
  · rw [hidC_hid ha, hidC_vis hb] at h
    have : allL = b.l := congrArg CellF.l h
    rw [← this] at hb
    rw [flows_all hb] at ha; cases ha
  · rw [hidC_vis ha, hidC_hid hb] at h
    have : a.l = allL := congrArg CellF.l h
    rw [this] at ha
    rw [flows_all ha] at hb; cases hb
  · rw [hidC_vis ha, hidC_vis hb, cell_eq] at h
    exact .inr ⟨rfl, rfl, h⟩
theorem alike_hid {o : Lab} {a b : Arr} (ha : flows a.s o = false) (hb : flows b.s o = false) : hidA o a = hidA o b := by rw [hid_hid ha, hid_hid hb]
theorem alike_vis {o : Lab} {a b : Arr} (h1 : a.s = b.s) (h2 : a.shape = b.shape) (h3 : a.cells.map (hidC o) = b.cells.map (hidC o)) : hidA o a = hidA o b := by rw [hidA_eq, hidA_eq, h1, h2, h3]
theorem alikeC_hid {o : Lab} {a b : Cell} (ha : flows a.l o = false) (hb : flows b.l o = false) : hidC o a = hidC o b := by rw [hidC_hid ha, hidC_hid hb]
theorem alikeC_vis {o : Lab} {a b : Cell} (h1 : a.l = b.l) (h2 : a.kind = b.kind) (h3 : a.c = b.c) (h4 : a.n = b.n) (h5 : a.inn.map (hidA o) = b.inn.map (hidA o)) : hidC o a = hidC o b := by rw [hidC_eq, hidC_eq, h1, h2, h3, h4, h5]
noncomputable def alk (o : Lab) (a b : Arr) : Bool := eqA (hidA o a) (hidA o b)
noncomputable def alkC (o : Lab) (a b : Cell) : Bool := eqC (hidC o a) (hidC o b)
theorem alk_iff {o : Lab} {a b : Arr} : alk o a b = true ↔ hidA o a = hidA o b := eqA_iff
theorem alkC_iff {o : Lab} {a b : Cell} : alkC o a b = true ↔ hidC o a = hidC o b := eqC_iff
theorem alk_any {o : Lab} {a b : Arr} (h : ¬ (flows a.s o = true ∧ flows b.s o = true)) : alk o a b = (flows a.s o == flows b.s o) := by
  rw [Bool.eq_iff_iff, alk_iff, beq_iff_eq]
  constructor
  · intro hh
    rcases alike_cases hh with ⟨h1, h2⟩ | ⟨h1, h2, _⟩
    · rw [h1, h2]
    · exact absurd ⟨h1, h2⟩ h
  · intro hh
    cases ha : flows a.s o with
    | true => exact absurd ⟨ha, hh.symm.trans ha⟩ h
    | false => exact alike_hid ha (hh.symm.trans ha)
theorem alkC_any {o : Lab} {a b : Cell} (h : ¬ (flows a.l o = true ∧ flows b.l o = true)) : alkC o a b = (flows a.l o == flows b.l o) := by
  rw [Bool.eq_iff_iff, alkC_iff, beq_iff_eq]
  constructor
  · intro hh
    rcases alikeC_cases hh with ⟨h1, h2⟩ | ⟨h1, h2, _⟩
    · rw [h1, h2]
    · exact absurd ⟨h1, h2⟩ h
  · intro hh
    cases ha : flows a.l o with
    | true => exact absurd ⟨ha, hh.symm.trans ha⟩ h
    | false => exact alikeC_hid ha (hh.symm.trans ha)
theorem alk_both {o : Lab} {a b : Arr} (ha : flows a.s o = true) : alk o a b = true ↔ (a.s = b.s ∧ a.shape = b.shape ∧ a.cells.map (hidC o) = b.cells.map (hidC o)) := by
  rw [alk_iff]
  constructor
  · intro hh
    rcases alike_cases hh with ⟨h1, h2⟩ | ⟨_, _, h⟩
    · rw [ha] at h1; cases h1
    · exact h
  · exact fun h => alike_vis h.1 h.2.1 h.2.2
theorem alkC_both {o : Lab} {a b : Cell} (ha : flows a.l o = true) : alkC o a b = true ↔ (a.l = b.l ∧ a.kind = b.kind ∧ a.c = b.c ∧ a.n = b.n ∧ a.inn.map (hidA o) = b.inn.map (hidA o)) := by
  rw [alkC_iff]
  constructor
  · intro hh
    rcases alikeC_cases hh with ⟨h1, h2⟩ | ⟨_, _, h⟩
    · rw [ha] at h1; cases h1
    · exact h
  · exact fun h => alikeC_vis h.1 h.2.1 h.2.2.1 h.2.2.2.1 h.2.2.2.2
theorem ref09_Alike_sp (o : Lab) : ∀ (d : Nat) (a b : Arr), Sml d a → Sp 27 [dA a, dA b, dB o] [.bool (alk o a b)]
  | 0, _, _, h => h.elim
  | d + 1, a, b, h => by
    have hcell : ∀ (x y : Cell), SmlC d x → Sp 63 [dC x, dC y, dB o] [.bool (alkC o x y)] := fun x y hx => by
      have hlx := hx.2.2.1
      refine sound_ (x.inn.length + 1) (ref09_cells_tree _ _ _ _) ?_
      simp only [dA_0, dA_1, dA_2, dC_0, dC_1, dC_2, dC_3, dC_4, dN_0, dN_1, dN_2, els_sl, els_dI, els_dL, List.length_map, Int.toNat_natCast, toInt_int, toInt_dB, toBool_bool, getD_c0, getD_c1, int_beq, int_bne, not_dec, dInt_dB, Int.toNat_zero]
      refine wp_call (ref01_Flows_sp x.l o) (wp_br (fun h1 => ?_) (fun h1 => wp_call (ref01_Flows_sp y.l o) (wp_br (fun h2 => ?_) (fun h2 => ?_))))
      · have h1' : flows x.l o = false := by simpa using h1
        refine wp_call (ref01_Flows_sp x.l o) (wp_call (ref01_Flows_sp y.l o) (wp_ret ?_))
        rw [alkC_any (by rw [h1']; simp)]; rfl
      · have h2' : flows y.l o = false := by simpa using h2
        refine wp_call (ref01_Flows_sp x.l o) (wp_call (ref01_Flows_sp y.l o) (wp_ret ?_))
        rw [alkC_any (by rw [h2']; simp)]; rfl
      have h1' : flows x.l o = true := by simpa using h1
      have hb := alkC_both (b := y) h1'
      refine wp_decs (fun h => wp_ret ?_) (fun h3 => wp_decs (fun h => wp_ret ?_) (fun h4 => wp_decs (fun h => wp_ret ?_) (fun h5 => wp_call (ref04_Same_sp x.n y.n hx.fits.1 hx.fits.2.1) ?_)))
      · rw [bool_false (b := alkC o x y) (fun hh => h (by rw [(hb.1 hh).1]))]
      · rw [bool_false (b := alkC o x y) (fun hh => h (hb.1 hh).2.1)]
      · rw [bool_false (b := alkC o x y) (fun hh => h (hb.1 hh).2.2.1)]
      simp only [getD_c0, toBool_bool, not_dec]
      refine wp_decs (fun h => wp_ret ?_) (fun h6 => wp_decs (fun h => wp_ret ?_) (fun h7 => ?_))
      · rw [bool_false (b := alkC o x y) (fun hh => h (hb.1 hh).2.2.2.1)]
      · rw [bool_false (b := alkC o x y) (fun hh => h (by have := congrArg List.length (hb.1 hh).2.2.2.2; simp at this; omega))]
      refine same_loopF (P := Tryz.prog) (md := md) (hidA o) x.inn y.inn (alk o) (fun p _ q => alk_iff) (by omega) (alkC o x y) ?_ (fun m k => ref09_cells_l6 (x.inn.length + 1) m (o.toNat : Int) (k : Int) (dC x) (dC y)) ?_ ?_ (x.inn.length + 1) (by omega)
      · rw [hb]
        exact ⟨fun hh => hh.2.2.2.2, fun hh => ⟨BitVec.eq_of_toNat_eq (by omega), Classical.not_not.1 h4, Classical.not_not.1 h5, Classical.not_not.1 h6, hh⟩⟩
      · intro m Q hQ
        simp only [ref09_cells_l6_succ, dA_0, dA_1, dA_2, dC_0, dC_1, dC_2, dC_3, dC_4, dN_0, dN_1, dN_2, els_sl, els_dI, els_dL, List.length_map, Int.toNat_natCast, toInt_int, toInt_dB, toBool_bool, getD_c0, getD_c1, int_beq, int_bne, not_dec, dInt_dB, Int.toNat_zero]
        exact wp_ndec (by omega) (wp_ret hQ)
      · intro m k p q Q hp hq hF hT
        have hk : k < x.inn.length := (List.getElem?_eq_some_iff.1 hp).1
        simp only [ref09_cells_l6_succ, dA_0, dA_1, dA_2, dC_0, dC_1, dC_2, dC_3, dC_4, dN_0, dN_1, dN_2, els_sl, els_dI, els_dL, List.length_map, Int.toNat_natCast, toInt_int, toInt_dB, toBool_bool, getD_c0, getD_c1, int_beq, int_bne, not_dec, dInt_dB, Int.toNat_zero, getD_map hp, getD_map hq, wrap_succ (show k < 9223372036854775807 by omega)]
        repeat (refine wp_dec (by omega) ?_)
        refine wp_call (ref09_Alike_sp o d p q (hx.2.2.2 p (List.mem_of_getElem? hp))) ?_
        simp only [getD_c0, toBool_bool]
        exact wp_br (fun h => wp_ret (hF (by simpa using h))) (fun h => hT (by simpa using h))
    have hla := h.2.1
    refine sound_ (a.cells.length + 1) (ref09_Alike_tree _ _ _ _) ?_
    simp only [dA_0, dA_1, dA_2, dC_0, dC_1, dC_2, dC_3, dC_4, dN_0, dN_1, dN_2, els_sl, els_dI, els_dL, List.length_map, Int.toNat_natCast, toInt_int, toInt_dB, toBool_bool, getD_c0, getD_c1, int_beq, int_bne, not_dec, dInt_dB, Int.toNat_zero]
    refine wp_call (ref01_Flows_sp a.s o) (wp_br (fun h1 => ?_) (fun h1 => wp_call (ref01_Flows_sp b.s o) (wp_br (fun h2 => ?_) (fun h2 => ?_))))
    · have h1' : flows a.s o = false := by simpa using h1
      refine wp_call (ref01_Flows_sp a.s o) (wp_call (ref01_Flows_sp b.s o) (wp_ret ?_))
      rw [alk_any (by rw [h1']; simp)]; rfl
    · have h2' : flows b.s o = false := by simpa using h2
      refine wp_call (ref01_Flows_sp a.s o) (wp_call (ref01_Flows_sp b.s o) (wp_ret ?_))
      rw [alk_any (by rw [h2']; simp)]; rfl
    have h1' : flows a.s o = true := by simpa using h1
    have hb := alk_both (b := b) h1'
    refine wp_decs (fun h => wp_ret ?_) (fun h3 => wp_call (ref07_Ints_sp a.shape b.shape (by have := h.1; omega)) ?_)
    · rw [bool_false (b := alk o a b) (fun hh => h (by rw [(hb.1 hh).1]))]
    simp only [getD_c0, toBool_bool, not_dec]
    refine wp_decs (fun h => wp_ret ?_) (fun h4 => wp_decs (fun h => wp_ret ?_) (fun h5 => ?_))
    · rw [bool_false (b := alk o a b) (fun hh => h (hb.1 hh).2.1)]
    · rw [bool_false (b := alk o a b) (fun hh => h (by have := congrArg List.length (hb.1 hh).2.2; simp at this; omega))]
    refine same_loopF (P := Tryz.prog) (md := md) (hidC o) a.cells b.cells (alkC o) (fun p _ q => alkC_iff) (by omega) (alk o a b) ?_ (fun m k => ref09_Alike_l6 (a.cells.length + 1) m (o.toNat : Int) (k : Int) (dA a) (dA b)) ?_ ?_ (a.cells.length + 1) (by omega)
    · rw [hb]
      exact ⟨fun hh => hh.2.2, fun hh => ⟨BitVec.eq_of_toNat_eq (by omega), Classical.not_not.1 h4, hh⟩⟩
    · intro m Q hQ
      simp only [ref09_Alike_l6_succ, dA_0, dA_1, dA_2, dC_0, dC_1, dC_2, dC_3, dC_4, dN_0, dN_1, dN_2, els_sl, els_dI, els_dL, List.length_map, Int.toNat_natCast, toInt_int, toInt_dB, toBool_bool, getD_c0, getD_c1, int_beq, int_bne, not_dec, dInt_dB, Int.toNat_zero]
      exact wp_ndec (by omega) (wp_ret hQ)
    · intro m k p q Q hp hq hF hT
      have hk : k < a.cells.length := (List.getElem?_eq_some_iff.1 hp).1
      simp only [ref09_Alike_l6_succ, dA_0, dA_1, dA_2, dC_0, dC_1, dC_2, dC_3, dC_4, dN_0, dN_1, dN_2, els_sl, els_dI, els_dL, List.length_map, Int.toNat_natCast, toInt_int, toInt_dB, toBool_bool, getD_c0, getD_c1, int_beq, int_bne, not_dec, dInt_dB, Int.toNat_zero, getD_map hp, getD_map hq, wrap_succ (show k < 9223372036854775807 by omega)]
      repeat (refine wp_dec (by omega) ?_)
      refine wp_call (hcell p q (h.cell p (List.mem_of_getElem? hp))) ?_
      simp only [getD_c0, toBool_bool]
      exact wp_br (fun h => wp_ret (hF (by simpa using h))) (fun h => hT (by simpa using h))
/-- All labels joined. -/
theorem totAs_or (as_ : List Arr) (x y : Lab) : as_.foldl (fun l a => l ||| totA a) (x ||| y) = x ||| as_.foldl (fun l a => l ||| totA a) y := by
  induction as_ generalizing y with
  | nil => rfl
  | cons a as_ ih => simp only [List.foldl_cons]; rw [BitVec.or_assoc, ih]
theorem totC_or (x y : Lab) (c : Cell) : totC (x ||| y) c = x ||| totC y c := by rw [totC_eq, totC_eq, BitVec.or_assoc, totAs_or]
theorem totCs_or (cs : List Cell) (x y : Lab) : cs.foldl totC (x ||| y) = x ||| cs.foldl totC y := by
  induction cs generalizing y with
  | nil => rfl
  | cons c cs ih => simp only [List.foldl_cons]; rw [totC_or, ih]
theorem totA_raise (a : Arr) (l : Lab) : totA (raiseA a l) = l ||| totA a := by rw [totA_eq, totA_eq]; show a.cells.foldl totC (a.s ||| l) = _; rw [BitVec.or_comm, totCs_or]
theorem flows_foldA {o : Lab} : ∀ {as_ : List Arr} {x : Lab}, flows (as_.foldl (fun l a => l ||| totA a) x) o = true ↔ (flows x o = true ∧ ∀ a ∈ as_, flows (totA a) o = true)
  | [], x => by simp
  | a :: as_, x => by
    simp only [List.foldl_cons]
    rw [flows_foldA, flows_or, Bool.and_eq_true]
    simp only [List.mem_cons, forall_eq_or_imp]
    exact and_assoc
theorem flows_totC {o x : Lab} {c : Cell} : flows (totC x c) o = true ↔ (flows x o = true ∧ flows c.l o = true ∧ ∀ a ∈ c.inn, flows (totA a) o = true) := by
  rw [totC_eq, flows_foldA, flows_or, Bool.and_eq_true]; exact and_assoc
theorem flows_foldC {o : Lab} : ∀ {cs : List Cell} {x : Lab}, flows (cs.foldl totC x) o = true ↔ (flows x o = true ∧ ∀ c ∈ cs, flows c.l o = true ∧ ∀ a ∈ c.inn, flows (totA a) o = true)
  | [], x => by simp
  | c :: cs, x => by
    simp only [List.foldl_cons]
    rw [flows_foldC, flows_totC]
    simp only [List.mem_cons, forall_eq_or_imp]
    exact ⟨fun h => ⟨h.1.1, h.1.2, h.2⟩, fun h => ⟨⟨h.1, h.2.1⟩, h.2.2⟩⟩
theorem flows_totA {o : Lab} {a : Arr} : flows (totA a) o = true ↔ (flows a.s o = true ∧ ∀ c ∈ a.cells, flows c.l o = true ∧ ∀ x ∈ c.inn, flows (totA x) o = true) := by rw [totA_eq, flows_foldC]
/-- Where all is seen, nothing is hidden. -/
theorem hid_total {o : Lab} {a : Arr} : flows (totA a) o = true → hidA o a = a := by
  induction a using Arr.ind with
  | h s sh cs IH =>
    intro h
    obtain ⟨h1, h2⟩ := flows_totA.1 h
    rw [hid_vis h1]
    have : cs.map (hidC o) = cs := by
      conv => rhs; rw [← List.map_id cs]
      refine List.map_congr_left (fun c hc => ?_)
      obtain ⟨g1, g2⟩ := h2 c hc
      rw [hidC_vis g1]
      have : c.inn.map (hidA o) = c.inn := by
        conv => rhs; rw [← List.map_id c.inn]
        exact List.map_congr_left (fun x hx => IH c hc x hx (g2 x hx))
      rw [this]; rfl
    show Arr.mk s sh (cs.map (hidC o)) = _
    rw [this]
theorem total_hid {o : Lab} {a : Arr} : flows (totA (hidA o a)) o = true → hidA o a = a := by
  induction a using Arr.ind with
  | h s sh cs IH =>
    intro h
    cases hs : flows (Arr.mk s sh cs).s o with
    | false =>
      rw [hid_hid hs] at h
      have := flows_all (flows_totA.1 h).1 (Arr.mk s sh cs).s
      rw [hs] at this; cases this
    | true =>
      rw [hid_vis hs] at h ⊢
      obtain ⟨_, h2⟩ := flows_totA.1 h
      have : cs.map (hidC o) = cs := by
        conv => rhs; rw [← List.map_id cs]
        refine List.map_congr_left (fun c hc => ?_)
        obtain ⟨g1, g2⟩ := h2 (hidC o c) (List.mem_map.2 ⟨c, hc, rfl⟩)
        cases hl : flows c.l o with
        | false =>
          rw [hidC_hid hl] at g1
          have := flows_all g1 c.l
          rw [hl] at this; cases this
        | true =>
          rw [hidC_vis hl] at g2 ⊢
          have : c.inn.map (hidA o) = c.inn := by
            conv => rhs; rw [← List.map_id c.inn]
            exact List.map_congr_left (fun x hx => IH c hc x hx (g2 (hidA o x) (List.mem_map.2 ⟨x, hx, rfl⟩)))
          rw [this]; rfl
      show Arr.mk s sh (cs.map (hidC o)) = _
      rw [this]
/-- Alike, and all seen: the same. -/
theorem alike_total {o : Lab} {a b : Arr} (h : hidA o a = hidA o b) (ht : flows (totA a) o = true) : a = b := by
  have h1 := hid_total ht
  rw [h1] at h
  rw [h] at ht
  rw [h]; exact total_hid ht
theorem alike_totals {o : Lab} {a b : Arr} (h : hidA o a = hidA o b) : a = b ∨ (flows (totA a) o = false ∧ flows (totA b) o = false) := by
  cases ha : flows (totA a) o with
  | true => exact .inl (alike_total h ha)
  | false =>
    cases hb : flows (totA b) o with
    | true => exact .inl (alike_total h.symm hb).symm
    | false => exact .inr ⟨rfl, rfl⟩
theorem raise_alike {o l : Lab} {a b : Arr} (h : hidA o a = hidA o b) : hidA o (raiseA a l) = hidA o (raiseA b l) := by
  rcases alike_cases h with ⟨h1, h2⟩ | ⟨h1, h2, h3, h4, h5⟩
  · exact alike_hid (by show flows (a.s ||| l) o = false; rw [flows_or, h1]; rfl) (by show flows (b.s ||| l) o = false; rw [flows_or, h2]; rfl)
  · exact alike_vis (by show a.s ||| l = b.s ||| l; rw [h3]) h4 h5
theorem raise_hid {o l : Lab} {a b : Arr} {m : Lab} (h1 : flows l o = false) (h2 : flows m o = false) : hidA o (raiseA a l) = hidA o (raiseA b m) :=
  alike_hid (by show flows (a.s ||| l) o = false; rw [flows_or, h1, Bool.and_false]) (by show flows (b.s ||| m) o = false; rw [flows_or, h2, Bool.and_false])
theorem unpC_alike {o : Lab} {c d : Cell} (h : hidC o c = hidC o d) : hidA o (unpC c) = hidA o (unpC d) := by
  rcases alikeC_cases h with ⟨h1, h2⟩ | ⟨h1, h2, h3, h4, h5, h6, h7⟩
  · have hu : ∀ x : Cell, flows x.l o = false → flows (unpC x).s o = false := fun x hx => by
      unfold unpC
      split
      · split
        · show flows (_ ||| x.l) o = false; rw [flows_or, hx, Bool.and_false]
        · exact hx
      · exact hx
    exact alike_hid (hu c h1) (hu d h2)
  · have hl : c.inn.length = d.inn.length := by have := congrArg List.length h7; simpa using this
    by_cases hb : c.kind = 2 ∧ c.inn.length = 1
    · obtain ⟨x, hx⟩ := len_one hb.2
      obtain ⟨y, hy⟩ := len_one (hl ▸ hb.2)
      rw [unpC_pos hb.1 hx, unpC_pos (h4 ▸ hb.1) hy, h3]
      rw [hx, hy] at h7
      exact raise_alike (by simpa using h7)
    · rw [unpC_neg hb, unpC_neg (by rw [← h4, ← hl]; exact hb)]
      exact alike_vis h3 rfl (by simpa using h)
end Go.Proofs.YtbgcadcpeabpgaaGreat
set_option maxRecDepth 100000
namespace Go.Proofs.YtbgcadcpeabpgaaGreat

theorem intsCs_vec : ∀ {l : List Int}, (∀ x ∈ l, inR x) → intsCs (l.map intC) = some l
  | [], _ => rfl
  | x :: xs, h => by
    simp only [List.map_cons, intsCs]
    rw [if_pos (show (intC x).kind = 0 from rfl), show (intC x).n = ofZ x from rfl, smallN_ofZ (h x (by simp)), intsCs_vec (fun y hy => h y (by simp [hy]))]
    rfl
theorem totA_vec (l : List Int) (s : Lab) : totA (vecA l s) = s := by
  rw [totA_eq]
  unfold vecA
  simp only [Arr.cells_mk, Arr.s_mk]
  induction l with
  | nil => rfl
  | cons x xs ih =>
    rw [List.map_cons, List.foldl_cons, totC_eq]
    have e0 : s ||| (0 : Lab) = s := by simp
    rw [show (intC x).inn = [] from rfl, show (intC x).l = 0 from rfl, e0, List.foldl_nil]
    exact ih
theorem reshA_fits {n a : Arr} (ha : Fits a) : Fits (reshA n a).1 := by
  unfold reshA
  split
  · split
    · rename_i h1 h2
      have h3 := countS_len h2
      have h4 := countS_le (intsA n).1
      refine Fits.of (by omega) (by rw [cyc_len]; omega) (fun x hx => inR_small (by have := h3.2 x hx; omega) (by have := h3.2 x hx; omega)) (fun c hc => ?_)
      rcases cyc_mem hc with h | rfl
      · exact ha.cell c h
      · exact fitsC_int inR0
    · exact fits_none
  · exact fits_none
theorem reshA_right {n a : Arr} {d : Nat} (ha : ∀ c ∈ a.cells, rightC d c = true) (h : (reshA n a).2 = 0) : rightA d (reshA n a).1 = true := by
  unfold reshA at h ⊢
  split at h
  · rename_i h1
    rw [if_pos h1]
    split at h
    · rename_i h2
      rw [if_pos h2]
      have h4 := countS_le (intsA n).1
      refine rightA_of ?_ ?_
      · simp only [Arr.shape_mk, Arr.cells_mk, cyc_len]
        exact Prod.ext (by simp only; omega) h2
      · intro c hc
        rcases cyc_mem hc with h | rfl
        · exact ha c h
        · exact rightC_int d inR0
    · rename_i h2; exact absurd h h2
  · rename_i h1; exact absurd h h1
theorem aw_in (l : List Int) (h : l.all (fun x => decide (-100000 ≤ x ∧ x ≤ 100000)) = true) : ∀ x ∈ l, inR x := fun x hx => by
  have := of_decide_eq_true (List.all_eq_true.1 h x hx)
  exact inR_small this.1 this.2
end Go.Proofs.YtbgcadcpeabpgaaGreat
