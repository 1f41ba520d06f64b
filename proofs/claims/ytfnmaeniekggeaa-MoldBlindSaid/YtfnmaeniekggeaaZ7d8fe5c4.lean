/- Proved: lemmas for the law of this folder, part 5. No condition. -/
import Derived.Test.YtfnmaeniekggeaaRows
import Derived.WalkKit
import Derived.WalkSpells
import Derived.WalkLawsBesides
import Derived.Lib.Hide
import Derived.Laws.CopyOwn
import Derived.Deep.QuietTactic
import Derived.BigQuiet
import Derived.Orders
import Derived.Defers
import Derived.Recover
import Derived.Test.YtfnmaeniekggeaaProg
import Derived.KernelRfl
import Derived.ProofKit
import Derived.OpenShut
import Derived.Test.YtfnmaeniekggeaaZ954b3f9e
set_option linter.unusedSimpArgs false
set_option linter.unusedVariables false
set_option maxRecDepth 100000
namespace Go.Proofs.Ytfnmaeniekggeaa

theorem bigFuel : ∃ N : Nat, 9223372036854775808 < N := ⟨9223372036854775809, by decide⟩
/-- A loop along a list, whatever is told at its end. -/
theorem loop_any {α σ : Type} {P : Program} {md : Nat → FMode} {Q : List D → Prop} (xs : List α) (L : Nat → Nat → σ → Tree) (I : List α → σ → Prop)
    (hnil : ∀ m k s, k = xs.length → I [] s → (L (m + 1) k s).wp P md Q)
    (hcons : ∀ m k s x rest, xs.drop k = x :: rest → I (x :: rest) s → (∀ s', I rest s' → (L m (k + 1) s').wp P md Q) → (L (m + 1) k s).wp P md Q) :
    ∀ m k s, xs.length - k < m → k ≤ xs.length → I (xs.drop k) s → (L m k s).wp P md Q := by
  intro m
  induction m with
  | zero => intro k s h; omega
  | succ m ih =>
    intro k s h1 h2 hI
    cases hd : xs.drop k with
    | nil => rw [hd] at hI; exact hnil m k s (by have := drop_nil hd; omega) hI
    | cons x rest =>
      rw [hd] at hI
      obtain ⟨a1, a2, a3⟩ := drop_cons hd
      exact hcons m k s x rest hd hI (fun s' hI' => ih (k + 1) s' (by omega) (by omega) (by rw [a3]; exact hI'))
/-- The product of lengths; 0 if it is too great. -/
def prodS : List Int → Int → Int
  | [], p => p
  | x :: xs, p => if 2048 < p * x then 0 else prodS xs (p * x)
/-- How many cells; an error. -/
def countS (l : List Int) : Int × Int :=
  if 6 < l.length then (0, 7) else if l.any (fun x => decide (x < 0)) then (0, 3) else if l.any (fun x => decide (2048 < x)) then (0, 7)
  else if l.any (fun x => decide (x = 0)) then (0, 0) else if prodS l 1 = 0 then (0, 7) else (prodS l 1, 0)
theorem prod_le {x y : Int} (h1 : 1 ≤ x) (h2 : x ≤ 2048) (h3 : 1 ≤ y) (h4 : y ≤ 2048) : 1 ≤ x * y ∧ x * y ≤ 4194304 := by
  constructor
  · have := Int.mul_le_mul h1 h3 (by omega) (by omega); omega
  · have := Int.mul_le_mul h2 h4 (by omega) (by omega); omega
theorem prodS_pos : ∀ (l : List Int) (p : Int), 1 ≤ p → p ≤ 2048 → (∀ x ∈ l, 1 ≤ x ∧ x ≤ 2048) → 0 ≤ prodS l p ∧ prodS l p ≤ 2048
  | [], p, h1, h2, _ => by simp only [prodS]; omega
  | x :: xs, p, h1, h2, h => by
    simp only [prodS]
    have hx := h x (by simp)
    have := prod_le h1 h2 hx.1 hx.2
    split
    · omega
    · exact prodS_pos xs (p * x) this.1 (by omega) (fun y hy => h y (by simp [hy]))
theorem any_false {l : List Int} {p : Int → Bool} (h : ¬ l.any p = true) : ∀ x ∈ l, p x = false := fun x hx => by
  cases hp : p x with
  | false => rfl
  | true => exact absurd (List.any_eq_true.2 ⟨x, hx, hp⟩) h
theorem count_pos {l : List Int} (h1 : ¬ l.any (fun x => decide (x < 0)) = true) (h2 : ¬ l.any (fun x => decide (2048 < x)) = true) (h3 : ¬ l.any (fun x => decide (x = 0)) = true) : ∀ x ∈ l, 1 ≤ x ∧ x ≤ 2048 := fun x hx => by
  have a := of_decide_eq_false (any_false h1 x hx)
  have b := of_decide_eq_false (any_false h2 x hx)
  have c := of_decide_eq_false (any_false h3 x hx)
  omega
theorem countS_le (l : List Int) : 0 ≤ (countS l).1 ∧ (countS l).1 ≤ 2048 := by
  unfold countS
  split
  · decide
  split
  · decide
  split
  · decide
  split
  · decide
  split
  · decide
  · rename_i h1 h2 h3 h4 _; exact prodS_pos l 1 (by decide) (by decide) (count_pos h2 h3 h4)
theorem countS_len {l : List Int} (h : (countS l).2 = 0) : l.length ≤ 6 ∧ ∀ x ∈ l, 0 ≤ x ∧ x ≤ 2048 := by
  unfold countS at h
  split at h
  · cases h
  split at h
  · cases h
  split at h
  · cases h
  · rename_i h1 h2 h3
    refine ⟨by omega, fun x hx => ?_⟩
    have a := of_decide_eq_false (any_false h2 x hx)
    have b := of_decide_eq_false (any_false h3 x hx)
    omega
/-- The first place of one that is asked for. -/
def idxD (p : Int → Bool) : Nat → List Int → Int
  | _, [] => -1
  | k, x :: xs => if p x then (k : Int) else idxD p (k + 1) xs
def cpD (p : Int) : List D := if p = 0 then [.int 0, .int 7] else [.int p, .int 0]
theorem prodS_cons (x : Int) (xs : List Int) (p : Int) : prodS (x :: xs) p = if 2048 < p * x then 0 else prodS xs (p * x) := rfl
theorem idxD_cons (p : Int → Bool) (k : Nat) (x : Int) (xs : List Int) : idxD p k (x :: xs) = if p x then (k : Int) else idxD p (k + 1) xs := rfl
theorem ref07_Count2 (N : Nat) (l : List Int) (hl : l.length < N) (hb : l.length ≤ 6) (hx : ∀ x ∈ l, 1 ≤ x ∧ x ≤ 2048) : Tw (ref07_Count_l17 N N (dI l) 1 0) (cpD (prodS l 1)) := by
  have key := loop_list (P := Try.prog) (md := md) l (fun m k (p : Int) => ref07_Count_l17 N m (dI l) p (k : Int)) (fun rest p => cpD (prodS rest p)) (fun _ p => 1 ≤ p ∧ p ≤ 2048)
    (fun m k p hk hI => by
      simp only [ref07_Count_l17_succ, els_dI, List.length_map]
      refine wp_ndec (by omega) (wp_ret ?_)
      show _ = cpD p
      rw [cpD, if_neg (by omega)])
    (fun m k p x rest hd hI ih => by
      obtain ⟨h1, h2, h3⟩ := drop_cons hd
      have hxx := hx x (List.mem_of_getElem? h2)
      have hp := prod_le hI.1 hI.2 hxx.1 hxx.2
      simp only [ref07_Count_l17_succ, els_dI, List.length_map, Int.toNat_natCast, getD_map h2, toInt_int, wrap_succ (show k < 9223372036854775807 by omega), wrap64 (x := p * x) (by omega) (by omega)]
      repeat (refine wp_dec (by omega) ?_)
      rw [prodS_cons]
      refine wp_decs (fun h => wp_ret ?_) (fun h => ?_)
      · rw [if_pos h]; rfl
      · rw [if_neg h]; exact ih _ ⟨hp.1, by omega⟩)
    N 0 1 (by omega) (by omega) (by decide)
  exact key
theorem ref07_Count_sp (l : List Int) : Sp 71 [dI l] [.int (countS l).1, .int (countS l).2] := by
  refine sound_ (l.length + 1) (ref07_Count_tree _ _) ?_
  simp only [els_dI, List.length_map]
  unfold countS
  refine wp_decs (fun h => wp_ret ?_) (fun h => ?_)
  · rw [if_pos (by omega)]
  · rw [if_neg (by omega)]
    have key := loop_list (P := Try.prog) (md := md) l (fun m k (s : Bool × Bool) => ref07_Count_l5 (l.length + 1) m (dI l) s.1 s.2 (k : Int))
      (fun rest s => if rest.any (fun x => decide (x < 0)) then [.int 0, .int 3] else if s.1 || rest.any (fun x => decide (2048 < x)) then [.int 0, .int 7] else if s.2 || rest.any (fun x => decide (x = 0)) then [.int 0, .int 0] else cpD (prodS l 1))
      (fun rest s => (∀ x ∈ l, (0 ≤ x ∧ (s.1 = true ∨ x ≤ 2048) ∧ (s.2 = true ∨ x ≠ 0)) ∨ x ∈ rest))
      (fun m k s hk hI => by
        simp only [ref07_Count_l5_succ, els_dI, List.length_map]
        refine wp_ndec (by omega) (wp_br (fun h1 => wp_ret ?_) (fun h1 => wp_br (fun h2 => wp_ret ?_) (fun h2 => ?_)))
        · simp [h1]
        · simp [h1, h2]
        · simp only [h1, h2, List.any_nil, Bool.or_self, Bool.false_eq_true, if_false]
          refine ref07_Count2 (l.length + 1) l (by omega) (by omega) (fun x hx => ?_)
          rcases hI x hx with ⟨a, b, c⟩ | b
          · rw [h1] at b; rw [h2] at c
            simp at b c
            omega
          · cases b)
      (fun m k s x rest hd hI ih => by
        obtain ⟨h1, h2, h3⟩ := drop_cons hd
        simp only [ref07_Count_l5_succ, els_dI, List.length_map, Int.toNat_natCast, getD_map h2, toInt_int, wrap_succ (show k < 9223372036854775807 by omega), int_beq]
        repeat (refine wp_dec (by omega) ?_)
        refine wp_decs (fun h => wp_ret ?_) (fun h => ?_)
        · simp [h]
        · have hih : ∀ s' : Bool × Bool, s' = (s.1 || decide (2048 < x), s.2 || decide (x = 0)) → Tw (ref07_Count_l5 (l.length + 1) m (dI l) s'.1 s'.2 ((k + 1 : Nat) : Int)) (if (x :: rest).any (fun x => decide (x < 0)) then [.int 0, .int 3] else if s.1 || (x :: rest).any (fun x => decide (2048 < x)) then [.int 0, .int 7] else if s.2 || (x :: rest).any (fun x => decide (x = 0)) then [.int 0, .int 0] else cpD (prodS l 1)) := fun s' hs' => by
            have := ih s' (fun y hy => by
              subst hs'
              rcases hI y hy with ⟨a, b, c⟩ | b
              · refine .inl ⟨a, ?_, ?_⟩
                · rcases b with b | b
                  · left; simp [b]
                  · right; exact b
                · rcases c with b | b
                  · left; simp [b]
                  · right; exact b
              · rcases List.mem_cons.1 b with rfl | b
                · left
                  refine ⟨by omega, ?_, ?_⟩
                  · by_cases hh : 2048 < y
                    · left; simp [hh]
                    · right; omega
                  · by_cases hh : y = 0
                    · left; simp [hh]
                    · right; exact hh
                · exact .inr b)
            subst hs'
            rw [List.any_cons, List.any_cons, List.any_cons, decide_eq_false h, Bool.false_or, ← Bool.or_assoc, ← Bool.or_assoc]
            exact this
          refine wp_br (fun b1 => wp_br (fun b2 => ?_) (fun b2 => ?_)) (fun b1 => ?_)
          · exact hih (true, true) (by simp [b1, b2])
          · repeat (refine wp_dec (by omega) ?_)
            exact hih (true, decide (x = 0)) (by simp [b1, b2])
          · repeat (refine wp_dec (by omega) ?_)
            refine wp_br (fun b2 => ?_) (fun b2 => ?_)
            · exact hih (decide (2048 < x), true) (by simp [b1, b2])
            · repeat (refine wp_dec (by omega) ?_)
              exact hih (decide (2048 < x), decide (x = 0)) (by simp [b1, b2]))
      (l.length + 1) 0 (false, false) (by omega) (by omega) (fun x hx => .inr hx)
    have e : (fun (c : Int × Int) => [D.int c.1, D.int c.2]) (if l.any (fun x => decide (x < 0)) then (0, 3) else if l.any (fun x => decide (2048 < x)) then (0, 7)
      else if l.any (fun x => decide (x = 0)) then (0, 0) else if prodS l 1 = 0 then (0, 7) else (prodS l 1, 0)) = (if l.any (fun x => decide (x < 0)) then [.int 0, .int 3] else if false || l.any (fun x => decide (2048 < x)) then [.int 0, .int 7] else if false || l.any (fun x => decide (x = 0)) then [.int 0, .int 0] else cpD (prodS l 1)) := by
      simp only [Bool.false_or]
      split
      · rfl
      split
      · rfl
      split
      · rfl
      show _ = cpD _
      unfold cpD
      split <;> rfl
    show Tw _ ((fun (c : Int × Int) => [D.int c.1, D.int c.2]) _)
    rw [e]
    exact key
theorem idxD_any (p : Int → Bool) : ∀ (l : List Int) (k : Nat), decide (0 ≤ idxD p k l) = l.any p
  | [], k => by simp [idxD]
  | x :: xs, k => by
    rw [idxD_cons, List.any_cons]
    by_cases hp : p x = true
    · rw [if_pos hp]; simp [hp]
    · rw [if_neg hp, idxD_any p xs (k + 1)]; simp [hp]
theorem Count1_sp (x : Int) : Sp 96 [.int x] [.bool (decide (x < 0))] := sound_ 0 (shape_Count_1_tree _ _) (wp_ret rfl)
theorem Count2_sp (x : Int) : Sp 97 [.int x] [.bool (decide (2048 < x))] := sound_ 0 (shape_Count_2_tree _ _) (wp_ret rfl)
theorem Contains1_sp (l : List Int) (hb : l.length ≤ 6) : Sp 95 [dI l, D.fn 96 [] []] [.bool (l.any (fun x => decide (x < 0)))] := by
  refine sound_ 0 (slices_ContainsFunc_int_int_tree_shape_Count_1 _ _) (wp_call (ys := [.int (idxD (fun x => decide (x < 0)) 0 l)]) ?_ (wp_ret ?_))
  · refine sound_ (l.length + 1) (slices_IndexFunc_int_int_tree_shape_Count_1 _ _) ?_
    have key := loop_list (P := Try.prog) (md := md) l (fun m k (_ : Unit) => slices_IndexFunc_int_int_l2 (l.length + 1) m (dI l) (D.fn 96 [] []) (l.length : Int) (k : Int)) (fun rest _ => [.int (idxD (fun x => decide (x < 0)) (l.length - rest.length) rest)]) (fun _ _ => True)
      (fun m k p hk hI => by
        simp only [slices_IndexFunc_int_int_l2_succ_shape_Count_1]
        refine wp_ndec (by omega) (wp_ret ?_)
        simp [idxD])
      (fun m k p x rest hd hI ih => by
        obtain ⟨h1, h2, h3⟩ := drop_cons hd
        have hle := congrArg List.length hd; rw [List.length_drop, List.length_cons] at hle; have hk : l.length - (x :: rest).length = k := by rw [List.length_cons]; omega
        have hk' : l.length - rest.length = k + 1 := by omega
        simp only [slices_IndexFunc_int_int_l2_succ_shape_Count_1, els_dI, List.length_map, Int.toNat_natCast, getD_map h2, toInt_int, wrap_succ (show k < 9223372036854775807 by omega), fnId_fn, fnCts_fn, fnDs_fn, List.append_nil]
        repeat (refine wp_dec (by omega) ?_)
        refine wp_call (Count1_sp x) ?_
        simp only [getD_c0, toBool_bool, idxD, hk]
        refine wp_decs (fun h => wp_ret ?_) (fun h => ?_)
        · simp [h]
        · have := ih () trivial
          rw [hk'] at this
          simpa [h] using this)
      (l.length + 1) 0 () (by omega) (by omega) trivial
    simpa using key
  · exact congrArg (fun b => [D.bool b]) (idxD_any _ l 0)
theorem Contains2_sp (l : List Int) (hb : l.length ≤ 6) : Sp 95 [dI l, D.fn 97 [] []] [.bool (l.any (fun x => decide (2048 < x)))] := by
  refine sound_ 0 (slices_ContainsFunc_int_int_tree_shape_Count_2 _ _) (wp_call (ys := [.int (idxD (fun x => decide (2048 < x)) 0 l)]) ?_ (wp_ret ?_))
  · refine sound_ (l.length + 1) (slices_IndexFunc_int_int_tree_shape_Count_2 _ _) ?_
    have key := loop_list (P := Try.prog) (md := md) l (fun m k (_ : Unit) => slices_IndexFunc_int_int_l2 (l.length + 1) m (dI l) (D.fn 97 [] []) (l.length : Int) (k : Int)) (fun rest _ => [.int (idxD (fun x => decide (2048 < x)) (l.length - rest.length) rest)]) (fun _ _ => True)
      (fun m k p hk hI => by
        simp only [slices_IndexFunc_int_int_l2_succ_shape_Count_2]
        refine wp_ndec (by omega) (wp_ret ?_)
        simp [idxD])
      (fun m k p x rest hd hI ih => by
        obtain ⟨h1, h2, h3⟩ := drop_cons hd
        have hle := congrArg List.length hd; rw [List.length_drop, List.length_cons] at hle; have hk : l.length - (x :: rest).length = k := by rw [List.length_cons]; omega
        have hk' : l.length - rest.length = k + 1 := by omega
        simp only [slices_IndexFunc_int_int_l2_succ_shape_Count_2, els_dI, List.length_map, Int.toNat_natCast, getD_map h2, toInt_int, wrap_succ (show k < 9223372036854775807 by omega), fnId_fn, fnCts_fn, fnDs_fn, List.append_nil]
        repeat (refine wp_dec (by omega) ?_)
        refine wp_call (Count2_sp x) ?_
        simp only [getD_c0, toBool_bool, idxD, hk]
        refine wp_decs (fun h => wp_ret ?_) (fun h => ?_)
        · simp [h]
        · have := ih () trivial
          rw [hk'] at this
          simpa [h] using this)
      (l.length + 1) 0 () (by omega) (by omega) trivial
    simpa using key
  · exact congrArg (fun b => [D.bool b]) (idxD_any _ l 0)
theorem slices_Contains_sp (l : List Int) (v : Int) (hb : l.length ≤ 9223372036854775807) : Sp 98 [dI l, .int v] [.bool (l.any (fun x => decide (x = v)))] := by
  refine sound_ 0 (slices_Contains_int_int_tree _ _ _) (wp_call (ys := [.int (idxD (fun x => decide (x = v)) 0 l)]) ?_ (wp_ret ?_))
  · refine sound_ (l.length + 1) (slices_Index_int_int_tree _ _ _) ?_
    have key := loop_list (P := Try.prog) (md := md) l (fun m k (_ : Unit) => slices_Index_int_int_l2 (l.length + 1) m (dI l) v (l.length : Int) (k : Int)) (fun rest _ => [.int (idxD (fun x => decide (x = v)) (l.length - rest.length) rest)]) (fun _ _ => True)
      (fun m k p hk hI => by
        simp only [slices_Index_int_int_l2_succ]
        refine wp_ndec (by omega) (wp_ret ?_)
        simp [idxD])
      (fun m k p x rest hd hI ih => by
        obtain ⟨h1, h2, h3⟩ := drop_cons hd
        have hle := congrArg List.length hd; rw [List.length_drop, List.length_cons] at hle; have hk : l.length - (x :: rest).length = k := by rw [List.length_cons]; omega
        have hk' : l.length - rest.length = k + 1 := by omega
        simp only [slices_Index_int_int_l2_succ, els_dI, List.length_map, Int.toNat_natCast, getD_map h2, toInt_int, wrap_succ (show k < 9223372036854775807 by omega), int_beq]
        repeat (refine wp_dec (by omega) ?_)
        simp only [idxD, hk]
        refine wp_decs (fun h => wp_ret ?_) (fun h => ?_)
        · simp [h]
        · have := ih () trivial
          rw [hk'] at this
          simpa [show ¬ x = v from fun e => h e.symm] using this)
      (l.length + 1) 0 () (by omega) (by omega) trivial
    simpa using key
  · exact congrArg (fun b => [D.bool b]) (idxD_any _ l 0)
theorem shape_product_sp (l : List Int) (hb : l.length ≤ 6) (hx : ∀ x ∈ l, 1 ≤ x ∧ x ≤ 2048) : Sp 99 [dI l] [.int (prodS l 1)] := by
  refine sound_ (l.length + 1) (shape_product_tree _ _) ?_
  have key := loop_list (P := Try.prog) (md := md) l (fun m k (p : Int) => shape_product_l3 (l.length + 1) m p (dI l) (l.length : Int) (k : Int)) (fun rest p => [.int (prodS rest p)]) (fun _ p => 1 ≤ p ∧ p ≤ 2048)
    (fun m k p hk hI => by
      simp only [shape_product_l3_succ]
      exact wp_ndec (by omega) (wp_ret rfl))
    (fun m k p x rest hd hI ih => by
      obtain ⟨h1, h2, h3⟩ := drop_cons hd
      have hxx := hx x (List.mem_of_getElem? h2)
      have hp := prod_le hI.1 hI.2 hxx.1 hxx.2
      simp only [shape_product_l3_succ, els_dI, List.length_map, Int.toNat_natCast, getD_map h2, toInt_int, wrap_succ (show k < 9223372036854775807 by omega), wrap64 (x := p * x) (by omega) (by omega)]
      repeat (refine wp_dec (by omega) ?_)
      simp only [prodS]
      refine wp_decs (fun h => wp_ret ?_) (fun h => ?_)
      · rw [if_pos h]
      · rw [if_neg h]; exact ih _ ⟨hp.1, by omega⟩)
    (l.length + 1) 0 1 (by omega) (by omega) (by decide)
  simpa using key
theorem shape_Count_sp (l : List Int) : Sp 67 [dI l] [.int (countS l).1, .int (countS l).2] := by
  refine sound_ 0 (shape_Count_tree _ _) ?_
  simp only [els_dI, List.length_map]
  unfold countS
  refine wp_decs (fun h => wp_ret ?_) (fun h => ?_)
  · rw [if_pos (by omega)]
  · rw [if_neg (by omega)]
    refine wp_call (Contains1_sp l (by omega)) ?_
    simp only [getD_c0, toBool_bool]
    refine wp_br (fun h1 => wp_ret (by rw [if_pos h1])) (fun h1 => ?_)
    rw [if_neg (by simp [h1])]
    refine wp_call (Contains2_sp l (by omega)) ?_
    simp only [getD_c0, toBool_bool]
    refine wp_br (fun h2 => wp_ret (by rw [if_pos h2])) (fun h2 => ?_)
    rw [if_neg (by simp [h2])]
    refine wp_call (slices_Contains_sp l 0 (by omega)) ?_
    simp only [getD_c0, toBool_bool]
    refine wp_br (fun h3 => wp_ret (by rw [if_pos h3])) (fun h3 => ?_)
    rw [if_neg (by simp [h3])]
    refine wp_call (shape_product_sp l (by omega) (count_pos (by simp [h1]) (by simp [h2]) (by simp [h3]))) ?_
    simp only [getD_c0, toInt_int, int_beq]
    refine wp_decs (fun h4 => wp_ret (by rw [if_pos h4])) (fun h4 => wp_ret (by rw [if_neg h4]))
theorem ref07_Ints_sp (a b : List Int) (ha : a.length ≤ 9223372036854775807) : Sp 76 [dI a, dI b] [.bool (decide (a = b))] := by
  refine sound_ (a.length + 1) (ref07_Ints_tree _ _ _) ?_
  simp only [els_dI, List.length_map, int_bne]
  refine wp_decs (fun h => wp_ret ?_) (fun h => ?_)
  · rw [decide_eq_false]; rintro rfl; exact h rfl
  · exact eq_loop D.int dint_inj a b (by omega) ha (fun m i => ref07_Ints_l4 (a.length + 1) m (dI a) (dI b) i) (fun m i => ref07_Ints_l4_succ _ _ _ _ _)
def mayC (c : Int) : Bool := decide (0 ≤ c ∧ c ≤ 1114111 ∧ (c < 55296 ∨ 57343 < c))
theorem may_tree (c : Int) : Tw (.br (decide (0 ≤ c)) (.br (decide (c ≤ 1114111)) (.br (decide (c < 55296)) (.ret [D.bool true]) (.ret [D.bool (decide (57343 < c))])) (.ret [D.bool false])) (.ret [D.bool false])) [.bool (mayC c)] := by
  unfold mayC
  refine wp_decs (fun h1 => wp_decs (fun h2 => wp_decs (fun h3 => wp_ret ?_) (fun h3 => wp_ret ?_)) (fun h2 => wp_ret ?_)) (fun h1 => wp_ret ?_)
  · rw [decide_eq_true (by omega)]
  · congr 2; rw [decide_eq_decide]; omega
  · rw [decide_eq_false (by omega)]
  · rw [decide_eq_false (by omega)]
theorem ref06_May_sp (c : Int) : Sp 104 [.int c] [.bool (mayC c)] := sound_ 0 (ref06_May_tree _ _) (may_tree c)
theorem glyph_May_sp (c : Int) : Sp 133 [.int c] [.bool (mayC c)] := sound_ 0 (glyph_May_tree _ _) (may_tree c)
end Go.Proofs.Ytfnmaeniekggeaa
set_option maxRecDepth 100000
namespace Go.Proofs.Ytfnmaeniekggeaa
open Go.ChangeShapes Go.WideShapes Go.ChangeAt Go.RowKit

section
variable {P : Program} {md : Nat → FMode}
theorem law_calls {F : Nat} {fn : Func} {xs : List D} {vs : List Value} {W : World} {tb : Nat} (hs : Spec P md F [] xs [.bool true]) (hfn : P.funcs[F]? = some fn) (hm : md F = {}) (hrt : fn.resultTypes = #[tb]) (htb : P.underlying tb = some .bool)
    (hlx : xs.length = fn.params.size) (hlv : vs.length = fn.params.size) (hrd : ∀ (i t : Nat) (x : D) (v : Value), fn.params.toList[i]? = some t → xs[i]? = some x → vs[i]? = some v → Rd P md W (fun _ => False) (.ty t) x v) :
    Calls P F vs.toArray W (fun e w' => e = .returned (.bool true) ∧ Ext W w') := by
  obtain ⟨fn', h1, _, _, h⟩ := hs
  rw [hfn] at h1
  injection h1 with h1
  subst h1
  refine (h W (fun _ => False) vs 0 1 (fun k hk => by rw [hm] at hk; cases hk) ⟨by simp [hlx], by simp [hlv], fun b hb => hb.elim, ?_, fun p hp => by rw [hm] at hp; cases hp⟩).mono ?_
  · intro i ct x v hc hx hv _
    simp only [List.append_nil, List.getElem?_map, Option.map_eq_some_iff] at hc
    obtain ⟨t, ht, rfl⟩ := hc
    have := hrd i t x v ht hx hv
    exact ⟨this.rd.mono (Nat.le_refl _) (fun _ _ _ => rfl) (fun b hb _ => by
      rcases hb with hb | ⟨p, u, hp, _⟩
      · exact hb
      · rw [hm] at hp; cases hp), this.size, this.agg⟩
  · rintro e w' ⟨us, β', hp⟩
    have hl := hp.len
    rw [hrt] at hl
    have : ∃ u, us = [u] := by
      match us, hl with
      | [u], _ => exact ⟨u, rfl⟩
    obtain ⟨u, rfl⟩ := this
    have hv := hp.vl [.b true] (by rw [hrt, hm]; simp [resL, setOwn, ofD, htb, D.toBool, List.getD]) 0 (.b true) u rfl rfl
    have hu := vl_b hv
    subst hu
    refine ⟨hp.ending, ?_⟩
    have := hp.stp
    refine Stp.ext (this.weak fun b ⟨p, v, h1, _⟩ => ?_)
    rw [hm] at h1; cases h1

theorem rd_int {t : Nat} {k : IntKind} {w : World} {M : Nat → Prop} {y : D} {c : Nat → Option Value} (h : RdC P md w M (.ty t) y c) (ht : P.underlying t = some (.int k)) : ∃ n, y = .int n ∧ k.min ≤ n ∧ n ≤ k.max := by
  cases h <;> simp_all [CT.desc]
  all_goals (rename_i hf _; obtain ⟨⟨a, ha, _⟩, _⟩ := fieldsOf_under hf; rw [ht] at ha; cases ha)
theorem rd_bool {t : Nat} {w : World} {M : Nat → Prop} {y : D} {c : Nat → Option Value} (h : RdC P md w M (.ty t) y c) (ht : P.underlying t = some .bool) : ∃ b, y = .bool b := by
  cases h <;> simp_all [CT.desc]
  all_goals (rename_i hf _; obtain ⟨⟨a, ha, _⟩, _⟩ := fieldsOf_under hf; rw [ht] at ha; cases ha)
theorem rd_str {t : Nat} {w : World} {M : Nat → Prop} {y : D} {c : Nat → Option Value} (h : RdC P md w M (.ty t) y c) (ht : P.underlying t = some .string) : ∃ s, y = .str s ∧ s.size ≤ maxLen := by
  cases h <;> simp_all [CT.desc]
  all_goals (rename_i hf _; obtain ⟨⟨a, ha, _⟩, _⟩ := fieldsOf_under hf; rw [ht] at ha; cases ha)
theorem rd_slc {t e : Nat} {w : World} {M : Nat → Prop} {y : D} {c : Nat → Option Value} (h : RdC P md w M (.ty t) y c) (ht : P.underlying t = some (.slice e)) : ∃ es, y = .sl es ∧ es.length ≤ maxLen ∧ ∀ x ∈ es, ∃ c', RdC P md w M (.ty e) x c' := by
  cases h with
  | sl ht' hc h1 h2 hA hh =>
    have : P.underlying t = some (.slice _) := ht'
    rw [ht] at this
    injection this with this
    injection this with this
    subst this
    refine ⟨_, rfl, Nat.le_trans h1 h2, fun x hx => ?_⟩
    obtain ⟨i, hi, rfl⟩ := List.getElem_of_mem hx
    exact ⟨_, hh i _ (List.getElem?_eq_getElem hi)⟩
  | struct hf _ _ => obtain ⟨⟨a, ha, _⟩, _⟩ := fieldsOf_under hf; rw [ht] at ha; cases ha
  | int ht' => have : P.underlying t = _ := ht'; rw [ht] at this; cases this
  | bool ht' => have : P.underlying t = _ := ht'; rw [ht] at this; cases this
  | str ht' => have : P.underlying t = _ := ht'; rw [ht] at this; cases this
  | fn ht' => have : P.underlying t = _ := ht'; rw [ht] at this; cases this
  | ref ht' => have : P.underlying t = _ := ht'; rw [ht] at this; cases this
theorem rd_struct {t : Nat} {fs : List Field} {w : World} {M : Nat → Prop} {y : D} {c : Nat → Option Value} (h : RdC P md w M (.ty t) y c) (ht : fieldsOf P t = some fs) : ∃ ds, y = .agg ds ∧ ds.length = fs.length ∧ ∀ (i : Nat) (f : Field) (d : D), fs[i]? = some f → ds[i]? = some d → ∃ c', RdC P md w M (.ty f.type) d c' := by
  obtain ⟨⟨a, ha, _⟩, _⟩ := fieldsOf_under ht
  cases h with
  | struct hf hl hh =>
    rw [ht] at hf
    injection hf with hf
    subst hf
    exact ⟨_, rfl, hl, fun i f d h1 h2 => ⟨_, hh i f d h1 h2⟩⟩
  | sl ht' => have : P.underlying t = _ := ht'; rw [ha] at this; cases this
  | int ht' => have : P.underlying t = _ := ht'; rw [ha] at this; cases this
  | bool ht' => have : P.underlying t = _ := ht'; rw [ha] at this; cases this
  | str ht' => have : P.underlying t = _ := ht'; rw [ha] at this; cases this
  | fn ht' => have : P.underlying t = _ := ht'; rw [ha] at this; cases this
  | ref ht' => have : P.underlying t = _ := ht'; rw [ha] at this; cases this
theorem rd_ints {t e : Nat} {w : World} {M : Nat → Prop} {y : D} {c : Nat → Option Value} (h : RdC P md w M (.ty t) y c) (ht : P.underlying t = some (.slice e)) (he : P.underlying e = some (.int .i64)) : ∃ l, y = dI l ∧ l.length ≤ maxLen ∧ ∀ x ∈ l, -9223372036854775808 ≤ x ∧ x ≤ 9223372036854775807 := by
  obtain ⟨es, rfl, hl, hh⟩ := rd_slc h ht
  have : ∃ l : List Int, es = l.map .int ∧ ∀ x ∈ l, -9223372036854775808 ≤ x ∧ x ≤ 9223372036854775807 := by
    clear hl h
    induction es with
    | nil => exact ⟨[], rfl, fun _ h => by cases h⟩
    | cons x es ih =>
      obtain ⟨l, rfl, hl⟩ := ih (fun y hy => hh y (by simp [hy]))
      obtain ⟨c', hc⟩ := hh x (by simp)
      obtain ⟨n, rfl, h1, h2⟩ := rd_int hc he
      exact ⟨n :: l, rfl, fun y hy => by rcases List.mem_cons.1 hy with rfl | hy; exact ⟨h1, h2⟩; exact hl y hy⟩
  obtain ⟨l, rfl, h2⟩ := this
  exact ⟨l, rfl, by simpa using hl, h2⟩
theorem rd_limbs {t e : Nat} {w : World} {M : Nat → Prop} {y : D} {c : Nat → Option Value} (h : RdC P md w M (.ty t) y c) (ht : P.underlying t = some (.slice e)) (he : P.underlying e = some (.int .u32)) : ∃ l : List Limb, y = dL l ∧ l.length ≤ maxLen := by
  obtain ⟨es, rfl, hl, hh⟩ := rd_slc h ht
  have : ∃ l : List Limb, es = l.map dB := by
    clear hl h
    induction es with
    | nil => exact ⟨[], rfl⟩
    | cons x es ih =>
      obtain ⟨l, rfl⟩ := ih (fun y hy => hh y (by simp [hy]))
      obtain ⟨c', hc⟩ := hh x (by simp)
      obtain ⟨n, rfl, h1, h2⟩ := rd_int hc he
      have h1 : 0 ≤ n := h1
      have h2 : n ≤ 4294967295 := h2
      refine ⟨BitVec.ofNat 32 n.toNat :: l, ?_⟩
      simp only [List.map_cons, dB, BitVec.toNat_ofNat]
      rw [Nat.mod_eq_of_lt (by omega), Int.toNat_of_nonneg h1]
  obtain ⟨l, rfl⟩ := this
  exact ⟨l, rfl, by simpa using hl⟩
theorem rd_lab {t : Nat} {w : World} {M : Nat → Prop} {y : D} {c : Nat → Option Value} (h : RdC P md w M (.ty t) y c) (ht : P.underlying t = some (.int .u64)) : ∃ l : Lab, y = dB l := by
  obtain ⟨n, rfl, h1, h2⟩ := rd_int h ht
  have h1 : 0 ≤ n := h1
  have h2 : n ≤ 18446744073709551615 := h2
  refine ⟨BitVec.ofNat 64 n.toNat, ?_⟩
  simp only [dB, BitVec.toNat_ofNat]
  rw [Nat.mod_eq_of_lt (by omega), Int.toNat_of_nonneg h1]
end

theorem len3 {α : Type} {l : List α} (h : l.length = 3) : ∃ a b c, l = [a, b, c] := by
  match l, h with
  | [a, b, c], _ => exact ⟨a, b, c, rfl⟩
theorem len5 {α : Type} {l : List α} (h : l.length = 5) : ∃ a b c d e, l = [a, b, c, d, e] := by
  match l, h with
  | [a, b, c, d, e], _ => exact ⟨a, b, c, d, e, rfl⟩
/-- No list of an array is longer than it can be; lengths of axes are ints. -/
inductive Fits : Arr → Prop where
  | mk {s : Lab} {sh : List Int} {cs : List Cell} (h1 : sh.length ≤ maxLen) (h2 : cs.length ≤ maxLen) (h3 : ∀ c ∈ cs, c.n.top.length ≤ maxLen ∧ c.n.bot.length ≤ maxLen ∧ c.inn.length ≤ maxLen) (h5 : ∀ x ∈ sh, -9223372036854775808 ≤ x ∧ x ≤ 9223372036854775807)
      (h4 : ∀ c ∈ cs, ∀ x ∈ c.inn, Fits x) : Fits (.mk s sh cs)
theorem fields_Num : (fieldsOf Try.prog 54).map (fun fs => fs.map (·.type)) = some [4, 52, 52] := by kernel_rfl
theorem fields_Cell : (fieldsOf Try.prog 57).map (fun fs => fs.map (·.type)) = some [22, 3, 54, 3, 55] := by kernel_rfl
theorem fields_Array : (fieldsOf Try.prog 26).map (fun fs => fs.map (·.type)) = some [22, 23, 24] := by kernel_rfl
theorem types_at {fs : List Field} {ts : List Nat} (h : fs.map (·.type) = ts) {i t : Nat} (ht : ts[i]? = some t) : ∃ f, fs[i]? = some f ∧ f.type = t := by
  subst h
  simpa [List.getElem?_map, Option.map_eq_some_iff] using ht
theorem rd_num {w : World} {M : Nat → Prop} {y : D} {c : Nat → Option Value} (h : RdC Try.prog md w M (.ty 54) y c) : ∃ n, y = dN n ∧ n.top.length ≤ maxLen ∧ n.bot.length ≤ maxLen := by
  obtain ⟨fs, hf, ht⟩ := Option.map_eq_some_iff.1 fields_Num
  obtain ⟨ds, rfl, hl, hh⟩ := rd_struct h hf
  have : fs.length = 3 := by rw [← List.length_map (f := (·.type)), ht]; rfl
  obtain ⟨a, b, c, rfl⟩ := len3 (by rw [hl, this])
  obtain ⟨f0, hf0, e0⟩ := types_at ht (i := 0) rfl
  obtain ⟨f1, hf1, e1⟩ := types_at ht (i := 1) rfl
  obtain ⟨f2, hf2, e2⟩ := types_at ht (i := 2) rfl
  obtain ⟨_, h0⟩ := hh 0 f0 a hf0 rfl
  obtain ⟨_, h1⟩ := hh 1 f1 b hf1 rfl
  obtain ⟨_, h2⟩ := hh 2 f2 c hf2 rfl
  rw [e0] at h0; rw [e1] at h1; rw [e2] at h2
  obtain ⟨n, rfl⟩ := rd_bool h0 (by kernel_rfl)
  obtain ⟨t, rfl, l1⟩ := rd_limbs h1 (e := 99) (by kernel_rfl) (by kernel_rfl)
  obtain ⟨t', rfl, l2⟩ := rd_limbs h2 (e := 99) (by kernel_rfl) (by kernel_rfl)
  exact ⟨⟨n, t, t'⟩, rfl, l1, l2⟩
mutual
def D.sz : D → Nat
  | .agg fs => 1 + D.szL fs | .sl es => 1 + D.szL es | _ => 0
def D.szL : List D → Nat
  | [] => 0 | x :: xs => 1 + x.sz + D.szL xs
end
theorem szL_mem : ∀ {l : List D} {x : D}, x ∈ l → x.sz < D.szL l
  | y :: ys, x, h => by
    rcases List.mem_cons.1 h with rfl | h
    · simp only [D.szL]; omega
    · have := szL_mem h; simp only [D.szL]; omega
theorem rd_arr : ∀ (k : Nat) {w : World} {M : Nat → Prop} {y : D} {c : Nat → Option Value}, y.sz < k → RdC Try.prog md w M (.ty 26) y c → ∃ a, y = dA a ∧ Fits a
  | 0, _, _, _, _, hk, _ => by omega
  | k + 1, w, M, y, c, hk, h => by
    obtain ⟨fs, hf, ht⟩ := Option.map_eq_some_iff.1 fields_Array
    obtain ⟨ds, rfl, hl, hh⟩ := rd_struct h hf
    have : fs.length = 3 := by rw [← List.length_map (f := (·.type)), ht]; rfl
    obtain ⟨a, b, c, rfl⟩ := len3 (by rw [hl, this])
    obtain ⟨f0, hf0, e0⟩ := types_at ht (i := 0) rfl
    obtain ⟨f1, hf1, e1⟩ := types_at ht (i := 1) rfl
    obtain ⟨f2, hf2, e2⟩ := types_at ht (i := 2) rfl
    obtain ⟨_, h0⟩ := hh 0 f0 a hf0 rfl
    obtain ⟨_, h1⟩ := hh 1 f1 b hf1 rfl
    obtain ⟨_, h2⟩ := hh 2 f2 c hf2 rfl
    rw [e0] at h0; rw [e1] at h1; rw [e2] at h2
    obtain ⟨s, rfl⟩ := rd_lab h0 (by kernel_rfl)
    obtain ⟨sh, rfl, l1, l1'⟩ := rd_ints h1 (e := 3) (by kernel_rfl) (by kernel_rfl)
    obtain ⟨es, rfl, l2, hes⟩ := rd_slc h2 (e := 57) (by kernel_rfl)
    have hsz : D.szL es < k := by simp only [D.sz, D.szL] at hk; omega
    have key : ∃ cs : List Cell, es = cs.map dC ∧ (∀ c ∈ cs, c.n.top.length ≤ maxLen ∧ c.n.bot.length ≤ maxLen ∧ c.inn.length ≤ maxLen) ∧ ∀ c ∈ cs, ∀ x ∈ c.inn, Fits x := by
      clear l2 h2 h hh h0 h1 hf0 hf1 hf2 e0 e1 e2 hl hk
      induction es with
      | nil => exact ⟨[], rfl, (fun _ h => by cases h), (fun _ h => by cases h)⟩
      | cons x es ih =>
        simp only [D.szL] at hsz
        obtain ⟨cs, rfl, g1, g2⟩ := ih (fun y hy => hes y (by simp [hy])) (by omega)
        obtain ⟨_, hx⟩ := hes x (by simp)
        obtain ⟨fs, hf, ht⟩ := Option.map_eq_some_iff.1 fields_Cell
        obtain ⟨ds, rfl, hl, hh⟩ := rd_struct hx hf
        have : fs.length = 5 := by rw [← List.length_map (f := (·.type)), ht]; rfl
        obtain ⟨a, b, c, d, e, rfl⟩ := len5 (by rw [hl, this])
        obtain ⟨f0, hf0, e0⟩ := types_at ht (i := 0) rfl
        obtain ⟨f1, hf1, e1⟩ := types_at ht (i := 1) rfl
        obtain ⟨f2, hf2, e2⟩ := types_at ht (i := 2) rfl
        obtain ⟨f3, hf3, e3⟩ := types_at ht (i := 3) rfl
        obtain ⟨f4, hf4, e4⟩ := types_at ht (i := 4) rfl
        obtain ⟨_, h0⟩ := hh 0 f0 a hf0 rfl
        obtain ⟨_, h1⟩ := hh 1 f1 b hf1 rfl
        obtain ⟨_, h2⟩ := hh 2 f2 c hf2 rfl
        obtain ⟨_, h3⟩ := hh 3 f3 d hf3 rfl
        obtain ⟨_, h4⟩ := hh 4 f4 e hf4 rfl
        rw [e0] at h0; rw [e1] at h1; rw [e2] at h2; rw [e3] at h3; rw [e4] at h4
        obtain ⟨l, rfl⟩ := rd_lab h0 (by kernel_rfl)
        obtain ⟨kd, rfl, _⟩ := rd_int h1 (k := .i64) (by kernel_rfl)
        obtain ⟨n, rfl, n1, n2⟩ := rd_num h2
        obtain ⟨ch, rfl, _⟩ := rd_int h3 (k := .i64) (by kernel_rfl)
        obtain ⟨as_, rfl, l4, has⟩ := rd_slc h4 (e := 26) (by kernel_rfl)
        have hsz4 : D.szL as_ < k := by simp only [D.sz, D.szL] at hsz; omega
        have key2 : ∃ bs : List Arr, as_ = bs.map dA ∧ ∀ x ∈ bs, Fits x := by
          clear h4 hh hx hes ih l4 hsz hl
          induction as_ with
          | nil => exact ⟨[], rfl, fun _ h => by cases h⟩
          | cons z zs ihz =>
            simp only [D.szL] at hsz4
            obtain ⟨bs, rfl, hb⟩ := ihz (fun y hy => has y (by simp [hy])) (by omega)
            obtain ⟨_, hz⟩ := has z (by simp)
            obtain ⟨a, rfl, ha⟩ := rd_arr k (by omega) hz
            exact ⟨a :: bs, rfl, fun y hy => by rcases List.mem_cons.1 hy with rfl | hy; exact ha; exact hb y hy⟩
        obtain ⟨bs, rfl, hb⟩ := key2
        refine ⟨⟨l, kd, n, ch, bs⟩ :: cs, by simp [dC_eq], fun c hc => ?_, fun c hc => ?_⟩
        · rcases List.mem_cons.1 hc with rfl | hc
          · exact ⟨n1, n2, by simpa using l4⟩
          · exact g1 c hc
        · rcases List.mem_cons.1 hc with rfl | hc
          · exact hb
          · exact g2 c hc
    obtain ⟨cs, rfl, g1, g2⟩ := key
    exact ⟨.mk s sh cs, (dA_mk s sh cs), .mk l1 (by simpa using l2) g1 l1' g2⟩
/-- An argument that is an array. -/
def lawTs : List Nat := [4, 3, 22, 99, 52, 23, 54, 57, 26, 55, 24]
theorem lawTs_plain : plainTs Try.prog lawTs = true := by kernel_rfl
section
variable {H : Type} {enc : TypeId × Value → H} {W : World} {sp : Nat → Bool} {held : Bool} {r : Reach} {b0 : Nat} {v : Value} {d : DataW H} {ps : List MemPlace}
theorem arg_arr (hval : Value.okWide Try.prog W r b0 26 v) (h : DataW.Trod enc Try.prog W 0 sp held 26 v d ps) : ∃ a, Fits a ∧ Rd Try.prog md W (fun _ => False) (.ty 26) (dA a) v := by
  obtain ⟨y, hy⟩ := arg_rd (md := md) wfP lawTs_plain (by decide) hval h
  obtain ⟨a, rfl, ha⟩ := rd_arr _ (Nat.lt_succ_self _) hy.rd
  exact ⟨a, ha, hy⟩
theorem arg_bool (hval : Value.okWide Try.prog W r b0 4 v) (h : DataW.Trod enc Try.prog W 0 sp held 4 v d ps) : ∃ a, Rd Try.prog md W (fun _ => False) (.ty 4) (.bool a) v := by
  obtain ⟨y, hy⟩ := arg_rd (md := md) wfP lawTs_plain (by decide) hval h
  obtain ⟨a, rfl⟩ := rd_bool hy.rd (by kernel_rfl)
  exact ⟨a, hy⟩
theorem arg_lab (hval : Value.okWide Try.prog W r b0 22 v) (h : DataW.Trod enc Try.prog W 0 sp held 22 v d ps) : ∃ a : Lab, Rd Try.prog md W (fun _ => False) (.ty 22) (dB a) v := by
  obtain ⟨y, hy⟩ := arg_rd (md := md) wfP lawTs_plain (by decide) hval h
  obtain ⟨a, rfl⟩ := rd_lab hy.rd (by kernel_rfl)
  exact ⟨a, hy⟩
theorem arg_int (hval : Value.okWide Try.prog W r b0 3 v) (h : DataW.Trod enc Try.prog W 0 sp held 3 v d ps) : ∃ a : Int, (-9223372036854775808 ≤ a ∧ a ≤ 9223372036854775807) ∧ Rd Try.prog md W (fun _ => False) (.ty 3) (.int a) v := by
  obtain ⟨y, hy⟩ := arg_rd (md := md) wfP lawTs_plain (by decide) hval h
  obtain ⟨a, rfl, h1, h2⟩ := rd_int hy.rd (k := .i64) (by kernel_rfl)
  exact ⟨a, ⟨h1, h2⟩, hy⟩
theorem arg_num (hval : Value.okWide Try.prog W r b0 54 v) (h : DataW.Trod enc Try.prog W 0 sp held 54 v d ps) : ∃ n : Num, (n.top.length ≤ maxLen ∧ n.bot.length ≤ maxLen) ∧ Rd Try.prog md W (fun _ => False) (.ty 54) (dN n) v := by
  obtain ⟨y, hy⟩ := arg_rd (md := md) wfP lawTs_plain (by decide) hval h
  obtain ⟨n, rfl, h1, h2⟩ := rd_num hy.rd
  exact ⟨n, ⟨h1, h2⟩, hy⟩
end
end Go.Proofs.Ytfnmaeniekggeaa
set_option maxRecDepth 100000
namespace Go.Proofs.Ytfnmaeniekggeaa

theorem Fits.len {a : Arr} (h : Fits a) : a.cells.length ≤ 9223372036854775807 := by cases h; assumption
theorem Fits.sh {a : Arr} (h : Fits a) : a.shape.length ≤ 9223372036854775807 := by cases h; assumption
theorem Fits.shR {a : Arr} (h : Fits a) : ∀ x ∈ a.shape, inR x := by cases h; assumption
/-- What a cell's lists may be. -/
def FitsC (c : Cell) : Prop := c.n.top.length ≤ 9223372036854775807 ∧ c.n.bot.length ≤ 9223372036854775807 ∧ c.inn.length ≤ 9223372036854775807 ∧ ∀ x ∈ c.inn, Fits x
theorem Fits.cell {a : Arr} (h : Fits a) : ∀ c ∈ a.cells, FitsC c := by
  cases h with
  | mk h1 h2 h3 h5 h4 => exact fun c hc => ⟨(h3 c hc).1, (h3 c hc).2.1, (h3 c hc).2.2, h4 c hc⟩
theorem Fits.of {s : Lab} {sh : List Int} {cs : List Cell} (h1 : sh.length ≤ 9223372036854775807) (h2 : cs.length ≤ 9223372036854775807) (h3 : ∀ x ∈ sh, inR x) (h4 : ∀ c ∈ cs, FitsC c) : Fits (.mk s sh cs) :=
  .mk h1 h2 (fun c hc => ⟨(h4 c hc).1, (h4 c hc).2.1, (h4 c hc).2.2.1⟩) h3 (fun c hc => (h4 c hc).2.2.2)

mutual
def totA : Arr → Lab
  | .mk s _ cs => totCs s cs
def totCs : Lab → List (CellF Arr) → Lab
  | l, [] => l
  | l, c :: cs => totCs (totC l c) cs
def totC : Lab → CellF Arr → Lab
  | l, ⟨cl, _, _, _, inn⟩ => totAs (l ||| cl) inn
def totAs : Lab → List Arr → Lab
  | l, [] => l
  | l, a :: as_ => totAs (l ||| totA a) as_
end
theorem totAs_fold : ∀ (as_ : List Arr) (l : Lab), totAs l as_ = as_.foldl (fun l x => l ||| totA x) l
  | [], l => by simp [totAs]
  | a :: as_, l => by simp [totAs, totAs_fold as_]
theorem totC_eq (l : Lab) (c : Cell) : totC l c = c.inn.foldl (fun l x => l ||| totA x) (l ||| c.l) := by cases c; rw [totC, totAs_fold]
theorem totCs_fold : ∀ (cs : List Cell) (l : Lab), totCs l cs = cs.foldl totC l
  | [], l => by simp [totCs]
  | c :: cs, l => by simp [totCs, totCs_fold cs]
theorem totA_eq (a : Arr) : totA a = a.cells.foldl totC a.s := by cases a; rw [totA, totCs_fold]; rfl

/-- One cell without axes that is no box. -/
def simpleA (a : Arr) : Bool := match a.shape, a.cells with
  | [], [c] => decide (¬ c.kind = 2)
  | _, _ => false
def boxOK (c : Cell) (r : Arr → Bool) : Bool := match c.inn with
  | [x] => !simpleA x && r x
  | _ => false
def cellR (k : Bool) (r : Arr → Bool) (c : Cell) : Bool :=
  if c.kind = 0 then decide (c.c = 0 ∧ c.inn.length = 0) && rightN c.n
  else if c.kind = 1 then decide (c.n = .zero ∧ c.inn.length = 0) && mayC c.c
  else decide (c.kind = 2 ∧ c.n = .zero ∧ c.c = 0) && (k && boxOK c r)
def rightA : Nat → Arr → Bool
  | 0, a => decide (countS a.shape = ((a.cells.length : Int), 0)) && a.cells.all (cellR false (fun _ => false))
  | d + 1, a => decide (countS a.shape = ((a.cells.length : Int), 0)) && a.cells.all (cellR true (rightA d))
def rightC : Nat → Cell → Bool
  | 0 => cellR false (fun _ => false)
  | d + 1 => cellR true (rightA d)
theorem rightA_eq (d : Nat) (a : Arr) : rightA d a = (decide (countS a.shape = ((a.cells.length : Int), 0)) && a.cells.all (rightC d)) := by cases d <;> rfl

theorem simple_tree {Q : List D → Prop} (a : Arr) (hq : Q [.bool (simpleA a)]) : (Tree.br (decide ((a.shape.length : Int) = 0)) (.br (decide ((a.cells.length : Int) = 1)) (.br (decide (0 ≤ (0 : Int))) (.br (decide (0 < (a.cells.length : Int))) (.ret [D.bool (decide (¬ (((((a.cells.map dC).getD (Int.toNat 0) D.nil).fld 1).toInt) = 2)))]) .fail) .fail) (.ret [D.bool false])) (.ret [D.bool false])).wp Try.prog md Q := by
  unfold simpleA at hq
  refine wp_decs (fun h1 => wp_decs (fun h2 => ?_) (fun h2 => wp_ret ?_)) (fun h1 => wp_ret ?_)
  · match hs : a.shape, hc : a.cells with
    | [], [c] =>
      rw [hs, hc] at hq
      exact wp_dec (by omega) (wp_dec (by simp) (wp_ret (by simpa [Int.toNat] using hq)))
    | x :: xs, _ => rw [hs] at h1; simp at h1; omega
    | _, [] => rw [hc] at h2; simp at h2
    | _, x :: y :: xs => rw [hc] at h2; simp at h2; omega
  · match hs : a.shape, hc : a.cells with
    | [], [c] => rw [hc] at h2; simp at h2
    | x :: xs, _ => rw [hs] at hq; exact hq
    | [], [] => rw [hs, hc] at hq; exact hq
    | [], x :: y :: xs => rw [hs, hc] at hq; exact hq
  · match hs : a.shape, hc : a.cells with
    | [], _ => rw [hs] at h1; simp at h1
    | x :: xs, _ => rw [hs] at hq; exact hq
theorem ref08_Simple_sp (a : Arr) : Sp 47 [dA a] [.bool (simpleA a)] := by
  refine sound_ 0 (ref08_Simple_tree _ _) ?_
  simp only [dA_0, dA_1, dA_2, dC_0, dC_1, dC_2, dC_3, dC_4, dN_0, dN_1, dN_2, els_sl, els_dI, els_dL, List.length_map, Int.toNat_natCast, toInt_int, toInt_dB, toBool_bool, getD_c0, getD_c1, int_beq, int_bne, not_dec, dInt_dB, Int.toNat_zero]
  exact simple_tree a rfl
theorem ref08_zero_sp (n : Num) : Sp 103 [dN n] [.bool (decide (n = .zero))] := by
  refine sound_ 0 (ref08_zero_tree _ _) ?_
  simp only [dN_0, dN_1, dN_2, els_dL, List.length_map, toBool_bool, int_beq]
  have e : (n = Num.zero) ↔ (n.neg = false ∧ n.top.length = 0 ∧ n.bot.length = 0) := by
    rw [num_eq, List.length_eq_zero_iff, List.length_eq_zero_iff]; rfl
  refine wp_br (fun h1 => wp_decs (fun h2 => wp_ret ?_) (fun h2 => wp_ret ?_)) (fun h1 => wp_ret ?_)
  · congr 2; rw [decide_eq_decide, e]; exact ⟨fun h => ⟨by simpa using h1, by omega, by omega⟩, fun h => by omega⟩
  · rw [decide_eq_false]; rw [e]; omega
  · rw [decide_eq_false]; rw [e]; simp at h1; simp [h1]
theorem ref08_Cell_step (d : Nat) (c : Cell) (hc : FitsC c) (hd : d ≤ 100) (ih : ∀ e, e + 1 = d → ∀ a, Fits a → Sp 17 [dA a, .int (e : Int)] [.bool (rightA e a)]) : Sp 73 [dC c, .int (d : Int)] [.bool (rightC d c)] := by
  suffices key : ∀ (k : Bool) (r : Arr → Bool), (k = true ↔ 0 < d) → (∀ a, k = true → Fits a → Sp 17 [dA a, .int ((d : Int) - 1)] [.bool (r a)]) → Sp 73 [dC c, .int (d : Int)] [.bool (cellR k r c)] by
    cases d with
    | zero => exact key false (fun _ => false) (by simp) (by simp)
    | succ e => exact key true (rightA e) (by simp) (fun a _ ha => by have := ih e rfl a ha; simpa using this)
  intro k r hk hr
  refine sound_ 0 (ref08_Cell_tree _ _ _) ?_
  simp only [dA_0, dA_1, dA_2, dC_0, dC_1, dC_2, dC_3, dC_4, dN_0, dN_1, dN_2, els_sl, els_dI, els_dL, List.length_map, Int.toNat_natCast, toInt_int, toInt_dB, toBool_bool, getD_c0, getD_c1, int_beq, int_bne, not_dec, dInt_dB, Int.toNat_zero]
  unfold cellR
  refine wp_decs (fun h0 => ?_) (fun h0 => ?_)
  · rw [if_pos h0]
    refine wp_decs (fun h1 => wp_decs (fun h2 => wp_call (ref04_Right_sp c.n) (wp_ret ?_)) (fun h2 => wp_ret ?_)) (fun h1 => wp_ret ?_)
    · rw [decide_eq_true ⟨h1, by omega⟩]; rfl
    · rw [decide_eq_false (by omega)]; rfl
    · rw [decide_eq_false (by omega)]; rfl
  rw [if_neg h0]
  refine wp_decs (fun h0 => wp_call (ref08_zero_sp c.n) ?_) (fun h0 => ?_)
  · rw [if_pos h0]
    simp only [getD_c0, toBool_bool]
    refine wp_decs (fun h1 => wp_decs (fun h2 => wp_call (ref06_May_sp c.c) (wp_ret ?_)) (fun h2 => wp_ret ?_)) (fun h1 => wp_ret ?_)
    · rw [decide_eq_true ⟨h1, by omega⟩]; rfl
    · rw [decide_eq_false (fun hh => h2 (by omega))]; rfl
    · rw [decide_eq_false (fun hh => h1 hh.1)]; rfl
  rw [if_neg h0]
  refine wp_decs (fun h0 => wp_call (ref08_zero_sp c.n) ?_) (fun h0 => wp_ret (by rw [decide_eq_false (fun hh => h0 hh.1)]; rfl))
  simp only [getD_c0, toBool_bool]
  refine wp_decs (fun h1 => wp_decs (fun h2 => wp_decs (fun h3 => wp_decs (fun h4 => ?_) (fun h4 => wp_ret ?_)) (fun h3 => wp_ret ?_)) (fun h2 => wp_ret ?_)) (fun h1 => wp_ret ?_)
  · have hkt := hk.2 (by omega)
    rw [show decide (c.kind = 2 ∧ c.n = .zero ∧ c.c = 0) = true from decide_eq_true ⟨h0, h1, h2⟩, hkt, Bool.true_and, Bool.true_and]
    unfold boxOK
    match hi : c.inn with
    | [] => rw [hi] at h3; simp at h3
    | x :: y :: xs => rw [hi] at h3; simp at h3; omega
    | [x] =>
      simp only [List.map_cons, List.map_nil, Int.toNat_zero, getD_c0, List.length_cons, List.length_nil]
      refine wp_dec (by omega) (wp_dec (by omega) (wp_call (ref08_Simple_sp x) ?_))
      simp only [getD_c0, toBool_bool]
      refine wp_br (fun h5 => wp_dec (by omega) (wp_dec (by omega) ?_)) (fun h5 => wp_ret (by rw [h5]; rfl))
      rw [wrap64 (by omega) (by omega)]
      refine wp_call (hr x hkt (hc.2.2.2 x (by rw [hi]; simp))) (wp_ret ?_)
      rw [h5]; rfl
  · have : k = false := by cases k with
      | false => rfl
      | true => exact absurd (hk.1 rfl) (by omega)
    rw [this, Bool.false_and, Bool.and_false]
  · have : boxOK c r = false := by
      unfold boxOK
      match hi : c.inn with
      | [] => rfl
      | x :: y :: xs => rfl
      | [x] => rw [hi] at h3; simp at h3
    rw [this, Bool.and_false, Bool.and_false]
  · rw [decide_eq_false (fun hh => h2 hh.2.2)]; rfl
  · rw [decide_eq_false (fun hh => h1 hh.2.1)]; rfl
theorem ref08_Right_step (d : Nat) (a : Arr) (ha : Fits a) (ih : ∀ c, FitsC c → Sp 73 [dC c, .int (d : Int)] [.bool (rightC d c)]) : Sp 17 [dA a, .int (d : Int)] [.bool (rightA d a)] := by
  have hl := ha.len
  refine sound_ (a.cells.length + 1) (ref08_Right_tree _ _ _) ?_
  simp only [dA_0, dA_1, dA_2, dC_0, dC_1, dC_2, dC_3, dC_4, dN_0, dN_1, dN_2, els_sl, els_dI, els_dL, List.length_map, Int.toNat_natCast, toInt_int, toInt_dB, toBool_bool, getD_c0, getD_c1, int_beq, int_bne, not_dec, dInt_dB, Int.toNat_zero]
  refine wp_call (ref07_Count_sp a.shape) ?_
  rw [rightA_eq]
  simp only [getD_c0, getD_c1, toInt_int]
  refine wp_decs (fun h => wp_ret ?_) (fun h => wp_decs (fun h' => wp_ret ?_) (fun h' => ?_))
  · rw [decide_eq_false]; rfl
    intro hh; rw [hh] at h; exact h rfl
  · rw [decide_eq_false]; rfl
    intro hh; rw [hh] at h'; exact h' rfl
  · have hc : countS a.shape = ((a.cells.length : Int), 0) := Prod.ext (by simpa using h') (by simpa using h)
    rw [hc, decide_eq_true rfl, Bool.true_and]
    have key := loop_list (P := Try.prog) (md := md) a.cells (fun m k (_ : Unit) => ref08_Right_l5 (a.cells.length + 1) m (d : Int) (a.cells.length : Int) (k : Int) (dA a)) (fun rest _ => [.bool (rest.all (rightC d))]) (fun _ _ => True)
      (fun m k s hk _ => by
        simp only [ref08_Right_l5_succ]
        exact wp_ndec (by omega) (wp_ret rfl))
      (fun m k s x rest hd _ ih' => by
        obtain ⟨h1, h2, h3⟩ := drop_cons hd
        simp only [ref08_Right_l5_succ, dA_0, dA_1, dA_2, dC_0, dC_1, dC_2, dC_3, dC_4, dN_0, dN_1, dN_2, els_sl, els_dI, els_dL, List.length_map, Int.toNat_natCast, toInt_int, toInt_dB, toBool_bool, getD_c0, getD_c1, int_beq, int_bne, not_dec, dInt_dB, Int.toNat_zero, getD_map h2, wrap_succ (show k < 9223372036854775807 by omega)]
        repeat (refine wp_dec (by omega) ?_)
        refine wp_call (ih x (ha.cell x (List.mem_of_getElem? h2))) ?_
        simp only [getD_c0, toBool_bool, List.all_cons]
        refine wp_br (fun h4 => wp_ret ?_) (fun h4 => ?_)
        · simp at h4; rw [h4]; rfl
        · simp at h4; rw [h4, Bool.true_and]; exact ih' () trivial)
      (a.cells.length + 1) 0 () (by omega) (by omega) trivial
    exact key
theorem ref08_Right_all : ∀ d : Nat, d ≤ 100 → (∀ c, FitsC c → Sp 73 [dC c, .int (d : Int)] [.bool (rightC d c)]) ∧ ∀ a, Fits a → Sp 17 [dA a, .int (d : Int)] [.bool (rightA d a)]
  | 0, hd => by
    have hc : ∀ c, FitsC c → Sp 73 [dC c, .int ((0 : Nat) : Int)] [.bool (rightC 0 c)] := fun c hc => ref08_Cell_step 0 c hc hd (fun e he => by omega)
    exact ⟨hc, fun a ha => ref08_Right_step 0 a ha hc⟩
  | d + 1, hd => by
    have ih := ref08_Right_all d (by omega)
    have hc : ∀ c, FitsC c → Sp 73 [dC c, .int ((d + 1 : Nat) : Int)] [.bool (rightC (d + 1) c)] := fun c hc => ref08_Cell_step (d + 1) c hc hd (fun e he => by
      have : e = d := by omega
      subst this; exact ih.2)
    exact ⟨hc, fun a ha => ref08_Right_step (d + 1) a ha hc⟩
theorem ref08_Right_sp (a : Arr) (ha : Fits a) : Sp 17 [dA a, .int 8] [.bool (rightA 8 a)] := (ref08_Right_all 8 (by decide)).2 a ha
/-- How many of so many parts are left behind an array. -/
def w64 (x : Int) : Int := IntKind.wrap .i64 x
def leftAs (r : Arr → Int → Int) : List Arr → Int → Int
  | [], n => n
  | a :: as_, n => if 0 ≤ n then leftAs r as_ (r a n) else n
def leftCs (r : Arr → Int → Int) : List Cell → Int → Int
  | [], n => n
  | c :: cs, n => if 0 ≤ n then leftCs r cs (leftAs r c.inn (w64 (w64 (w64 (n - 1) - (c.n.top.length : Int)) - (c.n.bot.length : Int)))) else n
def leftA : Nat → Arr → Int → Int
  | 0, _, _ => -1
  | d + 1, a, n => leftCs (leftA d) a.cells (w64 (w64 (n - 1) - (a.shape.length : Int)))
def fewA (a : Arr) : Bool := decide (0 ≤ leftA 12 a 4000)
theorem ref08_left_sp : ∀ (d : Nat), d ≤ 100 → ∀ (a : Arr), Fits a → ∀ n : Int, Sp 83 [dA a, .int (d : Int), .int n] [.int (leftA d a n)]
  | 0, _, a, ha, n => sound_ 0 (ref08_left_tree _ _ _ _) (wp_tt rfl (wp_ret rfl))
  | d + 1, hd, a, ha, n => by
    obtain ⟨N, hN⟩ := bigFuel
    have hl := ha.len
    refine sound_ N (ref08_left_tree _ _ _ _) ?_
    simp only [dA_0, dA_1, dA_2, dC_0, dC_1, dC_2, dC_3, dC_4, dN_0, dN_1, dN_2, els_sl, els_dI, els_dL, List.length_map, Int.toNat_natCast, toInt_int, toInt_dB, toBool_bool, getD_c0, getD_c1, int_beq, int_bne, not_dec, dInt_dB, Int.toNat_zero]
    refine wp_ndec (by omega) ?_
    have key := loop_list (P := Try.prog) (md := md) a.cells (fun m k (n : Int) => ref08_left_l5 N m ((d + 1 : Nat) : Int) n (k : Int) (dA a)) (fun rest n => [.int (leftCs (leftA d) rest n)]) (fun _ _ => True)
      (fun m k n hk _ => by
        simp only [ref08_left_l5_succ, dA_0, dA_1, dA_2, dC_0, dC_1, dC_2, dC_3, dC_4, dN_0, dN_1, dN_2, els_sl, els_dI, els_dL, List.length_map, Int.toNat_natCast, toInt_int, toInt_dB, toBool_bool, getD_c0, getD_c1, int_beq, int_bne, not_dec, dInt_dB, Int.toNat_zero]
        exact wp_ndec (by omega) (wp_ret rfl))
      (fun m k n c rest hdr _ ih => by
        obtain ⟨h1, h2, h3⟩ := drop_cons hdr
        have hc := ha.cell c (List.mem_of_getElem? h2)
        have hlc := hc.2.2.1
        simp only [ref08_left_l5_succ, dA_0, dA_1, dA_2, dC_0, dC_1, dC_2, dC_3, dC_4, dN_0, dN_1, dN_2, els_sl, els_dI, els_dL, List.length_map, Int.toNat_natCast, toInt_int, toInt_dB, toBool_bool, getD_c0, getD_c1, int_beq, int_bne, not_dec, dInt_dB, Int.toNat_zero, getD_map h2, leftCs]
        refine wp_dec (by omega) (wp_decs (fun hn => ?_) (fun hn => wp_ret (by rw [if_neg hn])))
        rw [if_pos hn]
        repeat (refine wp_dec (by omega) ?_)
        have key := loop_list (P := Try.prog) (md := md) c.inn (fun m' j (n : Int) => ref08_left_l9 N m m' ((d + 1 : Nat) : Int) n (k : Int) (j : Int) (dA a)) (fun rest' n => [.int (leftCs (leftA d) rest (leftAs (leftA d) rest' n))]) (fun _ _ => True)
          (fun m' j n hj _ => by
            simp only [ref08_left_l9_succ, dA_0, dA_1, dA_2, dC_0, dC_1, dC_2, dC_3, dC_4, dN_0, dN_1, dN_2, els_sl, els_dI, els_dL, List.length_map, Int.toNat_natCast, toInt_int, toInt_dB, toBool_bool, getD_c0, getD_c1, int_beq, int_bne, not_dec, dInt_dB, Int.toNat_zero, getD_map h2, wrap_succ (show k < 9223372036854775807 by omega), leftAs]
            repeat (refine wp_dec (by omega) ?_)
            exact wp_ndec (by omega) (ih _ trivial))
          (fun m' j n x rest' hdr' _ ih' => by
            obtain ⟨g1, g2, g3⟩ := drop_cons hdr'
            simp only [ref08_left_l9_succ, dA_0, dA_1, dA_2, dC_0, dC_1, dC_2, dC_3, dC_4, dN_0, dN_1, dN_2, els_sl, els_dI, els_dL, List.length_map, Int.toNat_natCast, toInt_int, toInt_dB, toBool_bool, getD_c0, getD_c1, int_beq, int_bne, not_dec, dInt_dB, Int.toNat_zero, getD_map h2, getD_map g2, wrap_succ (show k < 9223372036854775807 by omega), wrap_succ (show j < 9223372036854775807 by omega), leftAs]
            refine wp_dec (by omega) (wp_dec (by omega) (wp_dec (by omega) (wp_decs (fun hn => ?_) (fun hn => by rw [if_neg hn]; exact ih _ trivial))))
            rw [if_pos hn]
            repeat (refine wp_dec (by omega) ?_)
            rw [wrap64 (by omega) (by omega), show ((d + 1 : Nat) : Int) - 1 = (d : Int) by omega]
            exact wp_call (ref08_left_sp d (by omega) x (hc.2.2.2 x (List.mem_of_getElem? g2)) n) (ih' _ trivial))
          N 0 (w64 (w64 (w64 (n - 1) - (c.n.top.length : Int)) - (c.n.bot.length : Int))) (by omega) (by omega) trivial
        exact key)
      N 0 (w64 (w64 (n - 1) - (a.shape.length : Int))) (by omega) (by omega) trivial
    exact key
theorem ref08_Few_sp (a : Arr) (ha : Fits a) : Sp 40 [dA a] [.bool (fewA a)] := sound_ 0 (ref08_Few_tree _ _) (wp_call (ref08_left_sp 12 (by decide) a ha 4000) (wp_ret rfl))
/-- Axes that make few places. -/
def thinS : List Int → Int → Int
  | [], n => n
  | x :: xs, n => if n ≤ 100000 then thinS xs (if 0 < x then w64 (n * x) else n) else n
def okT (n : Int) : Bool := decide (¬ 100000 < n)
mutual
def thinA : Arr → Bool
  | .mk _ sh cs => okT (thinS sh 1) && thinCs cs
def thinCs : List (CellF Arr) → Bool
  | [] => true
  | c :: cs => thinC c && thinCs cs
def thinC : CellF Arr → Bool
  | ⟨_, _, _, _, inn⟩ => thinAs inn
def thinAs : List Arr → Bool
  | [] => true
  | a :: as_ => thinA a && thinAs as_
end
theorem thinA_eq (a : Arr) : thinA a = (okT (thinS a.shape 1) && thinCs a.cells) := by cases a; rw [thinA]; rfl
theorem thinC_eq (c : Cell) : thinC c = thinAs c.inn := by cases c; rw [thinC]
theorem ref08_thin_sp (a : Arr) : Fits a → Sp 64 [dA a] [.bool (thinA a)] := by
  induction a using Arr.ind with
  | h s sh cs IH =>
    intro ha
    have hl := ha.len
    have hs := ha.sh
    have IH' : ∀ c ∈ (Arr.mk s sh cs).cells, ∀ x ∈ c.inn, Fits x → Sp 64 [dA x] [.bool (thinA x)] := IH
    generalize Arr.mk s sh cs = a at *
    obtain ⟨N, hN⟩ := bigFuel
    refine sound_ N (ref08_thin_tree _ _) ?_
    rw [thinA_eq]
    have inner : Tw (ref08_thin_l10 N N 0 (dA a)) [.bool (thinCs a.cells)] := by
      have key := loop_list (P := Try.prog) (md := md) a.cells (fun m k (_ : Unit) => ref08_thin_l10 N m (k : Int) (dA a)) (fun rest _ => [.bool (thinCs rest)]) (fun _ _ => True)
        (fun m k n hk _ => by
          simp only [ref08_thin_l10_succ, dA_0, dA_1, dA_2, dC_0, dC_1, dC_2, dC_3, dC_4, dN_0, dN_1, dN_2, els_sl, els_dI, els_dL, List.length_map, Int.toNat_natCast, toInt_int, toInt_dB, toBool_bool, getD_c0, getD_c1, int_beq, int_bne, not_dec, dInt_dB, Int.toNat_zero]
          exact wp_ndec (by omega) (wp_ret (by rw [thinCs])))
        (fun m k n c rest hdr _ ih => by
          obtain ⟨h1, h2, h3⟩ := drop_cons hdr
          have hc := ha.cell c (List.mem_of_getElem? h2)
          have hlc := hc.2.2.1
          simp only [ref08_thin_l10_succ, dA_0, dA_1, dA_2, dC_0, dC_1, dC_2, dC_3, dC_4, dN_0, dN_1, dN_2, els_sl, els_dI, els_dL, List.length_map, Int.toNat_natCast, toInt_int, toInt_dB, toBool_bool, getD_c0, getD_c1, int_beq, int_bne, not_dec, dInt_dB, Int.toNat_zero, getD_map h2]
          repeat (refine wp_dec (by omega) ?_)
          rw [thinCs, thinC_eq]
          have key := loop_list (P := Try.prog) (md := md) c.inn (fun m' j (_ : Unit) => ref08_thin_l13 N m m' (k : Int) (j : Int) (dA a)) (fun rest' _ => [.bool (thinAs rest' && thinCs rest)]) (fun _ _ => True)
            (fun m' j n hj _ => by
              simp only [ref08_thin_l13_succ, dA_0, dA_1, dA_2, dC_0, dC_1, dC_2, dC_3, dC_4, dN_0, dN_1, dN_2, els_sl, els_dI, els_dL, List.length_map, Int.toNat_natCast, toInt_int, toInt_dB, toBool_bool, getD_c0, getD_c1, int_beq, int_bne, not_dec, dInt_dB, Int.toNat_zero, getD_map h2, wrap_succ (show k < 9223372036854775807 by omega)]
              repeat (refine wp_dec (by omega) ?_)
              rw [thinAs, Bool.true_and]
              exact wp_ndec (by omega) (ih () trivial))
            (fun m' j n x rest' hdr' _ ih' => by
              obtain ⟨g1, g2, g3⟩ := drop_cons hdr'
              simp only [ref08_thin_l13_succ, dA_0, dA_1, dA_2, dC_0, dC_1, dC_2, dC_3, dC_4, dN_0, dN_1, dN_2, els_sl, els_dI, els_dL, List.length_map, Int.toNat_natCast, toInt_int, toInt_dB, toBool_bool, getD_c0, getD_c1, int_beq, int_bne, not_dec, dInt_dB, Int.toNat_zero, getD_map h2, getD_map g2, wrap_succ (show j < 9223372036854775807 by omega)]
              repeat (refine wp_dec (by omega) ?_)
              refine wp_call (IH' c (List.mem_of_getElem? h2) x (List.mem_of_getElem? g2) (hc.2.2.2 x (List.mem_of_getElem? g2))) ?_
              simp only [getD_c0, toBool_bool]
              rw [thinAs]
              refine wp_br (fun e => wp_ret ?_) (fun e => ?_)
              · simp at e; rw [e]; rfl
              · simp at e; rw [e, Bool.true_and]; exact ih' () trivial)
            N 0 () (by omega) (by omega) trivial
          exact key)
        N 0 () (by omega) (by omega) trivial
      exact key
    have fin : ∀ n : Int, Tw (.br (decide (100000 < n)) (.ret [D.bool false]) (ref08_thin_l10 N N 0 (dA a))) [.bool (okT n && thinCs a.cells)] := fun n => by
      unfold okT
      refine wp_decs (fun h => wp_ret ?_) (fun h => ?_)
      · rw [decide_eq_false (fun hh => hh h)]; rfl
      · rw [decide_eq_true h, Bool.true_and]; exact inner
    have key := loop_list (P := Try.prog) (md := md) a.shape (fun m k (n : Int) => ref08_thin_l3 N m n (k : Int) (dA a)) (fun rest n => [.bool (okT (thinS rest n) && thinCs a.cells)]) (fun _ _ => True)
      (fun m k n hk _ => by
        simp only [ref08_thin_l3_succ, dA_0, dA_1, dA_2, dC_0, dC_1, dC_2, dC_3, dC_4, dN_0, dN_1, dN_2, els_sl, els_dI, els_dL, List.length_map, Int.toNat_natCast, toInt_int, toInt_dB, toBool_bool, getD_c0, getD_c1, int_beq, int_bne, not_dec, dInt_dB, Int.toNat_zero]
        exact wp_ndec (by omega) (fin n))
      (fun m k n x rest hdr _ ih => by
        obtain ⟨h1, h2, h3⟩ := drop_cons hdr
        simp only [ref08_thin_l3_succ, dA_0, dA_1, dA_2, dC_0, dC_1, dC_2, dC_3, dC_4, dN_0, dN_1, dN_2, els_sl, els_dI, els_dL, List.length_map, Int.toNat_natCast, toInt_int, toInt_dB, toBool_bool, getD_c0, getD_c1, int_beq, int_bne, not_dec, dInt_dB, Int.toNat_zero, getD_map h2, wrap_succ (show k < 9223372036854775807 by omega), thinS]
        refine wp_dec (by omega) (wp_decs (fun hn => wp_dec (by omega) (wp_dec (by omega) (wp_decs (fun hx => wp_dec (by omega) (wp_dec (by omega) ?_)) (fun hx => ?_)))) (fun hn => ?_))
        · rw [if_pos hn, if_pos hx]; exact ih _ trivial
        · rw [if_pos hn, if_neg hx]; exact ih _ trivial
        · rw [if_neg hn]; exact fin n)
      N 0 1 (by omega) (by omega) trivial
    exact key
def goodA (a : Arr) : Bool := fewA a && rightA 8 a && thinA a
theorem goodA_right {a : Arr} (h : goodA a = true) : rightA 8 a = true := by unfold goodA at h; simp at h; exact h.1.2
theorem ref08_Good_sp (a : Arr) (ha : Fits a) : Sp 12 [dA a] [.bool (goodA a)] := by
  refine sound_ 0 (ref08_Good_tree _ _) (wp_call (ref08_Few_sp a ha) ?_)
  unfold goodA
  simp only [getD_c0, toBool_bool]
  refine wp_br (fun e1 => wp_call (ref08_Right_sp a ha) ?_) (fun e1 => wp_ret (by rw [e1]; rfl))
  simp only [getD_c0, toBool_bool]
  refine wp_br (fun e2 => wp_call (ref08_thin_sp a ha) (wp_ret ?_)) (fun e2 => wp_ret (by rw [e2, Bool.and_false]; rfl))
  rw [e1, e2]; rfl
theorem ref08_Good_ex (a : Arr) (ha : Fits a) : ∃ b, (b = true → rightA 8 a = true) ∧ Sp 12 [dA a] [.bool b] := ⟨goodA a, goodA_right, ref08_Good_sp a ha⟩
theorem ref08_Total_sp (a : Arr) : Fits a → Sp 34 [dA a] [dB (totA a)] := by
  induction a using Arr.ind with
  | h s sh cs IH =>
    intro ha
    have hl := ha.len
    have IH' : ∀ c ∈ (Arr.mk s sh cs).cells, ∀ x ∈ c.inn, Fits x → Sp 34 [dA x] [dB (totA x)] := IH
    generalize Arr.mk s sh cs = a at *
    obtain ⟨N, hN⟩ := bigFuel
    refine sound_ N (ref08_Total_tree _ _) ?_
    rw [totA_eq]
    have key := loop_list (P := Try.prog) (md := md) a.cells (fun m k (l : Lab) => ref08_Total_l3 N m (l.toNat : Int) (k : Int) (dA a)) (fun rest l => [dB (rest.foldl totC l)]) (fun _ _ => True)
      (fun m k l hk _ => by
        simp only [ref08_Total_l3_succ, dA_0, dA_1, dA_2, dC_0, dC_1, dC_2, dC_3, dC_4, dN_0, dN_1, dN_2, els_sl, els_dI, els_dL, List.length_map, Int.toNat_natCast, toInt_int, toInt_dB, toBool_bool, getD_c0, getD_c1, int_beq, int_bne, not_dec, dInt_dB, Int.toNat_zero]
        exact wp_ndec (by omega) (wp_ret rfl))
      (fun m k l c rest hdr _ ih => by
        obtain ⟨h1, h2, h3⟩ := drop_cons hdr
        have hc := ha.cell c (List.mem_of_getElem? h2)
        have hlc := hc.2.2.1
        simp only [ref08_Total_l3_succ, dA_0, dA_1, dA_2, dC_0, dC_1, dC_2, dC_3, dC_4, dN_0, dN_1, dN_2, els_sl, els_dI, els_dL, List.length_map, Int.toNat_natCast, toInt_int, toInt_dB, toBool_bool, getD_c0, getD_c1, int_beq, int_bne, not_dec, dInt_dB, Int.toNat_zero, getD_map h2]
        repeat (refine wp_dec (by omega) ?_)
        refine wp_call (ref01_Join_sp l c.l) ?_
        simp only [getD_c0, toInt_dB, List.foldl_cons]
        rw [totC_eq]
        have key := loop_list (P := Try.prog) (md := md) c.inn (fun m' j (l : Lab) => ref08_Total_l7 N m m' (l.toNat : Int) (k : Int) (j : Int) (dA a)) (fun rest' l => [dB (rest.foldl totC (rest'.foldl (fun l x => l ||| totA x) l))]) (fun _ _ => True)
          (fun m' j l hj _ => by
            simp only [ref08_Total_l7_succ, dA_0, dA_1, dA_2, dC_0, dC_1, dC_2, dC_3, dC_4, dN_0, dN_1, dN_2, els_sl, els_dI, els_dL, List.length_map, Int.toNat_natCast, toInt_int, toInt_dB, toBool_bool, getD_c0, getD_c1, int_beq, int_bne, not_dec, dInt_dB, Int.toNat_zero, getD_map h2, wrap_succ (show k < 9223372036854775807 by omega)]
            repeat (refine wp_dec (by omega) ?_)
            exact wp_ndec (by omega) (ih _ trivial))
          (fun m' j l x rest' hdr' _ ih' => by
            obtain ⟨g1, g2, g3⟩ := drop_cons hdr'
            simp only [ref08_Total_l7_succ, dA_0, dA_1, dA_2, dC_0, dC_1, dC_2, dC_3, dC_4, dN_0, dN_1, dN_2, els_sl, els_dI, els_dL, List.length_map, Int.toNat_natCast, toInt_int, toInt_dB, toBool_bool, getD_c0, getD_c1, int_beq, int_bne, not_dec, dInt_dB, Int.toNat_zero, getD_map h2, getD_map g2, wrap_succ (show j < 9223372036854775807 by omega)]
            repeat (refine wp_dec (by omega) ?_)
            refine wp_call (IH' c (List.mem_of_getElem? h2) x (List.mem_of_getElem? g2) (hc.2.2.2 x (List.mem_of_getElem? g2))) (wp_call (ref01_Join_sp l (totA x)) ?_)
            exact ih' (l ||| totA x) trivial)
          N 0 (l ||| c.l) (by omega) (by omega) trivial
        exact key)
      N 0 a.s (by omega) (by omega) trivial
    simp only [dA_0, toInt_dB]
    exact key
/-- The same, with labels. -/
noncomputable def eqA (a b : Arr) : Bool := @decide (a = b) (Classical.propDecidable _)
noncomputable def eqC (a b : Cell) : Bool := @decide (a = b) (Classical.propDecidable _)
theorem eqA_iff {a b : Arr} : eqA a b = true ↔ a = b := by unfold eqA; exact @decide_eq_true_iff _ (Classical.propDecidable _)
theorem eqA_false {a b : Arr} (h : a ≠ b) : eqA a b = false := by cases e : eqA a b with
  | false => rfl
  | true => exact absurd (eqA_iff.1 e) h
theorem eqC_iff {a b : Cell} : eqC a b = true ↔ a = b := by unfold eqC; exact @decide_eq_true_iff _ (Classical.propDecidable _)
theorem eqC_false {a b : Cell} (h : a ≠ b) : eqC a b = false := by cases e : eqC a b with
  | false => rfl
  | true => exact absurd (eqC_iff.1 e) h
theorem eqA_self (a : Arr) : eqA a a = true := eqA_iff.2 rfl
theorem eqC_self (a : Cell) : eqC a a = true := eqC_iff.2 rfl
theorem cell_eq (a b : Cell) : (a = b) ↔ (a.l = b.l ∧ a.kind = b.kind ∧ a.c = b.c ∧ a.n = b.n ∧ a.inn = b.inn) := by
  cases a; cases b
  constructor
  · rintro ⟨⟩; exact ⟨rfl, rfl, rfl, rfl, rfl⟩
  · rintro ⟨h1, h2, h3, h4, h5⟩; dsimp only at h1 h2 h3 h4 h5; subst h1; subst h2; subst h3; subst h4; subst h5; rfl
theorem arr_eq (a b : Arr) : (a = b) ↔ (a.s = b.s ∧ a.shape = b.shape ∧ a.cells = b.cells) := by
  cases a; cases b; simp
/-- A loop that asks whether two lists are the same. -/
theorem same_loop {α : Type} {P : Program} {md : Nat → FMode} (a b : List α) (e : α → α → Bool) (he : ∀ x ∈ a, ∀ y, e x y = true ↔ x = y) (hlen : a.length = b.length) (r : Bool) (hr : r = true ↔ a = b) (L : Nat → Nat → Tree)
    (hend : ∀ m, ∀ Q : List D → Prop, Q [.bool true] → (L (m + 1) a.length).wp P md Q)
    (hstep : ∀ m k x y, ∀ Q : List D → Prop, a[k]? = some x → b[k]? = some y → (e x y = false → Q [.bool false]) → (e x y = true → (L m (k + 1)).wp P md Q) → (L (m + 1) k).wp P md Q) (N : Nat) (hN : a.length < N) : (L N 0).wp P md (fun zs => zs = [.bool r]) := by
  have key := loop_up (P := P) (md := md) a.length (fun m k (_ : Unit) => L m k) (fun _ _ => [.bool r]) (fun k _ => a.take k = b.take k)
    (fun m s h => by
      refine hend m _ ?_
      rw [List.take_of_length_le (Nat.le_refl _), List.take_of_length_le (by omega)] at h
      rw [hr.2 h])
    (fun m k s hk h ih => by
      have ha : a[k]? = some a[k] := List.getElem?_eq_getElem _
      have hb : b[k]? = some (b[k]'(by omega)) := List.getElem?_eq_getElem _
      refine hstep m k _ _ _ ha hb (fun hf => ?_) (fun ht => ih () ?_)
      · have : r = false := by
          cases hrr : r with
          | false => rfl
          | true =>
            have := hr.1 hrr
            subst this
            rw [(he a[k] (List.getElem_mem _) a[k]).2 rfl] at hf; cases hf
        rw [this]
      · have : a[k] = b[k] := (he a[k] (List.getElem_mem _) _).1 ht
        rw [List.take_succ_eq_append_getElem hk, List.take_succ_eq_append_getElem (by omega), h, this])
    N 0 () (by omega) (by omega) (by simp)
  exact key
theorem ref08_SameCell_step (a : Cell) (hf : FitsC a) (ih : ∀ x ∈ a.inn, Fits x → ∀ y, Sp 23 [dA x, dA y] [.bool (eqA x y)]) (b : Cell) : Sp 60 [dC a, dC b] [.bool (eqC a b)] := by
  refine sound_ (a.inn.length + 1) (ref08_SameCell_tree _ _ _) ?_
  have hl := hf.2.2.1
  simp only [dA_0, dA_1, dA_2, dC_0, dC_1, dC_2, dC_3, dC_4, dN_0, dN_1, dN_2, els_sl, els_dI, els_dL, List.length_map, Int.toNat_natCast, toInt_int, toInt_dB, toBool_bool, getD_c0, getD_c1, int_beq, int_bne, not_dec, dInt_dB, Int.toNat_zero]
  refine wp_decs (fun h => wp_ret ?_) (fun h1 => wp_decs (fun h => wp_ret ?_) (fun h2 => wp_decs (fun h => wp_ret ?_) (fun h3 => wp_call (ref04_Same_sp a.n b.n hf.1 hf.2.1) ?_)))
  · rw [eqC_false]; rintro rfl; exact h rfl
  · rw [eqC_false]; rintro rfl; exact h rfl
  · rw [eqC_false]; rintro rfl; exact h rfl
  simp only [getD_c0, toBool_bool, not_dec]
  refine wp_decs (fun h => wp_ret ?_) (fun h4 => wp_decs (fun h => wp_ret ?_) (fun h5 => ?_))
  · rw [eqC_false]; rintro rfl; exact h rfl
  · rw [eqC_false]; rintro rfl; exact h rfl
  have e1 : a.l = b.l := BitVec.eq_of_toNat_eq (by omega)
  refine same_loop (P := Try.prog) (md := md) a.inn b.inn eqA (fun x _ y => eqA_iff) (by omega) (eqC a b) ?_ (fun m k => ref08_SameCell_l4 (a.inn.length + 1) m (k : Int) (dC a) (dC b)) ?_ ?_ (a.inn.length + 1) (by omega)
  · rw [eqC_iff, cell_eq]
    have h2' := Classical.not_not.1 h2
    have h3' := Classical.not_not.1 h3
    have h4' := Classical.not_not.1 h4
    simp [e1, h2', h3', h4']
  · intro m Q hQ
    simp only [ref08_SameCell_l4_succ, dA_0, dA_1, dA_2, dC_0, dC_1, dC_2, dC_3, dC_4, dN_0, dN_1, dN_2, els_sl, els_dI, els_dL, List.length_map, Int.toNat_natCast, toInt_int, toInt_dB, toBool_bool, getD_c0, getD_c1, int_beq, int_bne, not_dec, dInt_dB, Int.toNat_zero]
    exact wp_ndec (by omega) (wp_ret hQ)
  · intro m k x y Q hx hy hF hT
    have hk : k < a.inn.length := (List.getElem?_eq_some_iff.1 hx).1
    simp only [ref08_SameCell_l4_succ, dA_0, dA_1, dA_2, dC_0, dC_1, dC_2, dC_3, dC_4, dN_0, dN_1, dN_2, els_sl, els_dI, els_dL, List.length_map, Int.toNat_natCast, toInt_int, toInt_dB, toBool_bool, getD_c0, getD_c1, int_beq, int_bne, not_dec, dInt_dB, Int.toNat_zero, getD_map hx, getD_map hy, wrap_succ (show k < 9223372036854775807 by omega)]
    repeat (refine wp_dec (by omega) ?_)
    refine wp_call (ih x (List.mem_of_getElem? hx) (hf.2.2.2 x (List.mem_of_getElem? hx)) y) ?_
    simp only [getD_c0, toBool_bool]
    refine wp_br (fun h => wp_ret (hF (by simpa using h))) (fun h => hT (by simpa using h))
theorem ref08_Same_sp (a : Arr) : Fits a → ∀ b, Sp 23 [dA a, dA b] [.bool (eqA a b)] := by
  induction a using Arr.ind with
  | h s sh cs IH =>
    intro ha b
    have hl := ha.len
    have IH' : ∀ c ∈ (Arr.mk s sh cs).cells, ∀ x ∈ c.inn, Fits x → ∀ y, Sp 23 [dA x, dA y] [.bool (eqA x y)] := IH
    generalize Arr.mk s sh cs = a at *
    refine sound_ (a.cells.length + 1) (ref08_Same_tree _ _ _) ?_
    simp only [dA_0, dA_1, dA_2, dC_0, dC_1, dC_2, dC_3, dC_4, dN_0, dN_1, dN_2, els_sl, els_dI, els_dL, List.length_map, Int.toNat_natCast, toInt_int, toInt_dB, toBool_bool, getD_c0, getD_c1, int_beq, int_bne, not_dec, dInt_dB, Int.toNat_zero]
    refine wp_decs (fun h => wp_ret ?_) (fun h1 => wp_call (ref07_Ints_sp a.shape b.shape ha.sh) ?_)
    · rw [eqA_false]; rintro rfl; exact h rfl
    simp only [getD_c0, toBool_bool, not_dec]
    refine wp_decs (fun h => wp_ret ?_) (fun h4 => wp_decs (fun h => wp_ret ?_) (fun h5 => ?_))
    · rw [eqA_false]; rintro rfl; exact h rfl
    · rw [eqA_false]; rintro rfl; exact h rfl
    have e1 : a.s = b.s := BitVec.eq_of_toNat_eq (by omega)
    refine same_loop (P := Try.prog) (md := md) a.cells b.cells eqC (fun x _ y => eqC_iff) (by omega) (eqA a b) ?_ (fun m k => ref08_Same_l4 (a.cells.length + 1) m (k : Int) (dA a) (dA b)) ?_ ?_ (a.cells.length + 1) (by omega)
    · rw [eqA_iff, arr_eq]
      have h4' := Classical.not_not.1 h4
      simp [e1, h4']
    · intro m Q hQ
      simp only [ref08_Same_l4_succ, dA_0, dA_1, dA_2, dC_0, dC_1, dC_2, dC_3, dC_4, dN_0, dN_1, dN_2, els_sl, els_dI, els_dL, List.length_map, Int.toNat_natCast, toInt_int, toInt_dB, toBool_bool, getD_c0, getD_c1, int_beq, int_bne, not_dec, dInt_dB, Int.toNat_zero]
      exact wp_ndec (by omega) (wp_ret hQ)
    · intro m k x y Q hx hy hF hT
      have hk : k < a.cells.length := (List.getElem?_eq_some_iff.1 hx).1
      simp only [ref08_Same_l4_succ, dA_0, dA_1, dA_2, dC_0, dC_1, dC_2, dC_3, dC_4, dN_0, dN_1, dN_2, els_sl, els_dI, els_dL, List.length_map, Int.toNat_natCast, toInt_int, toInt_dB, toBool_bool, getD_c0, getD_c1, int_beq, int_bne, not_dec, dInt_dB, Int.toNat_zero, getD_map hx, getD_map hy, wrap_succ (show k < 9223372036854775807 by omega)]
      repeat (refine wp_dec (by omega) ?_)
      refine wp_call (ref08_SameCell_step x (ha.cell x (List.mem_of_getElem? hx)) (IH' x (List.mem_of_getElem? hx)) y) ?_
      simp only [getD_c0, toBool_bool]
      refine wp_br (fun h => wp_ret (hF (by simpa using h))) (fun h => hT (by simpa using h))
theorem ref08_SameCell_sp (a b : Cell) (hf : FitsC a) : Sp 60 [dC a, dC b] [.bool (eqC a b)] := ref08_SameCell_step a hf (fun x _ hx y => ref08_Same_sp x hx y) b
/-- Small whole numbers; an error. -/
def intsCs : List Cell → Option (List Int)
  | [] => some []
  | c :: cs => if c.kind = 0 then (smallN c.n).bind (fun z => (intsCs cs).map (z :: ·)) else none
def intsA (a : Arr) : List Int × Int := if 1 < a.shape.length then ([], 5) else match intsCs a.cells with
  | some l => (l, 0)
  | none => ([], 3)
def intC (z : Int) : Cell := ⟨0, 0, ofZ z, 0, []⟩
def fillC (a : Arr) : Cell := match a.cells with
  | [] => intC 0
  | c :: _ => if c.kind = 1 then ⟨c.l, 1, .zero, 32, []⟩ else ⟨c.l, 0, ofZ 0, 0, []⟩
theorem smallN_inR {n : Num} {z : Int} (h : smallN n = some z) : inR z := by
  unfold smallN smO at h
  split at h
  · split at h
    · injection h with h; subst h; assumption
    · cases h
  · cases h
theorem intsCs_inR : ∀ {cs : List Cell} {l : List Int}, intsCs cs = some l → l.length = cs.length ∧ ∀ x ∈ l, inR x
  | [], l, h => by simp [intsCs] at h; subst h; simp
  | c :: cs, l, h => by
    simp only [intsCs] at h
    split at h
    · cases hn : smallN c.n with
      | none => rw [hn] at h; cases h
      | some z =>
        rw [hn] at h
        cases hc : intsCs cs with
        | none => rw [hc] at h; cases h
        | some l' =>
          rw [hc] at h
          injection h with h; subst h
          have := intsCs_inR hc
          exact ⟨by simp [this.1], fun x hx => by rcases List.mem_cons.1 hx with rfl | hx; exact smallN_inR hn; exact this.2 x hx⟩
    · cases h
def insD (out : List Int) : Option (List Int) → List D
  | some l => [dI (out ++ l), .int 0]
  | none => [.sl [], .int 3]
theorem insD_intsA {a : Arr} (h : ¬ 1 < a.shape.length) : insD [] (intsCs a.cells) = [dI (intsA a).1, .int (intsA a).2] := by
  unfold intsA; rw [if_neg h]; cases intsCs a.cells <;> rfl
theorem ref08_Ints_sp (a : Arr) (hl : a.cells.length ≤ 2048) (hn : ∀ c ∈ a.cells, c.n.top.length ≤ 32) : Sp 70 [dA a] [dI (intsA a).1, .int (intsA a).2] := by
  refine sound_ (a.cells.length + 1) (ref08_Ints_tree _ _) ?_
  simp only [dA_0, dA_1, dA_2, dC_0, dC_1, dC_2, dC_3, dC_4, dN_0, dN_1, dN_2, els_sl, els_dI, els_dL, List.length_map, Int.toNat_natCast, toInt_int, toInt_dB, toBool_bool, getD_c0, getD_c1, int_beq, int_bne, not_dec, dInt_dB, Int.toNat_zero]
  refine wp_decs (fun h => wp_ret ?_) (fun h => ?_)
  · unfold intsA; rw [if_pos (by omega)]; rfl
  · rw [← insD_intsA (by omega)]
    have key := loop_list (P := Try.prog) (md := md) a.cells (fun m k (out : List Int) => ref08_Ints_l5 (a.cells.length + 1) m (out.map .int) (k : Int) (dA a)) (fun rest out => insD out (intsCs rest)) (fun rest out => out.length + rest.length ≤ 2048)
      (fun m k out hk _ => by
        simp only [ref08_Ints_l5_succ, dA_0, dA_1, dA_2, dC_0, dC_1, dC_2, dC_3, dC_4, dN_0, dN_1, dN_2, els_sl, els_dI, els_dL, List.length_map, Int.toNat_natCast, toInt_int, toInt_dB, toBool_bool, getD_c0, getD_c1, int_beq, int_bne, not_dec, dInt_dB, Int.toNat_zero]
        exact wp_ndec (by omega) (wp_ret (by simp [intsCs, insD, dI])))
      (fun m k out c rest hdr hI ih => by
        obtain ⟨h1, h2, h3⟩ := drop_cons hdr
        have hm := List.mem_of_getElem? h2
        simp only [ref08_Ints_l5_succ, dA_0, dA_1, dA_2, dC_0, dC_1, dC_2, dC_3, dC_4, dN_0, dN_1, dN_2, els_sl, els_dI, els_dL, List.length_map, Int.toNat_natCast, toInt_int, toInt_dB, toBool_bool, getD_c0, getD_c1, int_beq, int_bne, not_dec, dInt_dB, Int.toNat_zero, getD_map h2, wrap_succ (show k < 9223372036854775807 by omega)]
        repeat (refine wp_dec (by omega) ?_)
        simp only [intsCs]
        refine wp_decs (fun hk => wp_ret ?_) (fun hk => ?_)
        · rw [if_neg hk]; rfl
        rw [if_pos (Classical.not_not.1 hk)]
        repeat (refine wp_dec (by omega) ?_)
        refine wp_call (ref04_Small_sp c.n (by have := hn c hm; omega)) ?_
        cases hs : smallN c.n with
        | none => exact wp_tt rfl (wp_ret rfl)
        | some z =>
          refine wp_ff rfl (wp_dec ?_ ?_)
          · simp only [List.length_cons, List.length_nil, bigN, List.length_map] at hI ⊢; omega
          · have := ih (out ++ [z]) (by simp only [List.length_append, List.length_cons, List.length_nil] at hI ⊢; omega)
            simp only [optI, getD_c0, toInt_int]
            rw [List.map_append] at this
            refine Tree.wp_mono this (fun ys hy => hy.trans ?_)
            cases intsCs rest with
            | none => rfl
            | some l => simp [insD])
      (a.cells.length + 1) 0 [] (by omega) (by omega) (by simpa using hl)
    exact key
theorem ref08_Int_sp (z : Int) (hz : inR z) : Sp 72 [.int z] [dC (intC z)] := by
  refine sound_ 0 (ref08_Int_tree _ _) (wp_call (ref04_Of_sp z hz) (wp_ret ?_))
  rw [dC_eq]; rfl
end Go.Proofs.Ytfnmaeniekggeaa
set_option maxRecDepth 100000
namespace Go.Proofs.Ytfnmaeniekggeaa

theorem array_Total_sp (a : Arr) : Fits a → Sp 48 [dA a] [dB (totA a)] := by
  induction a using Arr.ind with
  | h s sh cs IH =>
    intro ha
    have hl := ha.len
    have IH' : ∀ c ∈ (Arr.mk s sh cs).cells, ∀ x ∈ c.inn, Fits x → Sp 48 [dA x] [dB (totA x)] := IH
    generalize Arr.mk s sh cs = a at *
    obtain ⟨N, hN⟩ := bigFuel
    refine sound_ N (array_Total_tree _ _) ?_
    rw [totA_eq]
    have key := loop_list (P := Try.prog) (md := md) a.cells (fun m k (l : Lab) => array_Total_l3 N m (l.toNat : Int) (.sl (a.cells.map dC)) (a.cells.length : Int) (k : Int)) (fun rest l => [dB (rest.foldl totC l)]) (fun _ _ => True)
      (fun m k l hk _ => by
        simp only [array_Total_l3_succ, dA_0, dA_1, dA_2, dC_0, dC_1, dC_2, dC_3, dC_4, dN_0, dN_1, dN_2, els_sl, els_dI, els_dL, List.length_map, Int.toNat_natCast, toInt_int, toInt_dB, toBool_bool, getD_c0, getD_c1, int_beq, int_bne, not_dec, dInt_dB, Int.toNat_zero]
        exact wp_ndec (by omega) (wp_ret rfl))
      (fun m k l c rest hdr _ ih => by
        obtain ⟨h1, h2, h3⟩ := drop_cons hdr
        have hc := ha.cell c (List.mem_of_getElem? h2)
        have hlc := hc.2.2.1
        simp only [array_Total_l3_succ, dA_0, dA_1, dA_2, dC_0, dC_1, dC_2, dC_3, dC_4, dN_0, dN_1, dN_2, els_sl, els_dI, els_dL, List.length_map, Int.toNat_natCast, toInt_int, toInt_dB, toBool_bool, getD_c0, getD_c1, int_beq, int_bne, not_dec, dInt_dB, Int.toNat_zero, getD_map h2]
        repeat (refine wp_dec (by omega) ?_)
        refine wp_call (label_Join_sp l c.l) ?_
        simp only [getD_c0, toInt_dB, List.foldl_cons]
        rw [totC_eq]
        have key := loop_list (P := Try.prog) (md := md) c.inn (fun m' j (l : Lab) => array_Total_l7 N m m' (l.toNat : Int) (.sl (a.cells.map dC)) (a.cells.length : Int) (k : Int) (.sl (c.inn.map dA)) (c.inn.length : Int) (j : Int)) (fun rest' l => [dB (rest.foldl totC (rest'.foldl (fun l x => l ||| totA x) l))]) (fun _ _ => True)
          (fun m' j l hj _ => by
            simp only [array_Total_l7_succ, dA_0, dA_1, dA_2, dC_0, dC_1, dC_2, dC_3, dC_4, dN_0, dN_1, dN_2, els_sl, els_dI, els_dL, List.length_map, Int.toNat_natCast, toInt_int, toInt_dB, toBool_bool, getD_c0, getD_c1, int_beq, int_bne, not_dec, dInt_dB, Int.toNat_zero, getD_map h2, wrap_succ (show k < 9223372036854775807 by omega)]
            exact wp_ndec (by omega) (ih _ trivial))
          (fun m' j l x rest' hdr' _ ih' => by
            obtain ⟨g1, g2, g3⟩ := drop_cons hdr'
            simp only [array_Total_l7_succ, dA_0, dA_1, dA_2, dC_0, dC_1, dC_2, dC_3, dC_4, dN_0, dN_1, dN_2, els_sl, els_dI, els_dL, List.length_map, Int.toNat_natCast, toInt_int, toInt_dB, toBool_bool, getD_c0, getD_c1, int_beq, int_bne, not_dec, dInt_dB, Int.toNat_zero, getD_map h2, getD_map g2, wrap_succ (show j < 9223372036854775807 by omega)]
            repeat (refine wp_dec (by omega) ?_)
            refine wp_call (IH' c (List.mem_of_getElem? h2) x (List.mem_of_getElem? g2) (hc.2.2.2 x (List.mem_of_getElem? g2))) (wp_call (label_Join_sp l (totA x)) ?_)
            exact ih' (l ||| totA x) trivial)
          N 0 (l ||| c.l) (by omega) (by omega) trivial
        exact key)
      N 0 a.s (by omega) (by omega) trivial
    simp only [dA_0, dA_1, dA_2, dC_0, dC_1, dC_2, dC_3, dC_4, dN_0, dN_1, dN_2, els_sl, els_dI, els_dL, List.length_map, Int.toNat_natCast, toInt_int, toInt_dB, toBool_bool, getD_c0, getD_c1, int_beq, int_bne, not_dec, dInt_dB, Int.toNat_zero]
    exact key
theorem array_Ints_sp (a : Arr) (hl : a.cells.length ≤ 2048) (hn : ∀ c ∈ a.cells, c.n.top.length ≤ 32) : Sp 66 [dA a] [dI (intsA a).1, .int (intsA a).2] := by
  refine sound_ (a.cells.length + 1) (array_Ints_tree _ _) ?_
  simp only [dA_0, dA_1, dA_2, dC_0, dC_1, dC_2, dC_3, dC_4, dN_0, dN_1, dN_2, els_sl, els_dI, els_dL, List.length_map, Int.toNat_natCast, toInt_int, toInt_dB, toBool_bool, getD_c0, getD_c1, int_beq, int_bne, not_dec, dInt_dB, Int.toNat_zero, List.replicate_zero]
  refine wp_decs (fun h => wp_ret ?_) (fun h => ?_)
  · unfold intsA; rw [if_pos (by omega)]; rfl
  · rw [← insD_intsA (by omega)]
    refine wp_dec (by omega) (wp_dec (by omega) (wp_dec (by simp only [bigN]; omega) ?_))
    have key := loop_list (P := Try.prog) (md := md) a.cells (fun m k (out : List Int) => array_Ints_l5 (a.cells.length + 1) m (out.map .int) (.sl (a.cells.map dC)) (a.cells.length : Int) (k : Int)) (fun rest out => insD out (intsCs rest)) (fun rest out => out.length + rest.length ≤ 2048)
      (fun m k out hk _ => by
        simp only [array_Ints_l5_succ, dA_0, dA_1, dA_2, dC_0, dC_1, dC_2, dC_3, dC_4, dN_0, dN_1, dN_2, els_sl, els_dI, els_dL, List.length_map, Int.toNat_natCast, toInt_int, toInt_dB, toBool_bool, getD_c0, getD_c1, int_beq, int_bne, not_dec, dInt_dB, Int.toNat_zero]
        exact wp_ndec (by omega) (wp_ret (by simp [intsCs, insD, dI])))
      (fun m k out c rest hdr hI ih => by
        obtain ⟨h1, h2, h3⟩ := drop_cons hdr
        have hm := List.mem_of_getElem? h2
        simp only [array_Ints_l5_succ, dA_0, dA_1, dA_2, dC_0, dC_1, dC_2, dC_3, dC_4, dN_0, dN_1, dN_2, els_sl, els_dI, els_dL, List.length_map, Int.toNat_natCast, toInt_int, toInt_dB, toBool_bool, getD_c0, getD_c1, int_beq, int_bne, not_dec, dInt_dB, Int.toNat_zero, getD_map h2, wrap_succ (show k < 9223372036854775807 by omega)]
        repeat (refine wp_dec (by omega) ?_)
        simp only [intsCs]
        refine wp_call (ratio_Small_sp c.n (by have := hn c hm; omega)) ?_
        refine wp_decs (fun hk => wp_ret ?_) (fun hk => ?_)
        · rw [if_neg hk]; rfl
        rw [if_pos (Classical.not_not.1 hk)]
        cases hs : smallN c.n with
        | none => exact wp_tt rfl (wp_ret rfl)
        | some z =>
          refine wp_ff rfl (wp_dec ?_ ?_)
          · simp only [List.length_cons, List.length_nil, bigN, List.length_map] at hI ⊢; omega
          · have := ih (out ++ [z]) (by simp only [List.length_append, List.length_cons, List.length_nil] at hI ⊢; omega)
            simp only [optI, getD_c0, toInt_int]
            rw [List.map_append] at this
            refine Tree.wp_mono this (fun ys hy => hy.trans ?_)
            cases intsCs rest with
            | none => rfl
            | some l => simp [insD])
      (a.cells.length + 1) 0 [] (by omega) (by omega) (by simpa using hl)
    exact key
theorem array_Int_sp (z : Int) (hz : inR z) : Sp 77 [.int z] [dC (intC z)] := by
  refine sound_ 0 (array_Int_tree _ _) (wp_call (ratio_Of_sp z hz) (wp_ret ?_))
  rw [dC_eq]; rfl
def chrC (c : Int) : Cell := ⟨0, 1, .zero, c, []⟩
theorem array_Chr_sp (z : Int) : Sp 85 [.int z] [dC (chrC z)] := by
  refine sound_ 0 (array_Chr_tree _ _) (wp_ret ?_)
  rw [dC_eq]; rfl
theorem inR0 : inR 0 := by unfold inR; decide
theorem array_Fill_sp (a : Arr) : Sp 68 [dA a] [dC (fillC a)] := by
  refine sound_ 0 (array_Fill_tree _ _) ?_
  simp only [dA_0, dA_1, dA_2, dC_0, dC_1, dC_2, dC_3, dC_4, dN_0, dN_1, dN_2, els_sl, els_dI, els_dL, List.length_map, Int.toNat_natCast, toInt_int, toInt_dB, toBool_bool, getD_c0, getD_c1, int_beq, int_bne, not_dec, dInt_dB, Int.toNat_zero]
  unfold fillC
  match hc : a.cells with
  | [] => exact wp_dec (by simp) (wp_call (array_Int_sp 0 inR0) (wp_ret rfl))
  | c :: cs =>
    refine wp_ndec (by simp; omega) (wp_call (array_Int_sp 0 inR0) (wp_dec (by omega) (wp_dec (by simp) ?_)))
    simp only [List.map_cons, getD_c0, dA_0, dA_1, dA_2, dC_0, dC_1, dC_2, dC_3, dC_4, dN_0, dN_1, dN_2, els_sl, els_dI, els_dL, List.length_map, Int.toNat_natCast, toInt_int, toInt_dB, toBool_bool, getD_c0, getD_c1, int_beq, int_bne, not_dec, dInt_dB, Int.toNat_zero]
    refine wp_decs (fun h => wp_call (array_Chr_sp 32) (wp_dec (by omega) (wp_dec (by simp) (wp_ret ?_)))) (fun h => wp_dec (by omega) (wp_dec (by simp) (wp_ret ?_)))
    · rw [if_pos h, dC_eq]
      simp only [dA_0, dA_1, dA_2, dC_0, dC_1, dC_2, dC_3, dC_4, dN_0, dN_1, dN_2, els_sl, els_dI, els_dL, List.length_map, Int.toNat_natCast, toInt_int, toInt_dB, toBool_bool, getD_c0, getD_c1, int_beq, int_bne, not_dec, dInt_dB, Int.toNat_zero]; rfl
    · rw [if_neg h, dC_eq]
      simp only [dA_0, dA_1, dA_2, dC_0, dC_1, dC_2, dC_3, dC_4, dN_0, dN_1, dN_2, els_sl, els_dI, els_dL, List.length_map, Int.toNat_natCast, toInt_int, toInt_dB, toBool_bool, getD_c0, getD_c1, int_beq, int_bne, not_dec, dInt_dB, Int.toNat_zero]; rfl
end Go.Proofs.Ytfnmaeniekggeaa
set_option maxRecDepth 100000
namespace Go.Proofs.Ytfnmaeniekggeaa

theorem lb_one : lb 1 = [1] := by rw [lb_pos (by decide), show 1 / B = 0 by decide, lb_zero]; rfl
theorem numT_ofZ (z : Int) : numT (ofZ z) = z := zv_wz z
theorem numB_ofZ (z : Int) : numB (ofZ z) = 1 := by simp [numB, ofZ, nv]
theorem lb_inR {z : Int} (h : inR z) : (lb z.natAbs).length ≤ 2 := lb_len.2 (by unfold inR at h; show z.natAbs < 18446744073709551616; omega)
theorem rightN_ofZ {z : Int} (h : inR z) : rightN (ofZ z) = true := by
  have hl := lb_inR h
  unfold rightN
  rw [numT_ofZ, numB_ofZ]
  refine decide_eq_true ⟨by simp only [ofZ]; omega, by simp [ofZ], ?_⟩
  unfold mkR
  simp only [Int.natAbs_one, Nat.gcd_one_right, Nat.div_one, lb_one]
  rw [if_neg (by decide), if_neg (by simp only [List.length_cons, List.length_nil]; omega)]
  unfold ofZ
  congr 2
  by_cases hz : z < 0
  · have : 0 < (lb z.natAbs).length := by
      rcases Nat.eq_zero_or_pos (lb z.natAbs).length with h0 | h0
      · have := lb_len0.1 h0; omega
      · exact h0
    simp [hz, this]
  · simp [hz]
theorem smallN_ofZ {z : Int} (h : inR z) : smallN (ofZ z) = some z := by
  unfold smallN smO
  rw [if_pos (show (ofZ z).bot = [1] from rfl), numT_ofZ, if_pos h]
theorem rightN_len {n : Num} (h : rightN n = true) : n.top.length ≤ 32 ∧ n.bot.length ≤ 32 := by
  have := of_decide_eq_true h
  exact ⟨this.1, this.2.1⟩
theorem rightC_len {d : Nat} {c : Cell} (h : rightC d c = true) : c.n.top.length ≤ 32 ∧ c.n.bot.length ≤ 32 ∧ c.inn.length ≤ 1 := by
  suffices key : ∀ k r, cellR k r c = true → c.n.top.length ≤ 32 ∧ c.n.bot.length ≤ 32 ∧ c.inn.length ≤ 1 by
    cases d with
    | zero => exact key _ _ h
    | succ d => exact key _ _ h
  intro k r h
  unfold cellR at h
  split at h
  · simp only [Bool.and_eq_true, decide_eq_true_eq] at h
    exact ⟨(rightN_len h.2).1, (rightN_len h.2).2, by omega⟩
  split at h
  · simp only [Bool.and_eq_true, decide_eq_true_eq] at h
    rw [h.1.1]; exact ⟨by decide, by decide, by omega⟩
  · simp only [Bool.and_eq_true, decide_eq_true_eq] at h
    rw [h.1.2.1]
    refine ⟨by decide, by decide, ?_⟩
    have hb := h.2.2
    unfold boxOK at hb
    split at hb
    · rename_i hi; rw [hi]; simp
    · cases hb
theorem rightA_cells {d : Nat} {a : Arr} (h : rightA d a = true) : countS a.shape = ((a.cells.length : Int), 0) ∧ ∀ c ∈ a.cells, rightC d c = true := by
  rw [rightA_eq] at h
  simp only [Bool.and_eq_true, decide_eq_true_eq, List.all_eq_true] at h
  exact h
theorem rightA_of {d : Nat} {a : Arr} (h1 : countS a.shape = ((a.cells.length : Int), 0)) (h2 : ∀ c ∈ a.cells, rightC d c = true) : rightA d a = true := by
  rw [rightA_eq]
  simp only [Bool.and_eq_true, decide_eq_true_eq, List.all_eq_true]
  exact ⟨h1, h2⟩
theorem rightA_len {d : Nat} {a : Arr} (h : rightA d a = true) : a.cells.length ≤ 2048 ∧ a.shape.length ≤ 6 ∧ ∀ x ∈ a.shape, 0 ≤ x ∧ x ≤ 2048 := by
  have h1 := (rightA_cells h).1
  have h2 := countS_le a.shape
  have h3 := countS_len (l := a.shape) (by rw [h1])
  rw [h1] at h2
  exact ⟨by simp only at h2; omega, h3⟩
theorem rightA_top {d : Nat} {a : Arr} (h : rightA d a = true) : ∀ c ∈ a.cells, c.n.top.length ≤ 32 := fun c hc => (rightC_len ((rightA_cells h).2 c hc)).1
theorem rightC_int {z : Int} (d : Nat) (h : inR z) : rightC d (intC z) = true := by
  have : ∀ k r, cellR k r (intC z) = true := by
    intro k r
    unfold cellR
    rw [if_pos (show (intC z).kind = 0 from rfl)]
    have := rightN_ofZ h
    simp only [intC, this]; rfl
  cases d <;> exact this _ _
theorem fitsC_int {z : Int} (h : inR z) : FitsC (intC z) := by
  have := lb_inR h
  refine ⟨?_, ?_, ?_, ?_⟩
  · simp only [intC, ofZ]; omega
  · simp [intC, ofZ]
  · simp [intC]
  · simp [intC]
theorem inR_small {z : Int} (h1 : -100000 ≤ z) (h2 : z ≤ 100000) : inR z := by unfold inR; omega
theorem fits_vec {l : List Int} {s : Lab} (hl : l.length ≤ 100000) (h : ∀ x ∈ l, inR x) : Fits (.mk s [(l.length : Int)] (l.map intC)) := by
  refine Fits.of (by simp) (by simp; omega) ?_ ?_
  · intro x hx; simp only [List.mem_singleton] at hx; subst hx; exact inR_small (by omega) (by omega)
  · intro c hc
    obtain ⟨z, hz, rfl⟩ := List.mem_map.1 hc
    exact fitsC_int (h z hz)
theorem fits_none : Fits .none := Fits.of (by simp) (by simp) (by simp) (by simp)
end Go.Proofs.Ytfnmaeniekggeaa
set_option maxRecDepth 100000
namespace Go.Proofs.Ytfnmaeniekggeaa

/-- No list is long, and there are not more than so many arrays within one another. -/
def Sml : Nat → Arr → Prop
  | 0, _ => False
  | d + 1, a => a.shape.length ≤ 1048576 ∧ a.cells.length ≤ 1048576 ∧ (∀ x ∈ a.shape, inR x) ∧ ∀ c ∈ a.cells, c.n.top.length ≤ 1048576 ∧ c.n.bot.length ≤ 1048576 ∧ c.inn.length ≤ 1048576 ∧ ∀ x ∈ c.inn, Sml d x
def SmlC (d : Nat) (c : Cell) : Prop := c.n.top.length ≤ 1048576 ∧ c.n.bot.length ≤ 1048576 ∧ c.inn.length ≤ 1048576 ∧ ∀ x ∈ c.inn, Sml d x
theorem Sml.succ {d : Nat} {a : Arr} (h : Sml d a) : ∃ e, d = e + 1 := by
  cases d with
  | zero => exact h.elim
  | succ e => exact ⟨e, rfl⟩
theorem Sml.cell {d : Nat} {a : Arr} (h : Sml (d + 1) a) : ∀ c ∈ a.cells, SmlC d c := h.2.2.2
theorem Sml.of {d : Nat} {a : Arr} (h1 : a.shape.length ≤ 1048576) (h2 : a.cells.length ≤ 1048576) (h3 : ∀ x ∈ a.shape, inR x) (h4 : ∀ c ∈ a.cells, SmlC d c) : Sml (d + 1) a := ⟨h1, h2, h3, h4⟩
theorem Sml.fits : ∀ {d : Nat} {a : Arr}, Sml d a → Fits a
  | 0, _, h => h.elim
  | d + 1, .mk s sh cs, ⟨h1, h2, h3, h4⟩ => by
    have h1' : sh.length ≤ 1048576 := h1
    have h2' : cs.length ≤ 1048576 := h2
    refine Fits.of (by omega) (by omega) h3 (fun c hc => ?_)
    obtain ⟨g1, g2, g3, g4⟩ := h4 c hc
    exact ⟨by omega, by omega, by omega, fun x hx => (g4 x hx).fits⟩
theorem SmlC.fits {d : Nat} {c : Cell} (h : SmlC d c) : FitsC c := ⟨by have := h.1; omega, by have := h.2.1; omega, by have := h.2.2.1; omega, fun x hx => (h.2.2.2 x hx).fits⟩
theorem Sml.mono : ∀ {d e : Nat} {a : Arr}, Sml d a → d ≤ e → Sml e a
  | 0, _, _, h, _ => h.elim
  | d + 1, 0, _, _, hle => by omega
  | d + 1, e + 1, a, ⟨h1, h2, h3, h4⟩, hle => ⟨h1, h2, h3, fun c hc => ⟨(h4 c hc).1, (h4 c hc).2.1, (h4 c hc).2.2.1, fun x hx => ((h4 c hc).2.2.2 x hx).mono (by omega)⟩⟩
theorem SmlC.mono {d e : Nat} {c : Cell} (h : SmlC d c) (hle : d ≤ e) : SmlC e c := ⟨h.1, h.2.1, h.2.2.1, fun x hx => (h.2.2.2 x hx).mono hle⟩

/-- What is in a right cell. -/
theorem rightC_inn {d : Nat} {c : Cell} (h : rightC d c = true) : ∀ x ∈ c.inn, ∃ e, d = e + 1 ∧ simpleA x = false ∧ rightA e x = true ∧ c.inn = [x] ∧ c.kind = 2 := by
  have key : ∀ k r, cellR k r c = true → ∀ x ∈ c.inn, k = true ∧ simpleA x = false ∧ r x = true ∧ c.inn = [x] ∧ c.kind = 2 := by
    intro k r h x hx
    unfold cellR at h
    split at h
    · simp only [Bool.and_eq_true, decide_eq_true_eq] at h
      rw [List.length_eq_zero_iff.1 h.1.2] at hx; cases hx
    split at h
    · simp only [Bool.and_eq_true, decide_eq_true_eq] at h
      rw [List.length_eq_zero_iff.1 h.1.2] at hx; cases hx
    · simp only [Bool.and_eq_true, decide_eq_true_eq] at h
      obtain ⟨h1, h2, h3⟩ := h
      unfold boxOK at h3
      split at h3
      · rename_i y hy
        rw [hy] at hx ⊢
        have : x = y := by simpa using hx
        subst this
        simp only [Bool.and_eq_true, Bool.not_eq_true'] at h3
        exact ⟨h2, h3.1, h3.2, rfl, h1.1⟩
      · cases h3
  cases d with
  | zero => intro x hx; exact absurd (key _ _ h x hx).1 (by simp)
  | succ e => intro x hx; exact ⟨e, rfl, (key _ _ h x hx).2⟩
theorem rightA_sml : ∀ {d : Nat} {a : Arr}, rightA d a = true → Sml (d + 1) a
  | 0, a, h => by
    have hl := rightA_len h
    refine ⟨by omega, by omega, fun x hx => inR_small (by have := hl.2.2 x hx; omega) (by have := hl.2.2 x hx; omega), fun c hc => ?_⟩
    have hc' := (rightA_cells h).2 c hc
    have := rightC_len hc'
    exact ⟨by omega, by omega, by omega, fun x hx => by obtain ⟨e, he, _⟩ := rightC_inn hc' x hx; omega⟩
  | d + 1, a, h => by
    have hl := rightA_len h
    refine ⟨by omega, by omega, fun x hx => inR_small (by have := hl.2.2 x hx; omega) (by have := hl.2.2 x hx; omega), fun c hc => ?_⟩
    have hc' := (rightA_cells h).2 c hc
    have := rightC_len hc'
    refine ⟨by omega, by omega, by omega, fun x hx => ?_⟩
    obtain ⟨e, he, _, hr, _⟩ := rightC_inn hc' x hx
    have : e = d := by omega
    subst this
    exact rightA_sml hr
theorem rightC_sml {d : Nat} {c : Cell} (h : rightC d c = true) : SmlC d c := by
  have := rightC_len h
  refine ⟨by omega, by omega, by omega, fun x hx => ?_⟩
  obtain ⟨e, rfl, _, hr, _⟩ := rightC_inn h x hx
  exact rightA_sml hr

theorem clone_tw (es : List D) (h : es.length ≤ 1048576) : Tw (.amb es.isEmpty (.ret [D.sl []]) (.br (decide (([] : List D).length + es.length ≤ bigN)) (.ret [D.sl ([] ++ es)]) .fail)) [D.sl es] := by
  refine wp_amb (fun h => wp_ret ?_) (wp_dec ?_ (wp_ret ?_))
  · rw [List.isEmpty_iff.1 h]
  · simp only [List.length_nil, bigN]; omega
  · rw [List.nil_append]
theorem clone_U_sp (l : List Limb) (h : l.length ≤ 1048576) : Sp 114 [dL l] [dL l] := sound_ 0 (slices_Clone_uint32_uint32_tree _ _) (by simp only [els_dL]; exact clone_tw _ (by simpa using h))
theorem clone_I_sp (l : List Int) (h : l.length ≤ 1048576) : Sp 113 [dI l] [dI l] := sound_ 0 (slices_Clone_int_int_tree _ _) (by simp only [els_dI]; exact clone_tw _ (by simpa using h))
theorem clone_C_sp (l : List Cell) (h : l.length ≤ 1048576) : Sp 78 [.sl (l.map dC)] [.sl (l.map dC)] := sound_ 0 (slices_Clone_api_Cell_api_Cell_tree _ _) (by simp only [els_sl]; exact clone_tw _ (by simpa using h))
theorem clone_A_sp (l : List Arr) (h : l.length ≤ 1048576) : Sp 115 [.sl (l.map dA)] [.sl (l.map dA)] := sound_ 0 (slices_Clone_api_Array_api_Array_tree _ _) (by simp only [els_sl]; exact clone_tw _ (by simpa using h))
theorem array_own_sp {d : Nat} (c : Cell) (h : SmlC d c) : Sp 92 [dC c] [dC c] := by
  refine sound_ 0 (array_own_tree _ _) ?_
  simp only [dA_0, dA_1, dA_2, dC_0, dC_1, dC_2, dC_3, dC_4, dN_0, dN_1, dN_2, els_sl, els_dI, els_dL, List.length_map, Int.toNat_natCast, toInt_int, toInt_dB, toBool_bool, getD_c0, getD_c1, int_beq, int_bne, not_dec, dInt_dB, Int.toNat_zero]
  refine wp_call (clone_U_sp _ h.1) (wp_call (clone_U_sp _ h.2.1) (wp_call (clone_A_sp _ h.2.2.1) (wp_ret ?_)))
  simp only [getD_c0, els_dL, els_sl, dsl_dL]
  rw [dC_eq]; rfl
def oneA (c : Cell) : Arr := .mk 0 [] [c]
def vectA (l : List Cell) : Arr := .mk 0 [(l.length : Int)] l
def raiseA (a : Arr) (l : Lab) : Arr := .mk (a.s ||| l) a.shape a.cells
theorem array_Scalar_sp {d : Nat} (c : Cell) (h : SmlC d c) : Sp 63 [dC c] [dA (oneA c)] := by
  refine sound_ 0 (array_Scalar_tree _ _) (wp_call (array_own_sp c h) (wp_ret ?_))
  rw [dA_eq]; rfl
theorem set_next {α : Type} {f : α → D} {z : D} (pre : List α) (x : α) (k : Nat) : ((pre.map f) ++ List.replicate (k + 1) z).set pre.length (f x) = ((pre ++ [x]).map f) ++ List.replicate k z := by
  rw [List.set_append_right _ _ (by simp), List.length_map, Nat.sub_self, List.replicate_succ, List.set_cons_zero]
  simp
theorem dC_none' : D.agg [D.int 0, D.int 0, D.agg [D.bool false, D.sl [], D.sl []], D.int 0, D.sl []] = dC Cell.none := by rw [dC_eq]; rfl
theorem array_Vector_sp {d : Nat} (l : List Cell) (h : ∀ c ∈ l, SmlC d c) (hl : l.length ≤ 1048576) : Sp 84 [.sl (l.map dC)] [dA (vectA l)] := by
  refine sound_ (l.length + 1) (array_Vector_tree _ _) ?_
  simp only [dA_0, dA_1, dA_2, dC_0, dC_1, dC_2, dC_3, dC_4, dN_0, dN_1, dN_2, els_sl, els_dI, els_dL, List.length_map, Int.toNat_natCast, toInt_int, toInt_dB, toBool_bool, getD_c0, getD_c1, int_beq, int_bne, not_dec, dInt_dB, Int.toNat_zero, dC_none']
  refine wp_dec (by omega) (wp_dec (by omega) (wp_dec (by simp only [bigN]; omega) ?_))
  have key := loop_list (P := Try.prog) (md := md) l (fun m k (cs : List D) => array_Vector_l3 (l.length + 1) m (.sl (l.map dC)) cs (.sl (l.map dC)) (l.length : Int) (k : Int) 0) (fun _ _ => [dA (vectA l)])
    (fun rest cs => ∃ pre, l = pre ++ rest ∧ cs = pre.map dC ++ List.replicate rest.length (dC Cell.none))
    (fun m k cs hk hI => by
      obtain ⟨pre, h1, rfl⟩ := hI
      simp only [array_Vector_l3_succ, dA_0, dA_1, dA_2, dC_0, dC_1, dC_2, dC_3, dC_4, dN_0, dN_1, dN_2, els_sl, els_dI, els_dL, List.length_map, Int.toNat_natCast, toInt_int, toInt_dB, toBool_bool, getD_c0, getD_c1, int_beq, int_bne, not_dec, dInt_dB, Int.toNat_zero]
      refine wp_ndec (by omega) (wp_ret ?_)
      rw [List.append_nil] at h1
      rw [dA_eq, vectA]; subst h1; simp [dI]; rfl)
    (fun m k cs c rest hdr hI ih => by
      obtain ⟨h1, h2, h3⟩ := drop_cons hdr
      obtain ⟨pre, hp, rfl⟩ := hI
      have hk : k = pre.length := by
        have := congrArg List.length hdr
        rw [hp] at this h1
        simp at this h1; omega
      simp only [array_Vector_l3_succ, dA_0, dA_1, dA_2, dC_0, dC_1, dC_2, dC_3, dC_4, dN_0, dN_1, dN_2, els_sl, els_dI, els_dL, List.length_map, Int.toNat_natCast, toInt_int, toInt_dB, toBool_bool, getD_c0, getD_c1, int_beq, int_bne, not_dec, dInt_dB, Int.toNat_zero, getD_map h2, wrap_succ (show k < 9223372036854775807 by omega)]
      repeat (refine wp_dec (by omega) ?_)
      refine wp_call (array_own_sp c (h c (List.mem_of_getElem? h2))) ?_
      have hlen : (pre.map dC ++ List.replicate (rest.length + 1) (dC Cell.none)).length = l.length := by rw [hp]; simp
      rw [List.length_cons, hlen]
      refine wp_dec (by omega) (wp_dec (by omega) ?_)
      rw [getD_c0, hk, set_next, ← hk]
      exact ih _ ⟨pre ++ [c], by rw [hp]; simp, rfl⟩)
    (l.length + 1) 0 (List.replicate l.length (dC Cell.none)) (by omega) (by omega) ⟨[], by simp, by simp⟩
  exact key
theorem array_Raise_sp (a : Arr) (l : Lab) : Sp 53 [dA a, dB l] [dA (raiseA a l)] := by
  refine sound_ 0 (array_Raise_tree _ _ _) ?_
  simp only [dA_0, dA_1, dA_2, dC_0, dC_1, dC_2, dC_3, dC_4, dN_0, dN_1, dN_2, els_sl, els_dI, els_dL, List.length_map, Int.toNat_natCast, toInt_int, toInt_dB, toBool_bool, getD_c0, getD_c1, int_beq, int_bne, not_dec, dInt_dB, Int.toNat_zero]
  refine wp_call (label_Join_sp a.s l) (wp_ret ?_)
  rw [dA_eq]; rfl
theorem ref08_Raise_sp (a : Arr) (l : Lab) : Sp 54 [dA a, dB l] [dA (raiseA a l)] := by
  refine sound_ 0 (ref08_Raise_tree _ _ _) ?_
  simp only [dA_0, dA_1, dA_2, dC_0, dC_1, dC_2, dC_3, dC_4, dN_0, dN_1, dN_2, els_sl, els_dI, els_dL, List.length_map, Int.toNat_natCast, toInt_int, toInt_dB, toBool_bool, getD_c0, getD_c1, int_beq, int_bne, not_dec, dInt_dB, Int.toNat_zero]
  refine wp_call (ref01_Join_sp a.s l) (wp_ret ?_)
  rw [dA_eq]; rfl
/-- A cell as an array. -/
def unpC (c : Cell) : Arr := match c.inn with
  | [x] => if c.kind = 2 then raiseA x c.l else .mk c.l [] [c]
  | _ => .mk c.l [] [c]
theorem raise_one (c : Cell) : raiseA (oneA c) c.l = .mk c.l [] [c] := by simp [raiseA, oneA]
theorem unpC_neg {c : Cell} (h : ¬ (c.kind = 2 ∧ c.inn.length = 1)) : unpC c = .mk c.l [] [c] := by
  unfold unpC
  split
  · rename_i x hx
    rw [if_neg (fun hk => h ⟨hk, by rw [hx]; rfl⟩)]
  · rfl
theorem unpC_pos {c : Cell} {x : Arr} (h : c.kind = 2) (hx : c.inn = [x]) : unpC c = raiseA x c.l := by unfold unpC; rw [hx]; simp [h]
theorem len_one {α : Type} {l : List α} (h : l.length = 1) : ∃ x, l = [x] := by
  match l, h with
  | [x], _ => exact ⟨x, rfl⟩
theorem array_Unpack_sp {d : Nat} (c : Cell) (h : SmlC d c) : Sp 59 [dC c] [dA (unpC c)] := by
  refine sound_ 0 (array_Unpack_tree _ _) ?_
  simp only [dA_0, dA_1, dA_2, dC_0, dC_1, dC_2, dC_3, dC_4, dN_0, dN_1, dN_2, els_sl, els_dI, els_dL, List.length_map, Int.toNat_natCast, toInt_int, toInt_dB, toBool_bool, getD_c0, getD_c1, int_beq, int_bne, not_dec, dInt_dB, Int.toNat_zero]
  have other : ¬ (c.kind = 2 ∧ c.inn.length = 1) → Tw (.call 63 [] [dC c] fun yy2 => .call 53 [] [yy2.getD 0 D.nil, dB c.l] fun yy3 => .ret [yy3.getD 0 D.nil]) [dA (unpC c)] := fun hn => by
    refine wp_call (array_Scalar_sp c h) (wp_call (array_Raise_sp (oneA c) c.l) (wp_ret ?_))
    rw [getD_c0, raise_one, unpC_neg hn]
  refine wp_decs (fun h1 => wp_decs (fun h2 => ?_) (fun h2 => other (by omega))) (fun h1 => other (by omega))
  obtain ⟨x, hx⟩ := len_one (show c.inn.length = 1 by omega)
  rw [unpC_pos h1 hx]
  simp only [hx, List.map_cons, List.map_nil, List.length_cons, List.length_nil, getD_c0]
  exact wp_dec (by omega) (wp_dec (by omega) (wp_call (array_Raise_sp x c.l) (wp_ret rfl)))
theorem ref08_Unpack_sp (c : Cell) : Sp 62 [dC c] [dA (unpC c)] := by
  refine sound_ 0 (ref08_Unpack_tree _ _) ?_
  simp only [dA_0, dA_1, dA_2, dC_0, dC_1, dC_2, dC_3, dC_4, dN_0, dN_1, dN_2, els_sl, els_dI, els_dL, List.length_map, Int.toNat_natCast, toInt_int, toInt_dB, toBool_bool, getD_c0, getD_c1, int_beq, int_bne, not_dec, dInt_dB, Int.toNat_zero]
  refine wp_decs (fun h1 => wp_decs (fun h2 => ?_) (fun h2 => wp_ret ?_)) (fun h1 => wp_ret ?_)
  · obtain ⟨x, hx⟩ := len_one (show c.inn.length = 1 by omega)
    rw [unpC_pos h1 hx]
    simp only [hx, List.map_cons, List.map_nil, List.length_cons, List.length_nil, getD_c0]
    exact wp_dec (by omega) (wp_dec (by omega) (wp_call (ref08_Raise_sp x c.l) (wp_ret rfl)))
  · rw [unpC_neg (by omega), dA_eq]; rfl
  · rw [unpC_neg (by omega), dA_eq]; rfl
theorem array_alone_sp (a : Arr) : Sp 87 [dA a] [.bool (decide (a.shape.length = 0 ∧ a.cells.length = 1))] := by
  refine sound_ 0 (array_alone_tree _ _) ?_
  simp only [dA_0, dA_1, dA_2, dC_0, dC_1, dC_2, dC_3, dC_4, dN_0, dN_1, dN_2, els_sl, els_dI, els_dL, List.length_map, Int.toNat_natCast, toInt_int, toInt_dB, toBool_bool, getD_c0, getD_c1, int_beq, int_bne, not_dec, dInt_dB, Int.toNat_zero]
  refine wp_decs (fun h => wp_ret ?_) (fun h => wp_ret ?_)
  · congr 2; rw [decide_eq_decide]; omega
  · rw [decide_eq_false (fun hh => h (by omega))]
theorem array_Simple_sp (a : Arr) : Sp 46 [dA a] [.bool (simpleA a)] := by
  refine sound_ 0 (array_Simple_tree _ _) (wp_call (array_alone_sp a) ?_)
  simp only [dA_0, dA_1, dA_2, dC_0, dC_1, dC_2, dC_3, dC_4, dN_0, dN_1, dN_2, els_sl, els_dI, els_dL, List.length_map, Int.toNat_natCast, toInt_int, toInt_dB, toBool_bool, getD_c0, getD_c1, int_beq, int_bne, not_dec, dInt_dB, Int.toNat_zero]
  unfold simpleA
  refine wp_decs (fun h => ?_) (fun h => wp_ret ?_)
  · obtain ⟨c, hc⟩ := len_one h.2
    have hs := List.length_eq_zero_iff.1 h.1
    simp only [hc, hs, List.map_cons, List.map_nil, List.length_cons, List.length_nil, getD_c0, dC_1, toInt_int]
    exact wp_dec (by omega) (wp_dec (by omega) (wp_ret rfl))
  · match hs : a.shape, hc : a.cells with
    | [], [c] => rw [hs, hc] at h; simp at h
    | x :: xs, _ => rfl
    | [], [] => rfl
    | [], x :: y :: xs => rfl
/-- An array as a cell. -/
def packC (a : Arr) : Cell := match a.shape, a.cells with
  | [], [c] => ⟨c.l ||| a.s, c.kind, c.n, c.c, c.inn⟩
  | _, _ => ⟨a.s, 2, .zero, 0, [a]⟩
theorem packC_pos {a : Arr} {c : Cell} (h : a.shape = []) (hc : a.cells = [c]) : packC a = ⟨c.l ||| a.s, c.kind, c.n, c.c, c.inn⟩ := by unfold packC; rw [h, hc]
theorem packC_neg {a : Arr} (h : ¬ (a.shape.length = 0 ∧ a.cells.length = 1)) : packC a = ⟨a.s, 2, .zero, 0, [a]⟩ := by
  unfold packC
  match hs : a.shape, hc : a.cells with
  | [], [c] => rw [hs, hc] at h; simp at h
  | x :: xs, _ => rfl
  | [], [] => rfl
  | [], x :: y :: xs => rfl
theorem dC_box (l : Lab) (a : Arr) : D.agg [dB l, D.int 2, D.agg [D.bool false, D.sl [], D.sl []], D.int 0, D.sl [dA a]] = dC ⟨l, 2, .zero, 0, [a]⟩ := by rw [dC_eq]; rfl
theorem array_Pack_sp {d : Nat} (a : Arr) (h : Sml (d + 1) a) : Sp 58 [dA a] [dC (packC a)] := by
  refine sound_ 0 (array_Pack_tree _ _) (wp_call (array_alone_sp a) ?_)
  simp only [dA_0, dA_1, dA_2, dC_0, dC_1, dC_2, dC_3, dC_4, dN_0, dN_1, dN_2, els_sl, els_dI, els_dL, List.length_map, Int.toNat_natCast, toInt_int, toInt_dB, toBool_bool, getD_c0, getD_c1, int_beq, int_bne, not_dec, dInt_dB, Int.toNat_zero]
  refine wp_decs (fun hn => wp_ret ?_) (fun hn => ?_)
  · rw [packC_neg hn, ← dC_box]
  · have hp := Classical.not_not.1 hn
    obtain ⟨c, hc⟩ := len_one hp.2
    have hs := List.length_eq_zero_iff.1 hp.1
    rw [packC_pos hs hc]
    simp only [hc, List.map_cons, List.map_nil, List.length_cons, List.length_nil, getD_c0]
    refine wp_dec (by omega) (wp_dec (by omega) (wp_call (array_own_sp c (h.cell c (by rw [hc]; simp))) ?_))
    simp only [dA_0, dA_1, dA_2, dC_0, dC_1, dC_2, dC_3, dC_4, dN_0, dN_1, dN_2, els_sl, els_dI, els_dL, List.length_map, Int.toNat_natCast, toInt_int, toInt_dB, toBool_bool, getD_c0, getD_c1, int_beq, int_bne, not_dec, dInt_dB, Int.toNat_zero]
    refine wp_call (label_Join_sp c.l a.s) (wp_ret ?_)
    rw [dC_eq]; rfl
theorem ref08_Pack_sp (a : Arr) : Sp 61 [dA a] [dC (packC a)] := by
  refine sound_ 0 (ref08_Pack_tree _ _) ?_
  simp only [dA_0, dA_1, dA_2, dC_0, dC_1, dC_2, dC_3, dC_4, dN_0, dN_1, dN_2, els_sl, els_dI, els_dL, List.length_map, Int.toNat_natCast, toInt_int, toInt_dB, toBool_bool, getD_c0, getD_c1, int_beq, int_bne, not_dec, dInt_dB, Int.toNat_zero]
  refine wp_decs (fun h1 => wp_decs (fun h2 => ?_) (fun h2 => wp_ret ?_)) (fun h1 => wp_ret ?_)
  · obtain ⟨c, hc⟩ := len_one (show a.cells.length = 1 by omega)
    have hs := List.length_eq_zero_iff.1 (show a.shape.length = 0 by omega)
    rw [packC_pos hs hc]
    simp only [hc, List.map_cons, List.map_nil, List.length_cons, List.length_nil, getD_c0, dA_0, dA_1, dA_2, dC_0, dC_1, dC_2, dC_3, dC_4, dN_0, dN_1, dN_2, els_sl, els_dI, els_dL, List.length_map, Int.toNat_natCast, toInt_int, toInt_dB, toBool_bool, getD_c0, getD_c1, int_beq, int_bne, not_dec, dInt_dB, Int.toNat_zero]
    refine wp_dec (by omega) (wp_dec (by omega) (wp_call (ref01_Join_sp a.s c.l) (wp_ret ?_)))
    rw [dC_eq, BitVec.or_comm]; rfl
  · rw [packC_neg (by omega), ← dC_box]
  · rw [packC_neg (by omega), ← dC_box]
mutual
def relA (g : Lab → Lab) : Arr → Arr
  | .mk s sh cs => .mk (g s) sh (relCs g cs)
def relCs (g : Lab → Lab) : List (CellF Arr) → List (CellF Arr)
  | [] => []
  | c :: cs => relC g c :: relCs g cs
def relC (g : Lab → Lab) : CellF Arr → CellF Arr
  | ⟨l, k, n, c, inn⟩ => ⟨g l, k, n, c, relAs g inn⟩
def relAs (g : Lab → Lab) : List Arr → List Arr
  | [] => []
  | a :: as_ => relA g a :: relAs g as_
end
theorem relCs_map (g : Lab → Lab) : ∀ cs, relCs g cs = cs.map (relC g)
  | [] => by simp [relCs]
  | c :: cs => by simp [relCs, relCs_map g cs]
theorem relAs_map (g : Lab → Lab) : ∀ as_, relAs g as_ = as_.map (relA g)
  | [] => by simp [relAs]
  | a :: as_ => by simp [relAs, relAs_map g as_]
theorem relA_eq (g : Lab → Lab) (a : Arr) : relA g a = .mk (g a.s) a.shape (a.cells.map (relC g)) := by cases a; simp [relA, relCs_map]
theorem relC_eq (g : Lab → Lab) (c : Cell) : relC g c = ⟨g c.l, c.kind, c.n, c.c, c.inn.map (relA g)⟩ := by cases c; simp [relC, relAs_map]
theorem relC_id_of (g : Lab → Lab) (hg : ∀ l, g l = l) (c : Cell) (h : ∀ x ∈ c.inn, relA g x = x) : relC g c = c := by
  rw [relC_eq, hg]
  have : c.inn.map (relA g) = c.inn := by conv => rhs; rw [← List.map_id c.inn]
                                          exact List.map_congr_left h
  rw [this]
theorem relA_id (g : Lab → Lab) (hg : ∀ l, g l = l) (a : Arr) : relA g a = a := by
  induction a using Arr.ind with
  | h s sh cs IH =>
    rw [relA_eq, hg]
    have : cs.map (relC g) = cs := by
      conv => rhs; rw [← List.map_id cs]
      exact List.map_congr_left (fun c hc => relC_id_of g hg c (IH c hc))
    show Arr.mk s sh (cs.map (relC g)) = _
    rw [this]
theorem relA_sml {g : Lab → Lab} : ∀ {d : Nat} {a : Arr}, Sml d a → Sml d (relA g a)
  | 0, _, h => h.elim
  | d + 1, a, ⟨h1, h2, h3, h4⟩ => by
    rw [relA_eq]
    refine ⟨h1, by simpa using h2, h3, fun c hc => ?_⟩
    obtain ⟨c', hc', rfl⟩ := List.mem_map.1 hc
    obtain ⟨g1, g2, g3, g4⟩ := h4 c' hc'
    rw [relC_eq]
    refine ⟨g1, g2, by simpa using g3, fun x hx => ?_⟩
    obtain ⟨y, hy, rfl⟩ := List.mem_map.1 hx
    exact relA_sml (g4 y hy)
theorem relC_sml {g : Lab → Lab} {d : Nat} {c : Cell} (h : SmlC d c) : SmlC d (relC g c) := by
  rw [relC_eq]
  refine ⟨h.1, h.2.1, by simpa using h.2.2.1, fun x hx => ?_⟩
  obtain ⟨y, hy, rfl⟩ := List.mem_map.1 hx
  exact relA_sml (h.2.2.2 y hy)
def cvr (l : Lab) (er : Bool) (x : Lab) : Lab := if er then l else x ||| l
def eraA (a : Arr) : Arr := relA (fun _ => 0) a
theorem ref08_Cover_sp (l : Lab) (er : Bool) : ∀ (d : Nat) (a : Arr), Sml d a → Sp 52 [dA a, dB l, .bool er] [dA (relA (cvr l er) a)]
  | 0, _, h => h.elim
  | d + 1, a, h => by
    have hl := h.2.1
    have rest : ∀ s' : Lab, Tw (ref08_Cover_l5 1048577 1048577 (l.toNat : Int) er 0 (dA a) 0 (s'.toNat : Int) (dI a.shape) []) [dA (.mk s' a.shape (a.cells.map (relC (cvr l er))))] := fun s' => by
      have key := loop_list (P := Try.prog) (md := md) a.cells (fun m k (out : List Cell) => ref08_Cover_l5 1048577 m (l.toNat : Int) er (k : Int) (dA a) 0 (s'.toNat : Int) (dI a.shape) (out.map dC)) (fun rest out => [dA (.mk s' a.shape (out ++ rest.map (relC (cvr l er))))]) (fun rest out => out.length + rest.length ≤ 1048576)
        (fun m k out hk _ => by
          simp only [ref08_Cover_l5_succ, dA_0, dA_1, dA_2, dC_0, dC_1, dC_2, dC_3, dC_4, dN_0, dN_1, dN_2, els_sl, els_dI, els_dL, List.length_map, Int.toNat_natCast, toInt_int, toInt_dB, toBool_bool, getD_c0, getD_c1, int_beq, int_bne, not_dec, dInt_dB, Int.toNat_zero]
          refine wp_ndec (by omega) (wp_ret ?_)
          rw [dA_eq]; simp)
        (fun m k out c rest hdr hI ih => by
          obtain ⟨h1, h2, h3⟩ := drop_cons hdr
          have hc := h.cell c (List.mem_of_getElem? h2)
          have hlc := hc.2.2.1
          simp only [ref08_Cover_l5_succ, dA_0, dA_1, dA_2, dC_0, dC_1, dC_2, dC_3, dC_4, dN_0, dN_1, dN_2, els_sl, els_dI, els_dL, List.length_map, Int.toNat_natCast, toInt_int, toInt_dB, toBool_bool, getD_c0, getD_c1, int_beq, int_bne, not_dec, dInt_dB, Int.toNat_zero, getD_map h2]
          have inner : ∀ l' : Lab, l' = cvr l er c.l → Tw (ref08_Cover_l13 1048577 m 1048577 (l.toNat : Int) er (k : Int) [] 0 (dA a) 0 (s'.toNat : Int) (dI a.shape) (out.map dC) (l'.toNat : Int) c.kind (dN c.n) c.c (.sl (c.inn.map dA))) [dA (.mk s' a.shape (out ++ (c :: rest).map (relC (cvr l er))))] := fun l' hl' => by
            have key := loop_list (P := Try.prog) (md := md) c.inn (fun m' j (inn : List Arr) => ref08_Cover_l13 1048577 m m' (l.toNat : Int) er (k : Int) (inn.map dA) (j : Int) (dA a) 0 (s'.toNat : Int) (dI a.shape) (out.map dC) (l'.toNat : Int) c.kind (dN c.n) c.c (.sl (c.inn.map dA))) (fun _ _ => [dA (.mk s' a.shape (out ++ (c :: rest).map (relC (cvr l er))))]) (fun rest' inn => inn.length + rest'.length ≤ 1048576 ∧ inn ++ rest'.map (relA (cvr l er)) = c.inn.map (relA (cvr l er)))
              (fun m' j inn hj hI' => by
                simp only [ref08_Cover_l13_succ, dA_0, dA_1, dA_2, dC_0, dC_1, dC_2, dC_3, dC_4, dN_0, dN_1, dN_2, els_sl, els_dI, els_dL, List.length_map, Int.toNat_natCast, toInt_int, toInt_dB, toBool_bool, getD_c0, getD_c1, int_beq, int_bne, not_dec, dInt_dB, Int.toNat_zero, wrap_succ (show k < 9223372036854775807 by omega)]
                refine wp_ndec (by omega) (wp_dec (by simp only [List.length_cons, List.length_nil, bigN] at hI ⊢; omega) ?_)
                have e1 : inn = c.inn.map (relA (cvr l er)) := by simpa using hI'.2
                have e2 : D.agg [dB l', D.int c.kind, dN c.n, D.int c.c, D.sl (inn.map dA)] = dC (relC (cvr l er) c) := by rw [relC_eq, dC_eq, hl', e1]
                rw [e2]
                have := ih (out ++ [relC (cvr l er) c]) (by simp only [List.length_append, List.length_cons, List.length_nil] at hI ⊢; omega)
                rw [List.map_append] at this
                refine Tree.wp_mono this (fun ys hy => hy.trans ?_)
                simp)
              (fun m' j inn x rest' hdr' hI' ih' => by
                obtain ⟨g1, g2, g3⟩ := drop_cons hdr'
                simp only [ref08_Cover_l13_succ, dA_0, dA_1, dA_2, dC_0, dC_1, dC_2, dC_3, dC_4, dN_0, dN_1, dN_2, els_sl, els_dI, els_dL, List.length_map, Int.toNat_natCast, toInt_int, toInt_dB, toBool_bool, getD_c0, getD_c1, int_beq, int_bne, not_dec, dInt_dB, Int.toNat_zero, getD_map g2, wrap_succ (show j < 9223372036854775807 by omega)]
                repeat (refine wp_dec (by omega) ?_)
                refine wp_call (ref08_Cover_sp l er d x (hc.2.2.2 x (List.mem_of_getElem? g2))) (wp_dec (by have := hI'.1; simp only [List.length_cons, List.length_nil, bigN, List.length_map] at this ⊢; omega) ?_)
                have := ih' (inn ++ [relA (cvr l er) x]) ⟨by have := hI'.1; simp only [List.length_append, List.length_cons, List.length_nil] at this ⊢; omega, by rw [← hI'.2]; simp⟩
                rw [List.map_append] at this
                exact this)
              1048577 0 [] (by omega) (by omega) ⟨by simpa using hlc, by simp⟩
            exact key
          refine wp_dec (by omega) (wp_dec (by omega) (wp_dec (by omega) (wp_br (fun he => ?_) (fun he => ?_))))
          · exact inner l (by simp [cvr, he])
          · refine wp_call (ref01_Join_sp c.l l) ?_
            exact inner (c.l ||| l) (by simp [cvr, he]))
        1048577 0 [] (by omega) (by omega) (by simpa using hl)
      exact key
    refine sound_ 1048577 (ref08_Cover_tree _ _ _ _) ?_
    simp only [dA_0, dA_1, dA_2, dC_0, dC_1, dC_2, dC_3, dC_4, dN_0, dN_1, dN_2, els_sl, els_dI, els_dL, List.length_map, Int.toNat_natCast, toInt_int, toInt_dB, toBool_bool, getD_c0, getD_c1, int_beq, int_bne, not_dec, dInt_dB, Int.toNat_zero]
    rw [relA_eq]
    refine wp_br (fun he => wp_call (ref01_Join_sp a.s l) ?_) (fun he => ?_)
    · have : cvr l er a.s = a.s ||| l := by simp at he; simp [cvr, he]
      rw [this]; exact rest _
    · have : cvr l er a.s = l := by simp at he; simp [cvr, he]
      rw [this]; exact rest _
theorem cvr_zero : cvr 0 true = fun _ => 0 := rfl
theorem ref08_Erase_sp {d : Nat} (a : Arr) (h : Sml d a) : Sp 50 [dA a] [dA (eraA a)] := sound_ 0 (ref08_Erase_tree _ _) (wp_call (ref08_Cover_sp 0 true d a h) (wp_ret rfl))
noncomputable def matA (a b : Arr) : Bool := eqA (eraA a) (eraA b)
theorem ref08_Match_sp {d e : Nat} (a b : Arr) (ha : Sml d a) (hb : Sml e b) : Sp 57 [dA a, dA b] [.bool (matA a b)] :=
  sound_ 0 (ref08_Match_tree _ _ _) (wp_call (ref08_Erase_sp a ha) (wp_call (ref08_Erase_sp b hb) (wp_call (ref08_Same_sp _ (relA_sml ha).fits _) (wp_ret rfl))))
end Go.Proofs.Ytfnmaeniekggeaa
set_option maxRecDepth 100000
namespace Go.Proofs.Ytfnmaeniekggeaa

/-- A loop that asks whether two lists are the same, as they are seen. -/
theorem same_loopF {α β : Type} {P : Program} {md : Nat → FMode} (φ : α → β) (a b : List α) (e : α → α → Bool) (he : ∀ x ∈ a, ∀ y, e x y = true ↔ φ x = φ y) (hlen : a.length = b.length) (r : Bool) (hr : r = true ↔ a.map φ = b.map φ) (L : Nat → Nat → Tree)
    (hend : ∀ m, ∀ Q : List D → Prop, Q [.bool true] → (L (m + 1) a.length).wp P md Q)
    (hstep : ∀ m k x y, ∀ Q : List D → Prop, a[k]? = some x → b[k]? = some y → (e x y = false → Q [.bool false]) → (e x y = true → (L m (k + 1)).wp P md Q) → (L (m + 1) k).wp P md Q) (N : Nat) (hN : a.length < N) : (L N 0).wp P md (fun zs => zs = [.bool r]) := by
  have key := loop_up (P := P) (md := md) a.length (fun m k (_ : Unit) => L m k) (fun _ _ => [.bool r]) (fun k _ => (a.take k).map φ = (b.take k).map φ)
    (fun m s h => by
      refine hend m _ ?_
      rw [List.take_of_length_le (Nat.le_refl _), List.take_of_length_le (by omega)] at h
      rw [hr.2 h])
    (fun m k s hk h ih => by
      have ha : a[k]? = some a[k] := List.getElem?_eq_getElem _
      have hb : b[k]? = some (b[k]'(by omega)) := List.getElem?_eq_getElem _
      refine hstep m k _ _ _ ha hb (fun hf => ?_) (fun ht => ih () ?_)
      · have : r = false := by
          cases hrr : r with
          | false => rfl
          | true =>
            have h2 := hr.1 hrr
            have h3 : (a.map φ)[k]? = (b.map φ)[k]? := by rw [h2]
            rw [List.getElem?_map, List.getElem?_map, ha, hb] at h3
            have h4 : φ a[k] = φ b[k] := by simpa using h3
            rw [(he a[k] (List.getElem_mem _) _).2 h4] at hf; cases hf
        rw [this]
      · have : φ a[k] = φ b[k] := (he a[k] (List.getElem_mem _) _).1 ht
        rw [List.take_succ_eq_append_getElem hk, List.take_succ_eq_append_getElem (by omega), List.map_append, List.map_append, h]
        simp [this])
    N 0 () (by omega) (by omega) (by simp)
  exact key
/-- As an array is seen: with labels, or without. -/
def gl (lb : Bool) (l : Lab) : Lab := if lb then l else 0
noncomputable def eqL (lb : Bool) (a b : Arr) : Bool := eqA (relA (gl lb) a) (relA (gl lb) b)
noncomputable def eqLC (lb : Bool) (a b : Cell) : Bool := eqC (relC (gl lb) a) (relC (gl lb) b)
theorem eqL_true (a b : Arr) : eqL true a b = eqA a b := by unfold eqL; rw [relA_id (gl true) (fun _ => rfl) a, relA_id (gl true) (fun _ => rfl) b]
noncomputable def pd (p : Prop) : Bool := @decide p (Classical.propDecidable _)
theorem pd_iff {p : Prop} : pd p = true ↔ p := @decide_eq_true_iff _ (Classical.propDecidable _)
theorem pd_not {p : Prop} (h : ¬ p) : pd p = false := @decide_eq_false _ (Classical.propDecidable _) h
theorem ite_max {o x : Nat} {z : Int} (h : z = (x : Int)) : (if (o : Int) < z then z else (o : Int)) = ((max o x : Nat) : Int) := by subst h; split <;> omega
theorem eqL_false (a b : Arr) : eqL false a b = matA a b := rfl
theorem eqL_iff {lb : Bool} {a b : Arr} : eqL lb a b = true ↔ relA (gl lb) a = relA (gl lb) b := eqA_iff
theorem eqLC_iff {lb : Bool} {a b : Cell} : eqLC lb a b = true ↔ relC (gl lb) a = relC (gl lb) b := eqC_iff
theorem eqLC_iff' {lb : Bool} {a b : Cell} : eqLC lb a b = true ↔ (gl lb a.l = gl lb b.l ∧ a.kind = b.kind ∧ a.c = b.c ∧ a.n = b.n ∧ a.inn.map (relA (gl lb)) = b.inn.map (relA (gl lb))) := by rw [eqLC_iff, relC_eq, relC_eq, cell_eq]
theorem eqL_iff' {lb : Bool} {a b : Arr} : eqL lb a b = true ↔ (gl lb a.s = gl lb b.s ∧ a.shape = b.shape ∧ a.cells.map (relC (gl lb)) = b.cells.map (relC (gl lb))) := by rw [eqL_iff, relA_eq, relA_eq, arr_eq]; simp
theorem bool_false {b : Bool} (h : ¬ b = true) : b = false := by cases b with | false => rfl | true => exact absurd rfl h
theorem array_equal_all (lb : Bool) : ∀ (d : Nat) (a b : Arr), Sml d a → Sp 80 [dA a, dA b, .bool lb] [.bool (eqL lb a b)]
  | 0, _, _, h => h.elim
  | d + 1, a, b, h => by
    have hcell : ∀ (x y : Cell), SmlC d x → Spec Try.prog md 108 [.ref 4] [dC x, dC y, D.ref (.bool lb)] [.bool (eqLC lb x y)] := fun x y hx => by
      have hlx := hx.2.2.1
      have hinn : Sp 110 [.sl (x.inn.map dA), .sl (y.inn.map dA), D.fn 111 [.ref 4] [D.ref (.bool lb)]] [.bool (pd (x.inn.map (relA (gl lb)) = y.inn.map (relA (gl lb))))] := by
        refine sound_ (x.inn.length + 1) (slices_EqualFunc_api_Array_api_Array_api_Array_api_Array_tree_array_equal_1_1 _ _ _ _) ?_
        simp only [dA_0, dA_1, dA_2, dC_0, dC_1, dC_2, dC_3, dC_4, dN_0, dN_1, dN_2, els_sl, els_dI, els_dL, List.length_map, Int.toNat_natCast, toInt_int, toInt_dB, toBool_bool, getD_c0, getD_c1, int_beq, int_bne, not_dec, dInt_dB, Int.toNat_zero]
        refine wp_decs (fun h => wp_ret ?_) (fun h => ?_)
        · rw [pd_not]
          intro hh; have := congrArg List.length hh; simp at this; omega
        · refine same_loopF (P := Try.prog) (md := md) (relA (gl lb)) x.inn y.inn (eqL lb) (fun p _ q => eqL_iff) (by omega) _ pd_iff (fun m k => slices_EqualFunc_api_Array_api_Array_api_Array_api_Array_l4 (x.inn.length + 1) m (.sl (y.inn.map dA)) (D.fn 111 [.ref 4] [D.ref (.bool lb)]) (.sl (x.inn.map dA)) (x.inn.length : Int) (k : Int)) ?_ ?_ (x.inn.length + 1) (by omega)
          · intro m Q hQ
            simp only [slices_EqualFunc_api_Array_api_Array_api_Array_api_Array_l4_succ_array_equal_1_1, dA_0, dA_1, dA_2, dC_0, dC_1, dC_2, dC_3, dC_4, dN_0, dN_1, dN_2, els_sl, els_dI, els_dL, List.length_map, Int.toNat_natCast, toInt_int, toInt_dB, toBool_bool, getD_c0, getD_c1, int_beq, int_bne, not_dec, dInt_dB, Int.toNat_zero]
            exact wp_ndec (by omega) (wp_ret hQ)
          · intro m k p q Q hp hq hF hT
            have hk : k < x.inn.length := (List.getElem?_eq_some_iff.1 hp).1
            have hk' : k < y.inn.length := (List.getElem?_eq_some_iff.1 hq).1
            simp only [slices_EqualFunc_api_Array_api_Array_api_Array_api_Array_l4_succ_array_equal_1_1, dA_0, dA_1, dA_2, dC_0, dC_1, dC_2, dC_3, dC_4, dN_0, dN_1, dN_2, els_sl, els_dI, els_dL, List.length_map, Int.toNat_natCast, toInt_int, toInt_dB, toBool_bool, getD_c0, getD_c1, int_beq, int_bne, not_dec, dInt_dB, Int.toNat_zero, getD_map hp, getD_map hq, wrap_succ (show k < 9223372036854775807 by omega), fnId_fn, fnCts_fn, fnDs_fn, List.cons_append, List.nil_append]
            repeat (refine wp_dec (by omega) ?_)
            refine wp_call (ys := [.bool (eqL lb p q)]) (sound_ 0 (array_equal_1_1_tree _ _ _ _) (wp_call (array_equal_all lb d p q (hx.2.2.2 p (List.mem_of_getElem? hp))) (wp_ret rfl))) ?_
            simp only [getD_c0, toBool_bool]
            exact wp_br (fun h => wp_ret (hF (by simpa using h))) (fun h => hT (by simpa using h))
      have fin : ∀ (hl : gl lb x.l = gl lb y.l), Tw (.br (decide (¬ x.kind = y.kind)) (.ret [D.bool false]) (.br (decide (¬ x.c = y.c)) (.ret [D.bool false]) (.call 109 [] [dN x.n, dN y.n] fun yy1 => .br (!((yy1.getD 0 D.nil).toBool)) (.ret [D.bool false]) (.call 110 [] [.sl (x.inn.map dA), .sl (y.inn.map dA), D.fn 111 [.ref 4] [D.ref (.bool lb)]] fun yy2 => .ret [D.bool ((yy2.getD 0 D.nil).toBool)])))) [.bool (eqLC lb x y)] := fun hl => by
        refine wp_decs (fun h => wp_ret ?_) (fun h2 => wp_decs (fun h => wp_ret ?_) (fun h3 => wp_call (ratio_Same_sp x.n y.n hx.fits.1 hx.fits.2.1) ?_))
        · rw [bool_false (fun hh => h (eqLC_iff'.1 hh).2.1)]
        · rw [bool_false (fun hh => h (eqLC_iff'.1 hh).2.2.1)]
        simp only [getD_c0, toBool_bool, not_dec]
        refine wp_decs (fun h => wp_ret ?_) (fun h4 => wp_call hinn (wp_ret ?_))
        · rw [bool_false (fun hh => h (eqLC_iff'.1 hh).2.2.2.1)]
        · simp only [getD_c0, toBool_bool]
          congr 2
          rw [Bool.eq_iff_iff, eqLC_iff', pd_iff]
          exact ⟨fun hh => ⟨hl, Classical.not_not.1 h2, Classical.not_not.1 h3, Classical.not_not.1 h4, hh⟩, fun hh => hh.2.2.2.2⟩
      refine sound_ 0 (array_equal_1_tree _ _ _ _) ?_
      simp only [dA_0, dA_1, dA_2, dC_0, dC_1, dC_2, dC_3, dC_4, dN_0, dN_1, dN_2, els_sl, els_dI, els_dL, List.length_map, Int.toNat_natCast, toInt_int, toInt_dB, toBool_bool, getD_c0, getD_c1, int_beq, int_bne, not_dec, dInt_dB, Int.toNat_zero, unref_ref]
      refine wp_br (fun hb => wp_decs (fun h => wp_ret ?_) (fun h1 => fin ?_)) (fun hb => fin ?_)
      · have hf : eqLC lb x y = false := bool_false (fun hh => h (by
          have := (eqLC_iff'.1 hh).1
          simp only [gl, hb, if_true] at this
          rw [this]))
        rw [hf]
      · simp only [gl, hb, if_true]; exact BitVec.eq_of_toNat_eq (by omega)
      · simp [gl, hb]
    have hcells : Sp 107 [.sl (a.cells.map dC), .sl (b.cells.map dC), D.fn 108 [.ref 4] [D.ref (.bool lb)]] [.bool (pd (a.cells.map (relC (gl lb)) = b.cells.map (relC (gl lb))))] := by
      have hla := h.2.1
      refine sound_ (a.cells.length + 1) (slices_EqualFunc_api_Cell_api_Cell_api_Cell_api_Cell_tree_array_equal_1 _ _ _ _) ?_
      simp only [dA_0, dA_1, dA_2, dC_0, dC_1, dC_2, dC_3, dC_4, dN_0, dN_1, dN_2, els_sl, els_dI, els_dL, List.length_map, Int.toNat_natCast, toInt_int, toInt_dB, toBool_bool, getD_c0, getD_c1, int_beq, int_bne, not_dec, dInt_dB, Int.toNat_zero]
      refine wp_decs (fun h => wp_ret ?_) (fun h' => ?_)
      · rw [pd_not]
        intro hh; have := congrArg List.length hh; simp at this; omega
      · refine same_loopF (P := Try.prog) (md := md) (relC (gl lb)) a.cells b.cells (eqLC lb) (fun p _ q => eqLC_iff) (by omega) _ pd_iff (fun m k => slices_EqualFunc_api_Cell_api_Cell_api_Cell_api_Cell_l4 (a.cells.length + 1) m (.sl (b.cells.map dC)) (D.fn 108 [.ref 4] [D.ref (.bool lb)]) (.sl (a.cells.map dC)) (a.cells.length : Int) (k : Int)) ?_ ?_ (a.cells.length + 1) (by omega)
        · intro m Q hQ
          simp only [slices_EqualFunc_api_Cell_api_Cell_api_Cell_api_Cell_l4_succ_array_equal_1, dA_0, dA_1, dA_2, dC_0, dC_1, dC_2, dC_3, dC_4, dN_0, dN_1, dN_2, els_sl, els_dI, els_dL, List.length_map, Int.toNat_natCast, toInt_int, toInt_dB, toBool_bool, getD_c0, getD_c1, int_beq, int_bne, not_dec, dInt_dB, Int.toNat_zero]
          exact wp_ndec (by omega) (wp_ret hQ)
        · intro m k p q Q hp hq hF hT
          have hk : k < a.cells.length := (List.getElem?_eq_some_iff.1 hp).1
          have hk' : k < b.cells.length := (List.getElem?_eq_some_iff.1 hq).1
          simp only [slices_EqualFunc_api_Cell_api_Cell_api_Cell_api_Cell_l4_succ_array_equal_1, dA_0, dA_1, dA_2, dC_0, dC_1, dC_2, dC_3, dC_4, dN_0, dN_1, dN_2, els_sl, els_dI, els_dL, List.length_map, Int.toNat_natCast, toInt_int, toInt_dB, toBool_bool, getD_c0, getD_c1, int_beq, int_bne, not_dec, dInt_dB, Int.toNat_zero, getD_map hp, getD_map hq, wrap_succ (show k < 9223372036854775807 by omega), fnId_fn, fnCts_fn, fnDs_fn, List.cons_append, List.nil_append]
          repeat (refine wp_dec (by omega) ?_)
          refine wp_call (hcell p q (h.cell p (List.mem_of_getElem? hp))) ?_
          simp only [getD_c0, toBool_bool]
          exact wp_br (fun h => wp_ret (hF (by simpa using h))) (fun h => hT (by simpa using h))
    have fin : ∀ (hl : gl lb a.s = gl lb b.s), Tw (.call 106 [] [dI a.shape, dI b.shape] fun yy1 => .br (!((yy1.getD 0 D.nil).toBool)) (.ret [D.bool false]) (.call 107 [] [.sl (a.cells.map dC), .sl (b.cells.map dC), D.fn 108 [.ref 4] [D.ref (.bool lb)]] fun yy2 => .ret [D.bool ((yy2.getD 0 D.nil).toBool)])) [.bool (eqL lb a b)] := fun hl => by
      refine wp_call (slices_EqualI_sp a.shape b.shape (by have := h.1; omega)) ?_
      simp only [getD_c0, toBool_bool, not_dec]
      refine wp_decs (fun h => wp_ret ?_) (fun h1 => wp_call hcells (wp_ret ?_))
      · rw [bool_false (fun hh => h (eqL_iff'.1 hh).2.1)]
      · simp only [getD_c0, toBool_bool]
        congr 2
        rw [Bool.eq_iff_iff, eqL_iff', pd_iff]
        exact ⟨fun hh => ⟨hl, Classical.not_not.1 h1, hh⟩, fun hh => hh.2.2⟩
    refine sound_ 0 (array_equal_tree _ _ _ _) ?_
    simp only [dA_0, dA_1, dA_2, dC_0, dC_1, dC_2, dC_3, dC_4, dN_0, dN_1, dN_2, els_sl, els_dI, els_dL, List.length_map, Int.toNat_natCast, toInt_int, toInt_dB, toBool_bool, getD_c0, getD_c1, int_beq, int_bne, not_dec, dInt_dB, Int.toNat_zero]
    refine wp_br (fun hb => wp_decs (fun h => wp_ret ?_) (fun h1 => fin ?_)) (fun hb => fin ?_)
    · have hf : eqL lb a b = false := bool_false (fun hh => h (by
        have := (eqL_iff'.1 hh).1
        simp only [gl, hb, if_true] at this
        rw [this]))
      rw [hf]
    · simp only [gl, hb, if_true]; exact BitVec.eq_of_toNat_eq (by omega)
    · simp [gl, hb]
theorem array_Match_sp {d : Nat} (a b : Arr) (h : Sml d a) : Sp 37 [dA a, dA b] [.bool (matA a b)] := sound_ 0 (array_Match_tree _ _ _) (wp_call (array_equal_all false d a b h) (wp_ret rfl))
theorem array_Same_sp {d : Nat} (a b : Arr) (h : Sml d a) : Sp 56 [dA a, dA b] [.bool (eqA a b)] := sound_ 0 (array_Same_tree _ _ _) (wp_call (array_equal_all true d a b h) (wp_ret (by rw [eqL_true]; rfl)))
mutual
def depA : Arr → Nat
  | .mk s sh cs => if simpleA (.mk s sh cs) then 0 else depCs cs + 1
def depCs : List (CellF Arr) → Nat
  | [] => 0
  | c :: cs => max (depC c) (depCs cs)
def depC : CellF Arr → Nat
  | ⟨_, _, _, _, inn⟩ => depAs inn
def depAs : List Arr → Nat
  | [] => 0
  | a :: as_ => max (depA a) (depAs as_)
end
theorem depA_eq (a : Arr) : depA a = if simpleA a then 0 else depCs a.cells + 1 := by cases a; rw [depA]; rfl
theorem depC_eq (c : Cell) : depC c = depAs c.inn := by cases c; rw [depC]
theorem depCs_le {k : Nat} : ∀ {cs : List Cell}, (∀ c ∈ cs, depC c ≤ k) → depCs cs ≤ k
  | [], _ => by rw [depCs]; omega
  | c :: cs, h => by
    have h1 := h c (by simp)
    have h2 := depCs_le (fun x hx => h x (List.mem_cons_of_mem _ hx))
    rw [depCs]; omega
theorem depAs_le {k : Nat} : ∀ {as_ : List Arr}, (∀ a ∈ as_, depA a ≤ k) → depAs as_ ≤ k
  | [], _ => by rw [depAs]; omega
  | a :: as_, h => by
    have h1 := h a (by simp)
    have h2 := depAs_le (fun x hx => h x (List.mem_cons_of_mem _ hx))
    rw [depAs]; omega
theorem depC_mem : ∀ {cs : List Cell} {c : Cell}, c ∈ cs → depC c ≤ depCs cs
  | d :: cs, c, h => by
    rw [depCs]
    rcases List.mem_cons.1 h with rfl | h
    · omega
    · have := depC_mem h; omega
theorem depA_mem : ∀ {as_ : List Arr} {a : Arr}, a ∈ as_ → depA a ≤ depAs as_
  | d :: as_, a, h => by
    rw [depAs]
    rcases List.mem_cons.1 h with rfl | h
    · omega
    · have := depA_mem h; omega
theorem depA_sml : ∀ {d : Nat} {a : Arr}, Sml d a → depA a ≤ d
  | 0, _, h => h.elim
  | d + 1, a, h => by
    rw [depA_eq]
    have : depCs a.cells ≤ d := depCs_le (fun c hc => by rw [depC_eq]; exact depAs_le (fun x hx => depA_sml ((h.cell c hc).2.2.2 x hx)))
    split <;> omega
theorem array_Depth_sp : ∀ (d : Nat) (a : Arr), d ≤ 10000000 → Sml d a → Sp 45 [dA a] [.int (depA a : Int)]
  | 0, _, _, h => h.elim
  | d + 1, a, hd, h => by
    have hl := h.2.1
    refine sound_ 1048577 (array_Depth_tree _ _) (wp_call (array_Simple_sp a) ?_)
    rw [depA_eq]
    simp only [dA_0, dA_1, dA_2, dC_0, dC_1, dC_2, dC_3, dC_4, dN_0, dN_1, dN_2, els_sl, els_dI, els_dL, List.length_map, Int.toNat_natCast, toInt_int, toInt_dB, toBool_bool, getD_c0, getD_c1, int_beq, int_bne, not_dec, dInt_dB, Int.toNat_zero]
    refine wp_br (fun hs => wp_ret (by rw [if_pos hs]; rfl)) (fun hs => ?_)
    rw [if_neg (by simp [hs])]
    have hb : depCs a.cells ≤ d := depCs_le (fun c hc => by rw [depC_eq]; exact depAs_le (fun x hx => depA_sml ((h.cell c hc).2.2.2 x hx)))
    have key := loop_list (P := Try.prog) (md := md) a.cells (fun m k (o : Nat) => array_Depth_l5 1048577 m (o : Int) (.sl (a.cells.map dC)) (a.cells.length : Int) (k : Int)) (fun rest o => [.int ((max o (depCs rest) + 1 : Nat) : Int)]) (fun rest o => max o (depCs rest) ≤ d)
      (fun m k o hk hI => by
        simp only [array_Depth_l5_succ, dA_0, dA_1, dA_2, dC_0, dC_1, dC_2, dC_3, dC_4, dN_0, dN_1, dN_2, els_sl, els_dI, els_dL, List.length_map, Int.toNat_natCast, toInt_int, toInt_dB, toBool_bool, getD_c0, getD_c1, int_beq, int_bne, not_dec, dInt_dB, Int.toNat_zero]
        refine wp_ndec (by omega) (wp_ret ?_)
        rw [depCs] at hI ⊢
        rw [wrap64 (by omega) (by omega), show max o 0 = o by omega]; rfl)
      (fun m k o c rest hdr hI ih => by
        obtain ⟨h1, h2, h3⟩ := drop_cons hdr
        have hc := h.cell c (List.mem_of_getElem? h2)
        have hlc := hc.2.2.1
        simp only [array_Depth_l5_succ, dA_0, dA_1, dA_2, dC_0, dC_1, dC_2, dC_3, dC_4, dN_0, dN_1, dN_2, els_sl, els_dI, els_dL, List.length_map, Int.toNat_natCast, toInt_int, toInt_dB, toBool_bool, getD_c0, getD_c1, int_beq, int_bne, not_dec, dInt_dB, Int.toNat_zero, getD_map h2]
        repeat (refine wp_dec (by omega) ?_)
        rw [depCs, depC_eq] at hI ⊢
        have key := loop_list (P := Try.prog) (md := md) c.inn (fun m' j (o : Nat) => array_Depth_l8 1048577 m m' (o : Int) (.sl (a.cells.map dC)) (a.cells.length : Int) (k : Int) (.sl (c.inn.map dA)) (c.inn.length : Int) (j : Int)) (fun rest' o => [.int ((max o (max (depAs rest') (depCs rest)) + 1 : Nat) : Int)]) (fun rest' o => max o (max (depAs rest') (depCs rest)) ≤ d)
          (fun m' j o hj hI' => by
            simp only [array_Depth_l8_succ, dA_0, dA_1, dA_2, dC_0, dC_1, dC_2, dC_3, dC_4, dN_0, dN_1, dN_2, els_sl, els_dI, els_dL, List.length_map, Int.toNat_natCast, toInt_int, toInt_dB, toBool_bool, getD_c0, getD_c1, int_beq, int_bne, not_dec, dInt_dB, Int.toNat_zero, wrap_succ (show k < 9223372036854775807 by omega)]
            rw [depAs] at hI' ⊢
            refine wp_ndec (by omega) ?_
            have := ih o (by omega)
            rw [show max o (max 0 (depCs rest)) = max o (depCs rest) by omega]
            exact this)
          (fun m' j o x rest' hdr' hI' ih' => by
            obtain ⟨g1, g2, g3⟩ := drop_cons hdr'
            simp only [array_Depth_l8_succ, dA_0, dA_1, dA_2, dC_0, dC_1, dC_2, dC_3, dC_4, dN_0, dN_1, dN_2, els_sl, els_dI, els_dL, List.length_map, Int.toNat_natCast, toInt_int, toInt_dB, toBool_bool, getD_c0, getD_c1, int_beq, int_bne, not_dec, dInt_dB, Int.toNat_zero, getD_map g2, wrap_succ (show j < 9223372036854775807 by omega)]
            repeat (refine wp_dec (by omega) ?_)
            refine wp_call (array_Depth_sp d x (by omega) (hc.2.2.2 x (List.mem_of_getElem? g2))) ?_
            rw [depAs] at hI' ⊢
            have := ih' (max o (depA x)) (by omega)
            rw [show max o (max (max (depA x) (depAs rest')) (depCs rest)) = max (max o (depA x)) (max (depAs rest') (depCs rest)) by omega]
            rw [ite_max (x := depA x) (z := ([D.int (depA x : Int)].getD 0 D.nil).toInt) rfl]
            exact this)
          1048577 0 o (by omega) (by omega) hI
        exact key)
      1048577 0 0 (by omega) (by omega) (by simpa using hb)
    refine Tree.wp_mono key (fun ys hy => hy.trans ?_)
    simp
theorem ref08_Depth_sp : ∀ (d : Nat) (a : Arr), d ≤ 10000000 → Sml d a → Sp 33 [dA a] [.int (depA a : Int)]
  | 0, _, _, h => h.elim
  | d + 1, a, hd, h => by
    have hl := h.2.1
    refine sound_ 1048577 (ref08_Depth_tree _ _) (wp_call (ref08_Simple_sp a) ?_)
    rw [depA_eq]
    simp only [dA_0, dA_1, dA_2, dC_0, dC_1, dC_2, dC_3, dC_4, dN_0, dN_1, dN_2, els_sl, els_dI, els_dL, List.length_map, Int.toNat_natCast, toInt_int, toInt_dB, toBool_bool, getD_c0, getD_c1, int_beq, int_bne, not_dec, dInt_dB, Int.toNat_zero]
    refine wp_br (fun hs => wp_ret (by rw [if_pos hs]; rfl)) (fun hs => ?_)
    rw [if_neg (by simp [hs])]
    have hb : depCs a.cells ≤ d := depCs_le (fun c hc => by rw [depC_eq]; exact depAs_le (fun x hx => depA_sml ((h.cell c hc).2.2.2 x hx)))
    have key := loop_list (P := Try.prog) (md := md) a.cells (fun m k (o : Nat) => ref08_Depth_l5 1048577 m ((o + 1 : Nat) : Int) (k : Int) (dA a)) (fun rest o => [.int ((max o (depCs rest) + 1 : Nat) : Int)]) (fun rest o => max o (depCs rest) ≤ d)
      (fun m k o hk hI => by
        simp only [ref08_Depth_l5_succ, dA_0, dA_1, dA_2, dC_0, dC_1, dC_2, dC_3, dC_4, dN_0, dN_1, dN_2, els_sl, els_dI, els_dL, List.length_map, Int.toNat_natCast, toInt_int, toInt_dB, toBool_bool, getD_c0, getD_c1, int_beq, int_bne, not_dec, dInt_dB, Int.toNat_zero]
        refine wp_ndec (by omega) (wp_ret ?_)
        rw [depCs, show max o 0 = o by omega])
      (fun m k o c rest hdr hI ih => by
        obtain ⟨h1, h2, h3⟩ := drop_cons hdr
        have hc := h.cell c (List.mem_of_getElem? h2)
        have hlc := hc.2.2.1
        simp only [ref08_Depth_l5_succ, dA_0, dA_1, dA_2, dC_0, dC_1, dC_2, dC_3, dC_4, dN_0, dN_1, dN_2, els_sl, els_dI, els_dL, List.length_map, Int.toNat_natCast, toInt_int, toInt_dB, toBool_bool, getD_c0, getD_c1, int_beq, int_bne, not_dec, dInt_dB, Int.toNat_zero]
        repeat (refine wp_dec (by omega) ?_)
        rw [depCs, depC_eq] at hI ⊢
        have key := loop_list (P := Try.prog) (md := md) c.inn (fun m' j (o : Nat) => ref08_Depth_l8 1048577 m m' ((o + 1 : Nat) : Int) (k : Int) (j : Int) (dA a)) (fun rest' o => [.int ((max o (max (depAs rest') (depCs rest)) + 1 : Nat) : Int)]) (fun rest' o => max o (max (depAs rest') (depCs rest)) ≤ d)
          (fun m' j o hj hI' => by
            simp only [ref08_Depth_l8_succ, dA_0, dA_1, dA_2, dC_0, dC_1, dC_2, dC_3, dC_4, dN_0, dN_1, dN_2, els_sl, els_dI, els_dL, List.length_map, Int.toNat_natCast, toInt_int, toInt_dB, toBool_bool, getD_c0, getD_c1, int_beq, int_bne, not_dec, dInt_dB, Int.toNat_zero, getD_map h2, wrap_succ (show k < 9223372036854775807 by omega)]
            rw [depAs] at hI' ⊢
            refine wp_dec (by omega) (wp_dec (by omega) (wp_ndec (by omega) ?_))
            have := ih o (by omega)
            rw [show max o (max 0 (depCs rest)) = max o (depCs rest) by omega]
            exact this)
          (fun m' j o x rest' hdr' hI' ih' => by
            obtain ⟨g1, g2, g3⟩ := drop_cons hdr'
            simp only [ref08_Depth_l8_succ, dA_0, dA_1, dA_2, dC_0, dC_1, dC_2, dC_3, dC_4, dN_0, dN_1, dN_2, els_sl, els_dI, els_dL, List.length_map, Int.toNat_natCast, toInt_int, toInt_dB, toBool_bool, getD_c0, getD_c1, int_beq, int_bne, not_dec, dInt_dB, Int.toNat_zero, getD_map h2, getD_map g2, wrap_succ (show j < 9223372036854775807 by omega)]
            repeat (refine wp_dec (by omega) ?_)
            refine wp_call (ref08_Depth_sp d x (by omega) (hc.2.2.2 x (List.mem_of_getElem? g2))) ?_
            have hx := depA_sml (hc.2.2.2 x (List.mem_of_getElem? g2))
            simp only [getD_c0, toInt_int, wrap_succ (show depA x < 9223372036854775807 by omega)]
            rw [depAs] at hI' ⊢
            have := ih' (max o (depA x)) (by omega)
            rw [show max o (max (max (depA x) (depAs rest')) (depCs rest)) = max (max o (depA x)) (max (depAs rest') (depCs rest)) by omega]
            refine wp_decs (fun hlt => ?_) (fun hlt => ?_)
            · rw [show max o (depA x) = depA x by omega] at this ⊢; exact this
            · rw [show max o (depA x) = o by omega] at this ⊢; exact this)
          1048577 0 o (by omega) (by omega) hI
        exact key)
      1048577 0 0 (by omega) (by omega) (by simpa using hb)
    refine Tree.wp_mono key (fun ys hy => hy.trans ?_)
    simp
end Go.Proofs.Ytfnmaeniekggeaa
set_option maxRecDepth 100000
namespace Go.Proofs.Ytfnmaeniekggeaa

def allL : Lab := BitVec.allOnes 64
def secA : Arr := .mk allL [] []
def secC : Cell := ⟨allL, 0, .zero, 0, []⟩
mutual
def hidA (o : Lab) : Arr → Arr
  | .mk s sh cs => if flows s o then .mk s sh (hidCs o cs) else secA
def hidCs (o : Lab) : List (CellF Arr) → List (CellF Arr)
  | [] => []
  | c :: cs => hidC o c :: hidCs o cs
def hidC (o : Lab) : CellF Arr → CellF Arr
  | ⟨l, k, n, c, inn⟩ => if flows l o then ⟨l, k, n, c, hidAs o inn⟩ else secC
def hidAs (o : Lab) : List Arr → List Arr
  | [] => []
  | a :: as_ => hidA o a :: hidAs o as_
end
theorem hidCs_map (o : Lab) : ∀ cs, hidCs o cs = cs.map (hidC o)
  | [] => by simp [hidCs]
  | c :: cs => by simp [hidCs, hidCs_map o cs]
theorem hidAs_map (o : Lab) : ∀ as_, hidAs o as_ = as_.map (hidA o)
  | [] => by simp [hidAs]
  | a :: as_ => by simp [hidAs, hidAs_map o as_]
theorem hidA_eq (o : Lab) (a : Arr) : hidA o a = if flows a.s o then .mk a.s a.shape (a.cells.map (hidC o)) else secA := by cases a; rw [hidA, hidCs_map]; rfl
theorem hidC_eq (o : Lab) (c : Cell) : hidC o c = if flows c.l o then ⟨c.l, c.kind, c.n, c.c, c.inn.map (hidA o)⟩ else secC := by cases c; simp [hidC, hidAs_map]
theorem flows_or {a b o : Lab} : flows (a ||| b) o = (flows a o && flows b o) := by
  rw [Bool.eq_iff_iff, Bool.and_eq_true, flows_iff, flows_iff, flows_iff]
  constructor
  · exact fun h => ⟨fun t ht => h t (by simp [ht]), fun t ht => h t (by simp [ht])⟩
  · rintro ⟨h1, h2⟩ t ht
    simp only [BitVec.getLsbD_or, Bool.or_eq_true] at ht
    exact ht.elim (h1 t) (h2 t)
theorem flows_self (a : Lab) : flows a a = true := flows_iff.2 fun _ h => h
theorem flows_zero (o : Lab) : flows 0 o = true := flows_iff.2 fun t h => by simp at h
theorem flows_trans {a b c : Lab} (h : flows a b = true) (k : flows b c = true) : flows a c = true := flows_iff.2 fun t ht => flows_iff.1 k t (flows_iff.1 h t ht)
theorem flows_all {o : Lab} (h : flows allL o = true) (a : Lab) : flows a o = true := by
  rw [flows_64] at h ⊢
  intro t ht _
  exact h t ht (by unfold allL; rw [BitVec.getLsbD_allOnes]; exact decide_eq_true ht)
theorem hid_vis {o : Lab} {a : Arr} (h : flows a.s o = true) : hidA o a = .mk a.s a.shape (a.cells.map (hidC o)) := by rw [hidA_eq, if_pos h]
theorem hid_hid {o : Lab} {a : Arr} (h : flows a.s o = false) : hidA o a = secA := by rw [hidA_eq, if_neg (by simp [h])]
theorem hidC_vis {o : Lab} {c : Cell} (h : flows c.l o = true) : hidC o c = ⟨c.l, c.kind, c.n, c.c, c.inn.map (hidA o)⟩ := by rw [hidC_eq, if_pos h]
theorem hidC_hid {o : Lab} {c : Cell} (h : flows c.l o = false) : hidC o c = secC := by rw [hidC_eq, if_neg (by simp [h])]
/-- Two that are alike. -/
theorem alike_cases {o : Lab} {a b : Arr} (h : hidA o a = hidA o b) : (flows a.s o = false ∧ flows b.s o = false) ∨ (flows a.s o = true ∧ flows b.s o = true ∧ a.s = b.s ∧ a.shape = b.shape ∧ a.cells.map (hidC o) = b.cells.map (hidC o)) := by
  cases ha : flows a.s o <;> cases hb : flows b.s o
  · exact .inl ⟨rfl, rfl⟩
  · rw [hid_hid ha, hid_vis hb] at h
    have : allL = b.s := congrArg Arr.s h
    rw [← this] at hb
    rw [flows_all hb] at ha; cases ha
  · rw [hid_vis ha, hid_hid hb] at h
    have : a.s = allL := congrArg Arr.s h
    rw [this] at ha
    rw [flows_all ha] at hb; cases hb
  · rw [hid_vis ha, hid_vis hb, arr_eq] at h
    exact .inr ⟨rfl, rfl, h.1, h.2.1, h.2.2⟩
theorem alikeC_cases {o : Lab} {a b : Cell} (h : hidC o a = hidC o b) : (flows a.l o = false ∧ flows b.l o = false) ∨ (flows a.l o = true ∧ flows b.l o = true ∧ a.l = b.l ∧ a.kind = b.kind ∧ a.c = b.c ∧ a.n = b.n ∧ a.inn.map (hidA o) = b.inn.map (hidA o)) := by
  cases ha : flows a.l o <;> cases hb : flows b.l o
  · exact .inl ⟨rfl, rfl⟩
  · rw [hidC_hid ha, hidC_vis hb] at h
    have : allL = b.l := congrArg CellF.l h
    rw [← this] at hb
    rw [flows_all hb] at ha; cases ha
  · rw [hidC_vis ha, hidC_hid hb] at h
    have : a.l = allL := congrArg CellF.l h
    rw [this] at ha
    rw [flows_all ha] at hb; cases hb
  · rw [hidC_vis ha, hidC_vis hb, cell_eq] at h
    exact .inr ⟨rfl, rfl, h⟩
theorem alike_hid {o : Lab} {a b : Arr} (ha : flows a.s o = false) (hb : flows b.s o = false) : hidA o a = hidA o b := by rw [hid_hid ha, hid_hid hb]
theorem alike_vis {o : Lab} {a b : Arr} (h1 : a.s = b.s) (h2 : a.shape = b.shape) (h3 : a.cells.map (hidC o) = b.cells.map (hidC o)) : hidA o a = hidA o b := by rw [hidA_eq, hidA_eq, h1, h2, h3]
theorem alikeC_hid {o : Lab} {a b : Cell} (ha : flows a.l o = false) (hb : flows b.l o = false) : hidC o a = hidC o b := by rw [hidC_hid ha, hidC_hid hb]
theorem alikeC_vis {o : Lab} {a b : Cell} (h1 : a.l = b.l) (h2 : a.kind = b.kind) (h3 : a.c = b.c) (h4 : a.n = b.n) (h5 : a.inn.map (hidA o) = b.inn.map (hidA o)) : hidC o a = hidC o b := by rw [hidC_eq, hidC_eq, h1, h2, h3, h4, h5]
noncomputable def alk (o : Lab) (a b : Arr) : Bool := eqA (hidA o a) (hidA o b)
noncomputable def alkC (o : Lab) (a b : Cell) : Bool := eqC (hidC o a) (hidC o b)
theorem alk_iff {o : Lab} {a b : Arr} : alk o a b = true ↔ hidA o a = hidA o b := eqA_iff
theorem alkC_iff {o : Lab} {a b : Cell} : alkC o a b = true ↔ hidC o a = hidC o b := eqC_iff
theorem alk_any {o : Lab} {a b : Arr} (h : ¬ (flows a.s o = true ∧ flows b.s o = true)) : alk o a b = (flows a.s o == flows b.s o) := by
  rw [Bool.eq_iff_iff, alk_iff, beq_iff_eq]
  constructor
  · intro hh
    rcases alike_cases hh with ⟨h1, h2⟩ | ⟨h1, h2, _⟩
    · rw [h1, h2]
    · exact absurd ⟨h1, h2⟩ h
  · intro hh
    cases ha : flows a.s o with
    | true => exact absurd ⟨ha, hh.symm.trans ha⟩ h
    | false => exact alike_hid ha (hh.symm.trans ha)
theorem alkC_any {o : Lab} {a b : Cell} (h : ¬ (flows a.l o = true ∧ flows b.l o = true)) : alkC o a b = (flows a.l o == flows b.l o) := by
  rw [Bool.eq_iff_iff, alkC_iff, beq_iff_eq]
  constructor
  · intro hh
    rcases alikeC_cases hh with ⟨h1, h2⟩ | ⟨h1, h2, _⟩
    · rw [h1, h2]
    · exact absurd ⟨h1, h2⟩ h
  · intro hh
    cases ha : flows a.l o with
    | true => exact absurd ⟨ha, hh.symm.trans ha⟩ h
    | false => exact alikeC_hid ha (hh.symm.trans ha)
theorem alk_both {o : Lab} {a b : Arr} (ha : flows a.s o = true) : alk o a b = true ↔ (a.s = b.s ∧ a.shape = b.shape ∧ a.cells.map (hidC o) = b.cells.map (hidC o)) := by
  rw [alk_iff]
  constructor
  · intro hh
    rcases alike_cases hh with ⟨h1, h2⟩ | ⟨_, _, h⟩
    · rw [ha] at h1; cases h1
    · exact h
  · exact fun h => alike_vis h.1 h.2.1 h.2.2
theorem alkC_both {o : Lab} {a b : Cell} (ha : flows a.l o = true) : alkC o a b = true ↔ (a.l = b.l ∧ a.kind = b.kind ∧ a.c = b.c ∧ a.n = b.n ∧ a.inn.map (hidA o) = b.inn.map (hidA o)) := by
  rw [alkC_iff]
  constructor
  · intro hh
    rcases alikeC_cases hh with ⟨h1, h2⟩ | ⟨_, _, h⟩
    · rw [ha] at h1; cases h1
    · exact h
  · exact fun h => alikeC_vis h.1 h.2.1 h.2.2.1 h.2.2.2.1 h.2.2.2.2
theorem ref09_Alike_sp (o : Lab) : ∀ (d : Nat) (a b : Arr), Sml d a → Sp 39 [dA a, dA b, dB o] [.bool (alk o a b)]
  | 0, _, _, h => h.elim
  | d + 1, a, b, h => by
    have hcell : ∀ (x y : Cell), SmlC d x → Sp 82 [dC x, dC y, dB o] [.bool (alkC o x y)] := fun x y hx => by
      have hlx := hx.2.2.1
      refine sound_ (x.inn.length + 1) (ref09_cells_tree _ _ _ _) ?_
      simp only [dA_0, dA_1, dA_2, dC_0, dC_1, dC_2, dC_3, dC_4, dN_0, dN_1, dN_2, els_sl, els_dI, els_dL, List.length_map, Int.toNat_natCast, toInt_int, toInt_dB, toBool_bool, getD_c0, getD_c1, int_beq, int_bne, not_dec, dInt_dB, Int.toNat_zero]
      refine wp_call (ref01_Flows_sp x.l o) (wp_br (fun h1 => ?_) (fun h1 => wp_call (ref01_Flows_sp y.l o) (wp_br (fun h2 => ?_) (fun h2 => ?_))))
      · have h1' : flows x.l o = false := by simpa using h1
        refine wp_call (ref01_Flows_sp x.l o) (wp_call (ref01_Flows_sp y.l o) (wp_ret ?_))
        rw [alkC_any (by rw [h1']; simp)]; rfl
      · have h2' : flows y.l o = false := by simpa using h2
        refine wp_call (ref01_Flows_sp x.l o) (wp_call (ref01_Flows_sp y.l o) (wp_ret ?_))
        rw [alkC_any (by rw [h2']; simp)]; rfl
      have h1' : flows x.l o = true := by simpa using h1
      have hb := alkC_both (b := y) h1'
      refine wp_decs (fun h => wp_ret ?_) (fun h3 => wp_decs (fun h => wp_ret ?_) (fun h4 => wp_decs (fun h => wp_ret ?_) (fun h5 => wp_call (ref04_Same_sp x.n y.n hx.fits.1 hx.fits.2.1) ?_)))
      · rw [bool_false (b := alkC o x y) (fun hh => h (by rw [(hb.1 hh).1]))]
      · rw [bool_false (b := alkC o x y) (fun hh => h (hb.1 hh).2.1)]
      · rw [bool_false (b := alkC o x y) (fun hh => h (hb.1 hh).2.2.1)]
      simp only [getD_c0, toBool_bool, not_dec]
      refine wp_decs (fun h => wp_ret ?_) (fun h6 => wp_decs (fun h => wp_ret ?_) (fun h7 => ?_))
      · rw [bool_false (b := alkC o x y) (fun hh => h (hb.1 hh).2.2.2.1)]
      · rw [bool_false (b := alkC o x y) (fun hh => h (by have := congrArg List.length (hb.1 hh).2.2.2.2; simp at this; omega))]
      refine same_loopF (P := Try.prog) (md := md) (hidA o) x.inn y.inn (alk o) (fun p _ q => alk_iff) (by omega) (alkC o x y) ?_ (fun m k => ref09_cells_l6 (x.inn.length + 1) m (o.toNat : Int) (k : Int) (dC x) (dC y)) ?_ ?_ (x.inn.length + 1) (by omega)
      · rw [hb]
        exact ⟨fun hh => hh.2.2.2.2, fun hh => ⟨BitVec.eq_of_toNat_eq (by omega), Classical.not_not.1 h4, Classical.not_not.1 h5, Classical.not_not.1 h6, hh⟩⟩
      · intro m Q hQ
        simp only [ref09_cells_l6_succ, dA_0, dA_1, dA_2, dC_0, dC_1, dC_2, dC_3, dC_4, dN_0, dN_1, dN_2, els_sl, els_dI, els_dL, List.length_map, Int.toNat_natCast, toInt_int, toInt_dB, toBool_bool, getD_c0, getD_c1, int_beq, int_bne, not_dec, dInt_dB, Int.toNat_zero]
        exact wp_ndec (by omega) (wp_ret hQ)
      · intro m k p q Q hp hq hF hT
        have hk : k < x.inn.length := (List.getElem?_eq_some_iff.1 hp).1
        simp only [ref09_cells_l6_succ, dA_0, dA_1, dA_2, dC_0, dC_1, dC_2, dC_3, dC_4, dN_0, dN_1, dN_2, els_sl, els_dI, els_dL, List.length_map, Int.toNat_natCast, toInt_int, toInt_dB, toBool_bool, getD_c0, getD_c1, int_beq, int_bne, not_dec, dInt_dB, Int.toNat_zero, getD_map hp, getD_map hq, wrap_succ (show k < 9223372036854775807 by omega)]
        repeat (refine wp_dec (by omega) ?_)
        refine wp_call (ref09_Alike_sp o d p q (hx.2.2.2 p (List.mem_of_getElem? hp))) ?_
        simp only [getD_c0, toBool_bool]
        exact wp_br (fun h => wp_ret (hF (by simpa using h))) (fun h => hT (by simpa using h))
    have hla := h.2.1
    refine sound_ (a.cells.length + 1) (ref09_Alike_tree _ _ _ _) ?_
    simp only [dA_0, dA_1, dA_2, dC_0, dC_1, dC_2, dC_3, dC_4, dN_0, dN_1, dN_2, els_sl, els_dI, els_dL, List.length_map, Int.toNat_natCast, toInt_int, toInt_dB, toBool_bool, getD_c0, getD_c1, int_beq, int_bne, not_dec, dInt_dB, Int.toNat_zero]
    refine wp_call (ref01_Flows_sp a.s o) (wp_br (fun h1 => ?_) (fun h1 => wp_call (ref01_Flows_sp b.s o) (wp_br (fun h2 => ?_) (fun h2 => ?_))))
    · have h1' : flows a.s o = false := by simpa using h1
      refine wp_call (ref01_Flows_sp a.s o) (wp_call (ref01_Flows_sp b.s o) (wp_ret ?_))
      rw [alk_any (by rw [h1']; simp)]; rfl
    · have h2' : flows b.s o = false := by simpa using h2
      refine wp_call (ref01_Flows_sp a.s o) (wp_call (ref01_Flows_sp b.s o) (wp_ret ?_))
      rw [alk_any (by rw [h2']; simp)]; rfl
    have h1' : flows a.s o = true := by simpa using h1
    have hb := alk_both (b := b) h1'
    refine wp_decs (fun h => wp_ret ?_) (fun h3 => wp_call (ref07_Ints_sp a.shape b.shape (by have := h.1; omega)) ?_)
    · rw [bool_false (b := alk o a b) (fun hh => h (by rw [(hb.1 hh).1]))]
    simp only [getD_c0, toBool_bool, not_dec]
    refine wp_decs (fun h => wp_ret ?_) (fun h4 => wp_decs (fun h => wp_ret ?_) (fun h5 => ?_))
    · rw [bool_false (b := alk o a b) (fun hh => h (hb.1 hh).2.1)]
    · rw [bool_false (b := alk o a b) (fun hh => h (by have := congrArg List.length (hb.1 hh).2.2; simp at this; omega))]
    refine same_loopF (P := Try.prog) (md := md) (hidC o) a.cells b.cells (alkC o) (fun p _ q => alkC_iff) (by omega) (alk o a b) ?_ (fun m k => ref09_Alike_l6 (a.cells.length + 1) m (o.toNat : Int) (k : Int) (dA a) (dA b)) ?_ ?_ (a.cells.length + 1) (by omega)
    · rw [hb]
      exact ⟨fun hh => hh.2.2, fun hh => ⟨BitVec.eq_of_toNat_eq (by omega), Classical.not_not.1 h4, hh⟩⟩
    · intro m Q hQ
      simp only [ref09_Alike_l6_succ, dA_0, dA_1, dA_2, dC_0, dC_1, dC_2, dC_3, dC_4, dN_0, dN_1, dN_2, els_sl, els_dI, els_dL, List.length_map, Int.toNat_natCast, toInt_int, toInt_dB, toBool_bool, getD_c0, getD_c1, int_beq, int_bne, not_dec, dInt_dB, Int.toNat_zero]
      exact wp_ndec (by omega) (wp_ret hQ)
    · intro m k p q Q hp hq hF hT
      have hk : k < a.cells.length := (List.getElem?_eq_some_iff.1 hp).1
      simp only [ref09_Alike_l6_succ, dA_0, dA_1, dA_2, dC_0, dC_1, dC_2, dC_3, dC_4, dN_0, dN_1, dN_2, els_sl, els_dI, els_dL, List.length_map, Int.toNat_natCast, toInt_int, toInt_dB, toBool_bool, getD_c0, getD_c1, int_beq, int_bne, not_dec, dInt_dB, Int.toNat_zero, getD_map hp, getD_map hq, wrap_succ (show k < 9223372036854775807 by omega)]
      repeat (refine wp_dec (by omega) ?_)
      refine wp_call (hcell p q (h.cell p (List.mem_of_getElem? hp))) ?_
      simp only [getD_c0, toBool_bool]
      exact wp_br (fun h => wp_ret (hF (by simpa using h))) (fun h => hT (by simpa using h))
/-- All labels joined. -/
theorem totAs_or (as_ : List Arr) (x y : Lab) : as_.foldl (fun l a => l ||| totA a) (x ||| y) = x ||| as_.foldl (fun l a => l ||| totA a) y := by
  induction as_ generalizing y with
  | nil => rfl
  | cons a as_ ih => simp only [List.foldl_cons]; rw [BitVec.or_assoc, ih]
theorem totC_or (x y : Lab) (c : Cell) : totC (x ||| y) c = x ||| totC y c := by rw [totC_eq, totC_eq, BitVec.or_assoc, totAs_or]
theorem totCs_or (cs : List Cell) (x y : Lab) : cs.foldl totC (x ||| y) = x ||| cs.foldl totC y := by
  induction cs generalizing y with
  | nil => rfl
  | cons c cs ih => simp only [List.foldl_cons]; rw [totC_or, ih]
theorem totA_raise (a : Arr) (l : Lab) : totA (raiseA a l) = l ||| totA a := by rw [totA_eq, totA_eq]; show a.cells.foldl totC (a.s ||| l) = _; rw [BitVec.or_comm, totCs_or]
theorem flows_foldA {o : Lab} : ∀ {as_ : List Arr} {x : Lab}, flows (as_.foldl (fun l a => l ||| totA a) x) o = true ↔ (flows x o = true ∧ ∀ a ∈ as_, flows (totA a) o = true)
  | [], x => by simp
  | a :: as_, x => by
    simp only [List.foldl_cons]
    rw [flows_foldA, flows_or, Bool.and_eq_true]
    simp only [List.mem_cons, forall_eq_or_imp]
    exact and_assoc
theorem flows_totC {o x : Lab} {c : Cell} : flows (totC x c) o = true ↔ (flows x o = true ∧ flows c.l o = true ∧ ∀ a ∈ c.inn, flows (totA a) o = true) := by
  rw [totC_eq, flows_foldA, flows_or, Bool.and_eq_true]; exact and_assoc
theorem flows_foldC {o : Lab} : ∀ {cs : List Cell} {x : Lab}, flows (cs.foldl totC x) o = true ↔ (flows x o = true ∧ ∀ c ∈ cs, flows c.l o = true ∧ ∀ a ∈ c.inn, flows (totA a) o = true)
  | [], x => by simp
  | c :: cs, x => by
    simp only [List.foldl_cons]
    rw [flows_foldC, flows_totC]
    simp only [List.mem_cons, forall_eq_or_imp]
    exact ⟨fun h => ⟨h.1.1, h.1.2, h.2⟩, fun h => ⟨⟨h.1, h.2.1⟩, h.2.2⟩⟩
theorem flows_totA {o : Lab} {a : Arr} : flows (totA a) o = true ↔ (flows a.s o = true ∧ ∀ c ∈ a.cells, flows c.l o = true ∧ ∀ x ∈ c.inn, flows (totA x) o = true) := by rw [totA_eq, flows_foldC]
/-- Where all is seen, nothing is hidden. -/
theorem hid_total {o : Lab} {a : Arr} : flows (totA a) o = true → hidA o a = a := by
  induction a using Arr.ind with
  | h s sh cs IH =>
    intro h
    obtain ⟨h1, h2⟩ := flows_totA.1 h
    rw [hid_vis h1]
    have : cs.map (hidC o) = cs := by
      conv => rhs; rw [← List.map_id cs]
      refine List.map_congr_left (fun c hc => ?_)
      obtain ⟨g1, g2⟩ := h2 c hc
      rw [hidC_vis g1]
      have : c.inn.map (hidA o) = c.inn := by
        conv => rhs; rw [← List.map_id c.inn]
        exact List.map_congr_left (fun x hx => IH c hc x hx (g2 x hx))
      rw [this]; rfl
    show Arr.mk s sh (cs.map (hidC o)) = _
    rw [this]
theorem total_hid {o : Lab} {a : Arr} : flows (totA (hidA o a)) o = true → hidA o a = a := by
  induction a using Arr.ind with
  | h s sh cs IH =>
    intro h
    cases hs : flows (Arr.mk s sh cs).s o with
    | false =>
      rw [hid_hid hs] at h
      have := flows_all (flows_totA.1 h).1 (Arr.mk s sh cs).s
      rw [hs] at this; cases this
    | true =>
      rw [hid_vis hs] at h ⊢
      obtain ⟨_, h2⟩ := flows_totA.1 h
      have : cs.map (hidC o) = cs := by
        conv => rhs; rw [← List.map_id cs]
        refine List.map_congr_left (fun c hc => ?_)
        obtain ⟨g1, g2⟩ := h2 (hidC o c) (List.mem_map.2 ⟨c, hc, rfl⟩)
        cases hl : flows c.l o with
        | false =>
          rw [hidC_hid hl] at g1
          have := flows_all g1 c.l
          rw [hl] at this; cases this
        | true =>
          rw [hidC_vis hl] at g2 ⊢
          have : c.inn.map (hidA o) = c.inn := by
            conv => rhs; rw [← List.map_id c.inn]
            exact List.map_congr_left (fun x hx => IH c hc x hx (g2 (hidA o x) (List.mem_map.2 ⟨x, hx, rfl⟩)))
          rw [this]; rfl
      show Arr.mk s sh (cs.map (hidC o)) = _
      rw [this]
/-- Alike, and all seen: the same. -/
theorem alike_total {o : Lab} {a b : Arr} (h : hidA o a = hidA o b) (ht : flows (totA a) o = true) : a = b := by
  have h1 := hid_total ht
  rw [h1] at h
  rw [h] at ht
  rw [h]; exact total_hid ht
theorem alike_totals {o : Lab} {a b : Arr} (h : hidA o a = hidA o b) : a = b ∨ (flows (totA a) o = false ∧ flows (totA b) o = false) := by
  cases ha : flows (totA a) o with
  | true => exact .inl (alike_total h ha)
  | false =>
    cases hb : flows (totA b) o with
    | true => exact .inl (alike_total h.symm hb).symm
    | false => exact .inr ⟨rfl, rfl⟩
theorem raise_alike {o l : Lab} {a b : Arr} (h : hidA o a = hidA o b) : hidA o (raiseA a l) = hidA o (raiseA b l) := by
  rcases alike_cases h with ⟨h1, h2⟩ | ⟨h1, h2, h3, h4, h5⟩
  · exact alike_hid (by show flows (a.s ||| l) o = false; rw [flows_or, h1]; rfl) (by show flows (b.s ||| l) o = false; rw [flows_or, h2]; rfl)
  · exact alike_vis (by show a.s ||| l = b.s ||| l; rw [h3]) h4 h5
theorem raise_hid {o l : Lab} {a b : Arr} {m : Lab} (h1 : flows l o = false) (h2 : flows m o = false) : hidA o (raiseA a l) = hidA o (raiseA b m) :=
  alike_hid (by show flows (a.s ||| l) o = false; rw [flows_or, h1, Bool.and_false]) (by show flows (b.s ||| m) o = false; rw [flows_or, h2, Bool.and_false])
theorem unpC_alike {o : Lab} {c d : Cell} (h : hidC o c = hidC o d) : hidA o (unpC c) = hidA o (unpC d) := by
  rcases alikeC_cases h with ⟨h1, h2⟩ | ⟨h1, h2, h3, h4, h5, h6, h7⟩
  · have hu : ∀ x : Cell, flows x.l o = false → flows (unpC x).s o = false := fun x hx => by
      unfold unpC
      split
      · split
        · show flows (_ ||| x.l) o = false; rw [flows_or, hx, Bool.and_false]
        · exact hx
      · exact hx
    exact alike_hid (hu c h1) (hu d h2)
  · have hl : c.inn.length = d.inn.length := by have := congrArg List.length h7; simpa using this
    by_cases hb : c.kind = 2 ∧ c.inn.length = 1
    · obtain ⟨x, hx⟩ := len_one hb.2
      obtain ⟨y, hy⟩ := len_one (hl ▸ hb.2)
      rw [unpC_pos hb.1 hx, unpC_pos (h4 ▸ hb.1) hy, h3]
      rw [hx, hy] at h7
      exact raise_alike (by simpa using h7)
    · rw [unpC_neg hb, unpC_neg (by rw [← h4, ← hl]; exact hb)]
      exact alike_vis h3 rfl (by simpa using h)
end Go.Proofs.Ytfnmaeniekggeaa
set_option maxRecDepth 100000
namespace Go.Proofs.Ytfnmaeniekggeaa
/-! scrim/mold.Reshape -/
def mold_Reshape_orc : List (Nat × Orc) := [(12, ⟨[(2, none), (3, none), (4, none), (6, some 23), (9, some 24), (10, none), (41, none), (42, none)], [(2, true), (3, true), (4, false)], [(.slot 10, 1120, 57)]⟩)]
def mold_Reshape_ps : List Nat := [26, 26]
def mold_Reshape_rs : List ResultVar := [.cell 4 26, .tmp 5]
def mold_Reshape_ts : List Nat := [26, 29]
noncomputable def mold_Reshape_l12 (n m12 : Nat) (of6 : D) (from9 : D) (cells10 : List D) (t41 : Int) (t42 : Int) (n2 : D) (a3 : D) (t4_0 : Int) : Tree :=
  evLoop Try.prog md (ev Try.prog md n mold_Reshape_orc (cAt (bodyOf Try.prog 14) [1, 1, 1, 1, 1, 1, 1, 1, 0, 1, 0, 0])) (orcAt mold_Reshape_orc 12) m12 ⟨[.undef, .undef, .ptr 2 [], .ptr 3 [], .ptr 4 [], .undef, .d 23 of6, .undef, .undef, .d 24 from9, .row 1120, .undef, .undef, .undef, .undef, .undef, .undef, .undef, .undef, .undef, .undef, .undef, .undef, .undef, .undef, .undef, .undef, .undef, .undef, .undef, .undef, .undef, .undef, .undef, .undef, .undef, .undef, .undef, .undef, .undef, .undef, .i .i64 t41, .i .i64 t42, .undef, .undef, .undef, .undef, .undef, .undef, .undef, .undef, .undef, .undef, .undef, .undef, .undef, .undef, .undef, .undef, .undef, .undef, .undef, .undef, .undef], [(2, .var 26 (.d 26 n2) true), (3, .var 26 (.d 26 a3) true), (4, .var 26 (.agg 26 [.i .u64 t4_0, .mt, .mt]) true), (1120, .row 57 cells10 true)], [2, 3, 4, 1120], [], []⟩
   (blockK 0 (seqK (ev Try.prog md n mold_Reshape_orc (cAt (bodyOf Try.prog 14) [1, 1, 1, 1, 1, 1, 1, 1, 1])) (retK Try.prog md (md 14) mold_Reshape_ps mold_Reshape_rs mold_Reshape_ts)))
theorem mold_Reshape_l12_succ (n m12 : Nat) (of6 : D) (from9 : D) (cells10 : List D) (t41 : Int) (t42 : Int) (n2 : D) (a3 : D) (t4_0 : Int) : mold_Reshape_l12 n (m12 + 1) of6 from9 cells10 t41 t42 n2 a3 t4_0 =
 .br (decide (t42 < t41)) (.br (!((from9.els.length : Int) == (0 : Int))) (.br (decide (0 ≤ Int.tmod t42 (from9.els.length : Int))) (.br (decide (Int.tmod t42 (from9.els.length : Int) < (from9.els.length : Int))) (.br (decide (0 ≤ t42)) (.br (decide (t42 < (cells10.length : Int))) (mold_Reshape_l12 n m12 of6 from9 (cells10.set (Int.toNat t42) (from9.els.getD (Int.toNat (Int.tmod t42 (from9.els.length : Int))) D.nil)) t41 (IntKind.wrap .i64 (t42 + 1)) n2 a3 t4_0) .fail) .fail) .fail) .fail) .fail)
 (.call 48 [] [n2] fun yy4 =>
 .call 69 [] [D.int ((a3.fld 0).toInt), D.int ((yy4.getD 0 D.nil).toInt)] fun yy5 =>
 .ret [D.agg [D.int ((yy5.getD 0 D.nil).toInt), of6, D.sl cells10], D.int 0]) := by kernel_rfl
theorem mold_Reshape_tree (n : Nat) (n0 : D) (a1 : D) : evFun Try.prog md mold_Reshape_orc n 14 [] [n0, a1] =
 .call 66 [] [n0] fun yy1 =>
 .br (((yy1.getD 1 D.nil).toInt) != 0) (.ret [D.agg [D.int 0, D.sl [], D.sl []], D.int ((yy1.getD 1 D.nil).toInt)])
 (.call 67 [] [yy1.getD 0 D.nil] fun yy2 =>
 .br (((yy2.getD 1 D.nil).toInt) != 0) (.ret [D.agg [D.int 0, D.sl [], D.sl []], D.int ((yy2.getD 1 D.nil).toInt)])
 (.br ((((a1.fld 2).els).length : Int) == 0) (.call 68 [] [a1] fun yy3 =>
 .br (decide (0 ≤ (yy2.getD 0 D.nil).toInt)) (.br (decide ((yy2.getD 0 D.nil).toInt ≤ (yy2.getD 0 D.nil).toInt)) (.br (decide ((yy2.getD 0 D.nil).toInt ≤ bigN)) (mold_Reshape_l12 n n (yy1.getD 0 D.nil) (D.sl [yy3.getD 0 D.nil]) (List.replicate (Int.toNat ((yy2.getD 0 D.nil).toInt)) (D.agg [D.int 0, D.int 0, D.agg [D.bool false, D.sl [], D.sl []], D.int 0, D.sl []])) ((List.replicate (Int.toNat ((yy2.getD 0 D.nil).toInt)) (D.agg [D.int 0, D.int 0, D.agg [D.bool false, D.sl [], D.sl []], D.int 0, D.sl []])).length : Int) 0 n0 a1 0) .fail) .fail) .fail)
 (.br (decide (0 ≤ (yy2.getD 0 D.nil).toInt)) (.br (decide ((yy2.getD 0 D.nil).toInt ≤ (yy2.getD 0 D.nil).toInt)) (.br (decide ((yy2.getD 0 D.nil).toInt ≤ bigN)) (mold_Reshape_l12 n n (yy1.getD 0 D.nil) (a1.fld 2) (List.replicate (Int.toNat ((yy2.getD 0 D.nil).toInt)) (D.agg [D.int 0, D.int 0, D.agg [D.bool false, D.sl [], D.sl []], D.int 0, D.sl []])) ((List.replicate (Int.toNat ((yy2.getD 0 D.nil).toInt)) (D.agg [D.int 0, D.int 0, D.agg [D.bool false, D.sl [], D.sl []], D.int 0, D.sl []])).length : Int) 0 n0 a1 0) .fail) .fail) .fail))) := by kernel_rfl

/-! scrim/scrimref11.Reshape -/
def ref11_Reshape_orc : List (Nat × Orc) := [(10, ⟨[(3, none), (4, none), (8, none), (10, none), (11, none), (12, none)], [(3, true), (4, false), (10, false)], [(.fld 10 [2], 1100, 57)]⟩)]
def ref11_Reshape_ps : List Nat := [26, 26]
def ref11_Reshape_rs : List ResultVar := [.cell 4 26, .tmp 5]
def ref11_Reshape_ts : List Nat := [26, 3]
noncomputable def ref11_Reshape_l10 (n m10 : Nat) (k8 : Int) (at11 : Int) (i12 : Int) (a3 : D) (t4_0 : Int) (out10_0 : Int) (out10_1 : D) (out10_2 : List D) : Tree :=
  evLoop Try.prog md (ev Try.prog md n ref11_Reshape_orc (cAt (bodyOf Try.prog 15) [1, 1, 1, 1, 1, 1, 1, 0, 1, 0, 0])) (orcAt ref11_Reshape_orc 10) m10 ⟨[.undef, .undef, .undef, .ptr 3 [], .ptr 4 [], .undef, .undef, .undef, .i .i64 k8, .undef, .ptr 10 [], .i .i64 at11, .i .i64 i12, .undef, .undef, .undef, .undef, .undef, .undef, .undef, .undef, .undef, .undef, .undef, .undef, .undef, .undef, .undef, .undef, .undef, .undef, .undef, .undef, .undef, .undef, .undef, .undef, .undef, .undef, .undef, .undef, .undef, .undef, .undef, .undef, .undef, .undef, .undef, .undef, .undef, .undef, .undef, .undef, .undef, .undef, .undef, .undef, .undef, .undef, .undef, .undef, .undef, .undef, .undef, .undef, .undef, .undef, .undef, .undef, .undef, .undef], [(3, .var 26 (.d 26 a3) true), (4, .var 26 (.agg 26 [.i .u64 t4_0, .mt, .mt]) true), (10, .var 26 (.agg 26 [.i .u64 out10_0, .d 23 out10_1, .row 1100]) true), (1100, .row 57 out10_2 true)], [3, 4, 10, 1100], [], []⟩
   (blockK 0 (seqK (ev Try.prog md n ref11_Reshape_orc (cAt (bodyOf Try.prog 15) [1, 1, 1, 1, 1, 1, 1, 1])) (retK Try.prog md (md 15) ref11_Reshape_ps ref11_Reshape_rs ref11_Reshape_ts)))
theorem ref11_Reshape_l10_succ (n m10 : Nat) (k8 : Int) (at11 : Int) (i12 : Int) (a3 : D) (t4_0 : Int) (out10_0 : Int) (out10_1 : D) (out10_2 : List D) : ref11_Reshape_l10 n (m10 + 1) k8 at11 i12 a3 t4_0 out10_0 out10_1 out10_2 =
 .br (decide (i12 < k8)) (.br ((((a3.fld 2).els).length : Int) == 0) (.call 72 [] [D.int 0] fun yy5 =>
 .br (decide (out10_2.length + [yy5.getD 0 D.nil].length ≤ bigN)) (ref11_Reshape_l10 n m10 k8 at11 (IntKind.wrap .i64 (i12 + 1)) a3 t4_0 out10_0 out10_1 (out10_2 ++ [yy5.getD 0 D.nil])) .fail)
 (.br (decide (0 ≤ at11)) (.br (decide (at11 < (((a3.fld 2).els).length : Int))) (.br (decide (out10_2.length + [((a3.fld 2).els).getD (Int.toNat at11) D.nil].length ≤ bigN)) (.br ((IntKind.wrap .i64 (at11 + 1)) == (((a3.fld 2).els).length : Int)) (ref11_Reshape_l10 n m10 k8 0 (IntKind.wrap .i64 (i12 + 1)) a3 t4_0 out10_0 out10_1 (out10_2 ++ [((a3.fld 2).els).getD (Int.toNat at11) D.nil]))
 (ref11_Reshape_l10 n m10 k8 (IntKind.wrap .i64 (at11 + 1)) (IntKind.wrap .i64 (i12 + 1)) a3 t4_0 out10_0 out10_1 (out10_2 ++ [((a3.fld 2).els).getD (Int.toNat at11) D.nil]))) .fail) .fail) .fail))
 (.ret [D.agg [D.int out10_0, out10_1, D.sl out10_2], D.int 0]) := by kernel_rfl
theorem ref11_Reshape_tree (n : Nat) (n0 : D) (a1 : D) : evFun Try.prog md ref11_Reshape_orc n 15 [] [n0, a1] =
 .call 70 [] [n0] fun yy1 =>
 .br (((yy1.getD 1 D.nil).toInt) != 0) (.ret [D.agg [D.int 0, D.sl [], D.sl []], D.int ((yy1.getD 1 D.nil).toInt)])
 (.call 71 [] [yy1.getD 0 D.nil] fun yy2 =>
 .br (((yy2.getD 1 D.nil).toInt) != 0) (.ret [D.agg [D.int 0, D.sl [], D.sl []], D.int ((yy2.getD 1 D.nil).toInt)])
 (.call 34 [] [n0] fun yy3 =>
 .call 55 [] [D.int ((a1.fld 0).toInt), D.int ((yy3.getD 0 D.nil).toInt)] fun yy4 =>
 ref11_Reshape_l10 n n ((yy2.getD 0 D.nil).toInt) 0 0 a1 0 ((yy4.getD 0 D.nil).toInt) (yy1.getD 0 D.nil) [])) := by kernel_rfl

/-! scrim/mold.Enclose -/
def mold_Enclose_orc : List (Nat × Orc) := []
theorem mold_Enclose_tree (n : Nat) (a0 : D) : evFun Try.prog md mold_Enclose_orc n 18 [] [a0] =
 .call 46 [] [a0] fun yy1 =>
 .br ((yy1.getD 0 D.nil).toBool) (.ret [a0, D.int 0])
 (.call 45 [] [a0] fun yy2 =>
 .br (decide (8 < ((yy2.getD 0 D.nil).toInt))) (.ret [D.agg [D.int 0, D.sl [], D.sl []], D.int 7])
 (.br ((((a0.fld 1).els).length : Int) == 0) (.br (decide (0 < (((a0.fld 2).els).length : Int))) (.br (decide (0 ≤ 0)) (.br (decide (0 < (((a0.fld 2).els).length : Int))) (.ret [D.agg [D.int ((a0.fld 0).toInt), D.sl [], D.sl [D.agg [D.int (((((a0.fld 2).els).getD (Int.toNat 0) D.nil).fld 0).toInt), D.int 2, D.agg [D.bool false, D.sl [], D.sl []], D.int 0, D.sl [a0]]]], D.int 0]) .fail) .fail)
 (.ret [D.agg [D.int ((a0.fld 0).toInt), D.sl [], D.sl [D.agg [D.int 0, D.int 2, D.agg [D.bool false, D.sl [], D.sl []], D.int 0, D.sl [a0]]]], D.int 0]))
 (.ret [D.agg [D.int ((a0.fld 0).toInt), D.sl [], D.sl [D.agg [D.int 0, D.int 2, D.agg [D.bool false, D.sl [], D.sl []], D.int 0, D.sl [a0]]]], D.int 0]))) := by kernel_rfl

/-! scrim/scrimref11.Enclose -/
def ref11_Enclose_orc : List (Nat × Orc) := []
theorem ref11_Enclose_tree (n : Nat) (a0 : D) : evFun Try.prog md ref11_Enclose_orc n 19 [] [a0] =
 .call 47 [] [a0] fun yy1 =>
 .br ((yy1.getD 0 D.nil).toBool) (.ret [a0, D.int 0])
 (.call 33 [] [a0] fun yy2 =>
 .br (decide (8 < ((yy2.getD 0 D.nil).toInt))) (.ret [D.agg [D.int 0, D.sl [], D.sl []], D.int 7])
 (.br ((((a0.fld 1).els).length : Int) == 0) (.br (decide (0 ≤ 0)) (.br (decide (0 < (((a0.fld 2).els).length : Int))) (.ret [D.agg [D.int ((a0.fld 0).toInt), D.sl [], D.sl [D.agg [D.int (((((a0.fld 2).els).getD (Int.toNat 0) D.nil).fld 0).toInt), D.int 2, D.agg [D.bool false, D.sl [], D.sl []], D.int 0, D.sl [a0]]]], D.int 0]) .fail) .fail)
 (.ret [D.agg [D.int ((a0.fld 0).toInt), D.sl [], D.sl [D.agg [D.int 0, D.int 2, D.agg [D.bool false, D.sl [], D.sl []], D.int 0, D.sl [a0]]]], D.int 0]))) := by kernel_rfl

/-! scrim/mold.Enlist -/
def mold_Enlist_orc : List (Nat × Orc) := []
theorem mold_Enlist_tree (n : Nat) (a0 : D) : evFun Try.prog md mold_Enlist_orc n 20 [] [a0] =
 .call 74 [] [D.sl [], a0] fun yy1 =>
 .br (!((yy1.getD 1 D.nil).toBool)) (.ret [D.agg [D.int 0, D.sl [], D.sl []], D.int 7])
 (.call 48 [] [a0] fun yy2 =>
 .ret [D.agg [D.int ((yy2.getD 0 D.nil).toInt), D.sl [D.int (((yy1.getD 0 D.nil).els).length : Int)], D.sl ((yy1.getD 0 D.nil).els)], D.int 0]) := by kernel_rfl

/-! scrim/scrimref11.Enlist -/
def ref11_Enlist_orc : List (Nat × Orc) := []
theorem ref11_Enlist_tree (n : Nat) (a0 : D) : evFun Try.prog md ref11_Enlist_orc n 21 [] [a0] =
 .call 75 [] [a0] fun yy1 =>
 .br (decide (2048 < (((yy1.getD 0 D.nil).els).length : Int))) (.ret [D.agg [D.int 0, D.sl [], D.sl []], D.int 7])
 (.call 34 [] [a0] fun yy2 =>
 .ret [D.agg [D.int ((yy2.getD 0 D.nil).toInt), D.sl [D.int (((yy1.getD 0 D.nil).els).length : Int)], yy1.getD 0 D.nil], D.int 0]) := by kernel_rfl

/-! scrim/mold.First -/
def mold_First_orc : List (Nat × Orc) := []
theorem mold_First_tree (n : Nat) (a0 : D) : evFun Try.prog md mold_First_orc n 22 [] [a0] =
 .call 68 [] [a0] fun yy1 =>
 .br (decide (0 < (((a0.fld 2).els).length : Int))) (.br (decide (0 ≤ 0)) (.br (decide (0 < (((a0.fld 2).els).length : Int))) (.call 59 [] [((a0.fld 2).els).getD (Int.toNat 0) D.nil] fun yy2 =>
 .call 53 [] [yy2.getD 0 D.nil, D.int ((a0.fld 0).toInt)] fun yy3 =>
 .ret [yy3.getD 0 D.nil]) .fail) .fail)
 (.call 59 [] [yy1.getD 0 D.nil] fun yy4 =>
 .call 53 [] [yy4.getD 0 D.nil, D.int ((a0.fld 0).toInt)] fun yy5 =>
 .ret [yy5.getD 0 D.nil]) := by kernel_rfl

/-! scrim/scrimref11.First -/
def ref11_First_orc : List (Nat × Orc) := []
theorem ref11_First_tree (n : Nat) (a0 : D) : evFun Try.prog md ref11_First_orc n 24 [] [a0] =
 .br ((((a0.fld 2).els).length : Int) == 0) (.call 32 [] [D.int 0, D.int ((a0.fld 0).toInt)] fun yy1 =>
 .ret [yy1.getD 0 D.nil])
 (.br (decide (0 ≤ 0)) (.br (decide (0 < (((a0.fld 2).els).length : Int))) (.call 62 [] [((a0.fld 2).els).getD (Int.toNat 0) D.nil] fun yy2 =>
 .call 54 [] [yy2.getD 0 D.nil, D.int ((a0.fld 0).toInt)] fun yy3 =>
 .ret [yy3.getD 0 D.nil]) .fail) .fail) := by kernel_rfl

/-! scrim/mold.Shape -/
def mold_Shape_orc : List (Nat × Orc) := [(3, ⟨[(1, none), (2, none), (3, none), (11, some 23), (12, none), (13, none)], [(1, true), (2, false)], [(.slot 3, 1030, 57)]⟩)]
def mold_Shape_ps : List Nat := [26]
def mold_Shape_rs : List ResultVar := [.cell 2 26]
def mold_Shape_ts : List Nat := [26]
noncomputable def mold_Shape_l3 (n m3 : Nat) (cells3 : List D) (t11 : D) (t12 : Int) (t13 : Int) (a1 : D) (t2_0 : Int) : Tree :=
  evLoop Try.prog md (ev Try.prog md n mold_Shape_orc (cAt (bodyOf Try.prog 25) [1, 1, 0, 1, 0, 0])) (orcAt mold_Shape_orc 3) m3 ⟨[.undef, .ptr 1 [], .ptr 2 [], .row 1030, .undef, .undef, .undef, .undef, .undef, .undef, .undef, .d 23 t11, .i .i64 t12, .i .i64 t13, .undef, .undef, .undef, .undef, .undef, .undef, .undef, .undef, .undef, .undef, .undef, .undef, .undef, .undef, .undef, .undef, .undef], [(1, .var 26 (.d 26 a1) true), (2, .var 26 (.agg 26 [.i .u64 t2_0, .mt, .mt]) true), (1030, .row 57 cells3 true)], [1, 2, 1030], [], []⟩
   (blockK 0 (seqK (ev Try.prog md n mold_Shape_orc (cAt (bodyOf Try.prog 25) [1, 1, 1])) (retK Try.prog md (md 25) mold_Shape_ps mold_Shape_rs mold_Shape_ts)))
theorem mold_Shape_l3_succ (n m3 : Nat) (cells3 : List D) (t11 : D) (t12 : Int) (t13 : Int) (a1 : D) (t2_0 : Int) : mold_Shape_l3 n (m3 + 1) cells3 t11 t12 t13 a1 t2_0 =
 .br (decide (t13 < t12)) (.br (decide (0 ≤ t13)) (.br (decide (t13 < (t11.els.length : Int))) (.call 77 [] [D.int ((t11.els.getD (Int.toNat t13) D.nil).toInt)] fun yy1 =>
 .br (decide (0 ≤ t13)) (.br (decide (t13 < (cells3.length : Int))) (mold_Shape_l3 n m3 (cells3.set (Int.toNat t13) (yy1.getD 0 D.nil)) t11 t12 (IntKind.wrap .i64 (t13 + 1)) a1 t2_0) .fail) .fail) .fail) .fail)
 (.ret [D.agg [D.int ((a1.fld 0).toInt), D.sl [D.int (cells3.length : Int)], D.sl cells3]]) := by kernel_rfl
theorem mold_Shape_tree (n : Nat) (a0 : D) : evFun Try.prog md mold_Shape_orc n 25 [] [a0] =
 .br (decide (0 ≤ (((a0.fld 1).els).length : Int))) (.br (decide ((((a0.fld 1).els).length : Int) ≤ (((a0.fld 1).els).length : Int))) (.br (decide ((((a0.fld 1).els).length : Int) ≤ bigN)) (mold_Shape_l3 n n (List.replicate (Int.toNat (((a0.fld 1).els).length : Int)) (D.agg [D.int 0, D.int 0, D.agg [D.bool false, D.sl [], D.sl []], D.int 0, D.sl []])) (a0.fld 1) (((a0.fld 1).els).length : Int) 0 a0 0) .fail) .fail) .fail := by kernel_rfl

/-! scrim/scrimref11.Shape -/
def ref11_Shape_orc : List (Nat × Orc) := []
theorem ref11_Shape_tree (n : Nat) (a0 : D) : evFun Try.prog md ref11_Shape_orc n 26 [] [a0] =
 .call 65 [] [a0.fld 1, D.int ((a0.fld 0).toInt)] fun yy1 =>
 .ret [yy1.getD 0 D.nil] := by kernel_rfl

/-! scrim/mold.Ravel -/
def mold_Ravel_orc : List (Nat × Orc) := []
theorem mold_Ravel_tree (n : Nat) (a0 : D) : evFun Try.prog md mold_Ravel_orc n 27 [] [a0] =
 .call 78 [] [a0.fld 2] fun yy1 =>
 .ret [D.agg [D.int ((a0.fld 0).toInt), D.sl [D.int (((a0.fld 2).els).length : Int)], D.sl ((yy1.getD 0 D.nil).els)]] := by kernel_rfl

/-! scrim/scrimref11.Ravel -/
def ref11_Ravel_orc : List (Nat × Orc) := []
theorem ref11_Ravel_tree (n : Nat) (a0 : D) : evFun Try.prog md ref11_Ravel_orc n 28 [] [a0] =
 .ret [D.agg [D.int ((a0.fld 0).toInt), D.sl [D.int (((a0.fld 2).els).length : Int)], a0.fld 2]] := by kernel_rfl

/-! scrim/mold.Tally -/
def mold_Tally_orc : List (Nat × Orc) := []
theorem mold_Tally_tree (n : Nat) (a0 : D) : evFun Try.prog md mold_Tally_orc n 29 [] [a0] =
 .br ((((a0.fld 1).els).length : Int) == 0) (.call 79 [] [D.int 1, D.int ((a0.fld 0).toInt)] fun yy1 =>
 .ret [yy1.getD 0 D.nil])
 (.br (decide (0 ≤ 0)) (.br (decide (0 < (((a0.fld 1).els).length : Int))) (.call 79 [] [D.int ((((a0.fld 1).els).getD (Int.toNat 0) D.nil).toInt), D.int ((a0.fld 0).toInt)] fun yy2 =>
 .ret [yy2.getD 0 D.nil]) .fail) .fail) := by kernel_rfl

/-! scrim/scrimref11.Tally -/
def ref11_Tally_orc : List (Nat × Orc) := []
theorem ref11_Tally_tree (n : Nat) (a0 : D) : evFun Try.prog md ref11_Tally_orc n 30 [] [a0] =
 .br ((((a0.fld 1).els).length : Int) == 0) (.call 32 [] [D.int 1, D.int ((a0.fld 0).toInt)] fun yy1 =>
 .ret [yy1.getD 0 D.nil])
 (.br (decide (0 ≤ 0)) (.br (decide (0 < (((a0.fld 1).els).length : Int))) (.call 32 [] [D.int ((((a0.fld 1).els).getD (Int.toNat 0) D.nil).toInt), D.int ((a0.fld 0).toInt)] fun yy2 =>
 .ret [yy2.getD 0 D.nil]) .fail) .fail) := by kernel_rfl

/-! scrim/mold.Depth -/
def mold_Depth_orc : List (Nat × Orc) := []
theorem mold_Depth_tree (n : Nat) (a0 : D) : evFun Try.prog md mold_Depth_orc n 31 [] [a0] =
 .call 45 [] [a0] fun yy1 =>
 .call 48 [] [a0] fun yy2 =>
 .call 79 [] [D.int ((yy1.getD 0 D.nil).toInt), D.int ((yy2.getD 0 D.nil).toInt)] fun yy3 =>
 .ret [yy3.getD 0 D.nil] := by kernel_rfl

/-! scrim/scrimref11.Alone -/
def ref11_Alone_orc : List (Nat × Orc) := []
theorem ref11_Alone_tree (n : Nat) (n0 : D) (s1 : D) : evFun Try.prog md ref11_Alone_orc n 32 [] [n0, s1] =
 .call 72 [] [D.int n0.toInt] fun yy1 =>
 .ret [D.agg [D.int s1.toInt, D.sl [], D.sl [yy1.getD 0 D.nil]]] := by kernel_rfl

/-! scrim/mold.Match -/
def mold_Match_orc : List (Nat × Orc) := []
theorem mold_Match_tree (n : Nat) (a0 : D) (b1 : D) (same2 : D) : evFun Try.prog md mold_Match_orc n 35 [] [a0, b1, same2] =
 .call 37 [] [a0, b1] fun yy1 =>
 .br (((yy1.getD 0 D.nil).toBool) == same2.toBool) (.call 48 [] [a0] fun yy2 =>
 .call 48 [] [b1] fun yy3 =>
 .call 69 [] [D.int ((yy2.getD 0 D.nil).toInt), D.int ((yy3.getD 0 D.nil).toInt)] fun yy4 =>
 .call 79 [] [D.int 1, D.int ((yy4.getD 0 D.nil).toInt)] fun yy5 =>
 .ret [yy5.getD 0 D.nil])
 (.call 48 [] [a0] fun yy6 =>
 .call 48 [] [b1] fun yy7 =>
 .call 69 [] [D.int ((yy6.getD 0 D.nil).toInt), D.int ((yy7.getD 0 D.nil).toInt)] fun yy8 =>
 .call 79 [] [D.int 0, D.int ((yy8.getD 0 D.nil).toInt)] fun yy9 =>
 .ret [yy9.getD 0 D.nil]) := by kernel_rfl

/-! scrim/scrimref11.Match -/
def ref11_Match_orc : List (Nat × Orc) := []
theorem ref11_Match_tree (n : Nat) (a0 : D) (b1 : D) (same2 : D) : evFun Try.prog md ref11_Match_orc n 36 [] [a0, b1, same2] =
 .call 34 [] [a0] fun yy1 =>
 .call 34 [] [b1] fun yy2 =>
 .call 55 [] [D.int ((yy1.getD 0 D.nil).toInt), D.int ((yy2.getD 0 D.nil).toInt)] fun yy3 =>
 .call 57 [] [a0, b1] fun yy4 =>
 .br (((yy4.getD 0 D.nil).toBool) == same2.toBool) (.call 32 [] [D.int 1, D.int ((yy3.getD 0 D.nil).toInt)] fun yy5 =>
 .ret [yy5.getD 0 D.nil])
 (.call 32 [] [D.int 0, D.int ((yy3.getD 0 D.nil).toInt)] fun yy6 =>
 .ret [yy6.getD 0 D.nil]) := by kernel_rfl

/-! scrim/scrimref11.Vector -/
def ref11_Vector_orc : List (Nat × Orc) := [(3, ⟨[(0, some 23), (4, none), (5, none), (6, none)], [(4, false), (5, false)], [(.fld 5 [1], 1030, 3), (.fld 5 [2], 1031, 57)]⟩)]
def ref11_Vector_ps : List Nat := [23, 22]
def ref11_Vector_rs : List ResultVar := [.cell 4 26]
def ref11_Vector_ts : List Nat := [26]
noncomputable def ref11_Vector_l3 (n m3 : Nat) (l0 : D) (i6 : Int) (t4_0 : Int) (out5_0 : Int) (out5_1 : List D) (out5_2 : List D) : Tree :=
  evLoop Try.prog md (ev Try.prog md n ref11_Vector_orc (cAt (bodyOf Try.prog 65) [1, 1, 0, 1, 0, 0])) (orcAt ref11_Vector_orc 3) m3 ⟨[.d 23 l0, .undef, .undef, .undef, .ptr 4 [], .ptr 5 [], .i .i64 i6, .undef, .undef, .undef, .undef, .undef, .undef, .undef, .undef, .undef, .undef, .undef, .undef, .undef, .undef, .undef, .undef, .undef, .undef, .undef, .undef, .undef, .undef], [(4, .var 26 (.agg 26 [.i .u64 t4_0, .mt, .mt]) true), (5, .var 26 (.agg 26 [.i .u64 out5_0, .row 1030, .row 1031]) true), (1030, .row 3 out5_1 true), (1031, .row 57 out5_2 true)], [4, 5, 1030, 1031], [], []⟩
   (blockK 0 (seqK (ev Try.prog md n ref11_Vector_orc (cAt (bodyOf Try.prog 65) [1, 1, 1])) (retK Try.prog md (md 65) ref11_Vector_ps ref11_Vector_rs ref11_Vector_ts)))
theorem ref11_Vector_l3_succ (n m3 : Nat) (l0 : D) (i6 : Int) (t4_0 : Int) (out5_0 : Int) (out5_1 : List D) (out5_2 : List D) : ref11_Vector_l3 n (m3 + 1) l0 i6 t4_0 out5_0 out5_1 out5_2 =
 .br (decide (i6 < (l0.els.length : Int))) (.br (decide (0 ≤ i6)) (.br (decide (i6 < (l0.els.length : Int))) (.call 72 [] [D.int ((l0.els.getD (Int.toNat i6) D.nil).toInt)] fun yy1 =>
 .br (decide (out5_2.length + [yy1.getD 0 D.nil].length ≤ bigN)) (ref11_Vector_l3 n m3 l0 (IntKind.wrap .i64 (i6 + 1)) t4_0 out5_0 out5_1 (out5_2 ++ [yy1.getD 0 D.nil])) .fail) .fail) .fail)
 (.ret [D.agg [D.int out5_0, D.sl out5_1, D.sl out5_2]]) := by kernel_rfl
theorem ref11_Vector_tree (n : Nat) (l0 : D) (s1 : D) : evFun Try.prog md ref11_Vector_orc n 65 [] [l0, s1] =
 ref11_Vector_l3 n n l0 0 0 s1.toInt [D.int (l0.els.length : Int)] [] := by kernel_rfl

/-! scrim/mold.enlist -/
def mold_enlist_orc : List (Nat × Orc) := [(2, ⟨[(0, none), (12, some 24), (13, none), (14, none)], [], [(.slot 0, 1020, 57)]⟩), (9, ⟨[(0, none), (12, some 24), (13, none), (14, none), (29, some 55), (30, none), (31, none)], [], [(.slot 0, 1090, 57)]⟩)]
def mold_enlist_ps : List Nat := [24, 26]
def mold_enlist_rs : List ResultVar := [.tmp 4, .tmp 5]
def mold_enlist_ts : List Nat := [24, 4]
noncomputable def mold_enlist_l9 (n m2 m9 : Nat) (cells0 : List D) (t12 : D) (t13 : Int) (t14 : Int) (t29 : D) (t30 : Int) (t31 : Int) : Tree :=
  evLoop Try.prog md (ev Try.prog md n mold_enlist_orc (cAt (bodyOf Try.prog 74) [1, 0, 1, 0, 0, 1, 1, 0, 0, 1, 1, 1, 0, 0])) (orcAt mold_enlist_orc 9) m9 ⟨[.row 1090, .undef, .undef, .undef, .undef, .undef, .undef, .undef, .undef, .undef, .undef, .undef, .d 24 t12, .i .i64 t13, .i .i64 t14, .undef, .undef, .undef, .undef, .undef, .undef, .undef, .undef, .undef, .undef, .undef, .undef, .undef, .undef, .d 55 t29, .i .i64 t30, .i .i64 t31, .undef, .undef, .undef, .undef, .undef, .undef, .undef, .undef, .undef, .undef, .undef, .undef, .undef, .undef], [(1090, .row 57 cells0 true)], [1090], [], []⟩
   (blockK 2 (blockK 1 (seqK (ev Try.prog md n mold_enlist_orc (cAt (bodyOf Try.prog 74) [1, 0, 1, 0, 0, 1, 1, 1])) (loopK Try.prog md (orcAt mold_enlist_orc 2) (fun s1 => evLoop Try.prog md (ev Try.prog md n mold_enlist_orc (cAt (bodyOf Try.prog 74) [1, 0, 1, 0, 0])) (orcAt mold_enlist_orc 2) m2 s1 (blockK 0 (seqK (ev Try.prog md n mold_enlist_orc (cAt (bodyOf Try.prog 74) [1, 1])) (retK Try.prog md (md 74) mold_enlist_ps mold_enlist_rs mold_enlist_ts)))) (blockK 0 (seqK (ev Try.prog md n mold_enlist_orc (cAt (bodyOf Try.prog 74) [1, 1])) (retK Try.prog md (md 74) mold_enlist_ps mold_enlist_rs mold_enlist_ts)))))))
noncomputable def mold_enlist_l2 (n m2 : Nat) (cells0 : List D) (t12 : D) (t13 : Int) (t14 : Int) : Tree :=
  evLoop Try.prog md (ev Try.prog md n mold_enlist_orc (cAt (bodyOf Try.prog 74) [1, 0, 1, 0, 0])) (orcAt mold_enlist_orc 2) m2 ⟨[.row 1020, .undef, .undef, .undef, .undef, .undef, .undef, .undef, .undef, .undef, .undef, .undef, .d 24 t12, .i .i64 t13, .i .i64 t14, .undef, .undef, .undef, .undef, .undef, .undef, .undef, .undef, .undef, .undef, .undef, .undef, .undef, .undef, .undef, .undef, .undef, .undef, .undef, .undef, .undef, .undef, .undef, .undef, .undef, .undef, .undef, .undef, .undef, .undef, .undef], [(1020, .row 57 cells0 true)], [1020], [], []⟩
   (blockK 0 (seqK (ev Try.prog md n mold_enlist_orc (cAt (bodyOf Try.prog 74) [1, 1])) (retK Try.prog md (md 74) mold_enlist_ps mold_enlist_rs mold_enlist_ts)))
theorem mold_enlist_l9_succ (n m2 m9 : Nat) (cells0 : List D) (t12 : D) (t13 : Int) (t14 : Int) (t29 : D) (t30 : Int) (t31 : Int) : mold_enlist_l9 n m2 (m9 + 1) cells0 t12 t13 t14 t29 t30 t31 =
 .br (decide (t31 < t30)) (.br (decide (0 ≤ t31)) (.br (decide (t31 < (t29.els.length : Int))) (.call 74 [] [D.sl cells0, t29.els.getD (Int.toNat t31) D.nil] fun yy1 =>
 .br (!((yy1.getD 1 D.nil).toBool)) (.ret [D.sl [], D.bool false])
 (mold_enlist_l9 n m2 m9 ((yy1.getD 0 D.nil).els) t12 t13 t14 t29 t30 (IntKind.wrap .i64 (t31 + 1)))) .fail) .fail)
 (mold_enlist_l2 n m2 cells0 t12 t13 (IntKind.wrap .i64 (t14 + 1))) := by kernel_rfl
theorem mold_enlist_l2_succ (n m2 : Nat) (cells0 : List D) (t12 : D) (t13 : Int) (t14 : Int) : mold_enlist_l2 n (m2 + 1) cells0 t12 t13 t14 =
 .br (decide (t14 < t13)) (.br (decide (0 ≤ t14)) (.br (decide (t14 < (t12.els.length : Int))) (.br ((((t12.els.getD (Int.toNat t14) D.nil).fld 1).toInt) != 2) (.br ((cells0.length : Int) == 2048) (.ret [D.sl [], D.bool false])
 (.br (decide (cells0.length + [t12.els.getD (Int.toNat t14) D.nil].length ≤ bigN)) (mold_enlist_l2 n m2 (cells0 ++ [t12.els.getD (Int.toNat t14) D.nil]) t12 t13 (IntKind.wrap .i64 (t14 + 1))) .fail))
 (mold_enlist_l9 n m2 n cells0 t12 t13 t14 ((t12.els.getD (Int.toNat t14) D.nil).fld 4) ((((t12.els.getD (Int.toNat t14) D.nil).fld 4).els).length : Int) 0)) .fail) .fail)
 (.ret [D.sl cells0, D.bool true]) := by kernel_rfl
theorem mold_enlist_tree (n : Nat) (cells0 : D) (a1 : D) : evFun Try.prog md mold_enlist_orc n 74 [] [cells0, a1] =
 mold_enlist_l2 n n cells0.els (a1.fld 2) (((a1.fld 2).els).length : Int) 0 := by kernel_rfl

/-! scrim/scrimref11.Flat -/
def ref11_Flat_orc : List (Nat × Orc) := [(3, ⟨[(1, none), (3, none), (4, none)], [(1, true)], [(.slot 3, 1030, 57)]⟩)]
def ref11_Flat_ps : List Nat := [26]
def ref11_Flat_rs : List ResultVar := [.tmp 2]
def ref11_Flat_ts : List Nat := [24]
noncomputable def ref11_Flat_l3 (n m3 : Nat) (out3 : List D) (i4 : Int) (a1 : D) : Tree :=
  evLoop Try.prog md (ev Try.prog md n ref11_Flat_orc (cAt (bodyOf Try.prog 75) [1, 1, 0, 1, 0, 0])) (orcAt ref11_Flat_orc 3) m3 ⟨[.undef, .ptr 1 [], .undef, .row 1030, .i .i64 i4, .undef, .undef, .undef, .undef, .undef, .undef, .undef, .undef, .undef, .undef, .undef, .undef, .undef, .undef, .undef, .undef, .undef, .undef, .undef, .undef, .undef, .undef, .undef, .undef, .undef, .undef, .undef, .undef, .undef, .undef, .undef, .undef, .undef, .undef], [(1, .var 26 (.d 26 a1) true), (1030, .row 57 out3 true)], [1, 1030], [], []⟩
   (blockK 0 (seqK (ev Try.prog md n ref11_Flat_orc (cAt (bodyOf Try.prog 75) [1, 1, 1])) (retK Try.prog md (md 75) ref11_Flat_ps ref11_Flat_rs ref11_Flat_ts)))
theorem ref11_Flat_l3_succ (n m3 : Nat) (out3 : List D) (i4 : Int) (a1 : D) : ref11_Flat_l3 n (m3 + 1) out3 i4 a1 =
 .br (decide (i4 < (((a1.fld 2).els).length : Int))) (.br (decide (0 ≤ i4)) (.br (decide (i4 < (((a1.fld 2).els).length : Int))) (.br ((((((a1.fld 2).els).getD (Int.toNat i4) D.nil).fld 1).toInt) == 2) (.br (decide (0 ≤ i4)) (.br (decide (i4 < (((a1.fld 2).els).length : Int))) (.br (decide (0 ≤ 0)) (.br (decide (0 < ((((((a1.fld 2).els).getD (Int.toNat i4) D.nil).fld 4).els).length : Int))) (.call 75 [] [(((((a1.fld 2).els).getD (Int.toNat i4) D.nil).fld 4).els).getD (Int.toNat 0) D.nil] fun yy1 =>
 .br (decide (out3.length + ((yy1.getD 0 D.nil).els).length ≤ bigN)) (ref11_Flat_l3 n m3 (out3 ++ ((yy1.getD 0 D.nil).els)) (IntKind.wrap .i64 (i4 + 1)) a1) .fail) .fail) .fail) .fail) .fail)
 (.br (decide (0 ≤ i4)) (.br (decide (i4 < (((a1.fld 2).els).length : Int))) (.br (decide (out3.length + [((a1.fld 2).els).getD (Int.toNat i4) D.nil].length ≤ bigN)) (ref11_Flat_l3 n m3 (out3 ++ [((a1.fld 2).els).getD (Int.toNat i4) D.nil]) (IntKind.wrap .i64 (i4 + 1)) a1) .fail) .fail) .fail)) .fail) .fail)
 (.ret [D.sl out3]) := by kernel_rfl
theorem ref11_Flat_tree (n : Nat) (a0 : D) : evFun Try.prog md ref11_Flat_orc n 75 [] [a0] =
 ref11_Flat_l3 n n [] 0 a0 := by kernel_rfl

/-! scrim/mold.number -/
def mold_number_orc : List (Nat × Orc) := []
theorem mold_number_tree (n : Nat) (n0 : D) (s1 : D) : evFun Try.prog md mold_number_orc n 79 [] [n0, s1] =
 .call 77 [] [D.int n0.toInt] fun yy1 =>
 .call 63 [] [yy1.getD 0 D.nil] fun yy2 =>
 .call 53 [] [yy2.getD 0 D.nil, D.int s1.toInt] fun yy3 =>
 .ret [yy3.getD 0 D.nil] := by kernel_rfl

end Go.Proofs.Ytfnmaeniekggeaa
set_option maxRecDepth 100000
namespace Go.Proofs.Ytfnmaeniekggeaa
/-! scrim/scrimref10.Same -/
def ref10_Same_orc : List (Nat × Orc) := []
theorem ref10_Same_tree (n : Nat) (a0 : D) (e1 : D) (b2 : D) (f3 : D) : evFun Try.prog md ref10_Same_orc n 16 [] [a0, e1, b2, f3] =
 .br (e1.toInt == f3.toInt) (.call 23 [] [a0, b2] fun yy1 =>
 .ret [D.bool ((yy1.getD 0 D.nil).toBool)])
 (.ret [D.bool false]) := by kernel_rfl

end Go.Proofs.Ytfnmaeniekggeaa
set_option maxRecDepth 100000
namespace Go.Proofs.Ytfnmaeniekggeaa

/-- Numbers along one axis. -/
def vecA (l : List Int) (s : Lab) : Arr := .mk s [(l.length : Int)] (l.map intC)
def aloneA (n : Int) (s : Lab) : Arr := .mk s [] [intC n]
theorem ref11_Vector_sp (l : List Int) (s : Lab) (hl : l.length ≤ 100000) (hr : ∀ x ∈ l, inR x) : Sp 65 [dI l, dB s] [dA (vecA l s)] := by
  refine sound_ (l.length + 1) (ref11_Vector_tree _ _ _) ?_
  simp only [dA_0, dA_1, dA_2, dC_0, dC_1, dC_2, dC_3, dC_4, dN_0, dN_1, dN_2, els_sl, els_dI, els_dL, List.length_map, Int.toNat_natCast, toInt_int, toInt_dB, toBool_bool, getD_c0, getD_c1, int_beq, int_bne, not_dec, dInt_dB, Int.toNat_zero]
  have key := loop_list (P := Try.prog) (md := md) l (fun m k (out : List Cell) => ref11_Vector_l3 (l.length + 1) m (dI l) (k : Int) 0 (s.toNat : Int) [D.int (l.length : Int)] (out.map dC)) (fun rest out => [dA (.mk s [(l.length : Int)] (out ++ rest.map intC))]) (fun rest out => out.length + rest.length ≤ 100000)
    (fun m k out hk _ => by
      simp only [ref11_Vector_l3_succ, dA_0, dA_1, dA_2, dC_0, dC_1, dC_2, dC_3, dC_4, dN_0, dN_1, dN_2, els_sl, els_dI, els_dL, List.length_map, Int.toNat_natCast, toInt_int, toInt_dB, toBool_bool, getD_c0, getD_c1, int_beq, int_bne, not_dec, dInt_dB, Int.toNat_zero]
      refine wp_ndec (by omega) (wp_ret ?_)
      rw [dA_eq]; simp; rfl)
    (fun m k out x rest hdr hI ih => by
      obtain ⟨h1, h2, h3⟩ := drop_cons hdr
      have hm := List.mem_of_getElem? h2
      simp only [ref11_Vector_l3_succ, dA_0, dA_1, dA_2, dC_0, dC_1, dC_2, dC_3, dC_4, dN_0, dN_1, dN_2, els_sl, els_dI, els_dL, List.length_map, Int.toNat_natCast, toInt_int, toInt_dB, toBool_bool, getD_c0, getD_c1, int_beq, int_bne, not_dec, dInt_dB, Int.toNat_zero, getD_map h2, wrap_succ (show k < 9223372036854775807 by omega)]
      repeat (refine wp_dec (by omega) ?_)
      refine wp_call (ref08_Int_sp x (hr x hm)) (wp_dec ?_ ?_)
      · simp only [List.length_cons, List.length_nil, bigN, List.length_map] at hI ⊢; omega
      · have := ih (out ++ [intC x]) (by simp only [List.length_append, List.length_cons, List.length_nil] at hI ⊢; omega)
        rw [List.map_append] at this
        refine Tree.wp_mono this (fun ys hy => hy.trans ?_)
        simp)
    (l.length + 1) 0 [] (by omega) (by omega) (by simpa using hl)
  exact key
theorem ref11_Alone_sp (n : Int) (s : Lab) (hr : inR n) : Sp 32 [.int n, dB s] [dA (aloneA n s)] := by
  refine sound_ 0 (ref11_Alone_tree _ _ _) (wp_call (ref08_Int_sp n hr) (wp_ret ?_))
  rw [dA_eq]; rfl
/-- The cells of an array, from the first one on again. -/
def cyc (fr : List Cell) (k : Nat) : List Cell := (List.range k).map (fun i => fr.getD (i % fr.length) (intC 0))
def reshA (n a : Arr) : Arr × Int :=
  if (intsA n).2 = 0 then (if (countS (intsA n).1).2 = 0 then (.mk (a.s ||| totA n) (intsA n).1 (cyc a.cells (countS (intsA n).1).1.toNat), 0) else (.none, (countS (intsA n).1).2)) else (.none, (intsA n).2)
theorem dA_none : D.agg [D.int 0, D.sl [], D.sl []] = dA .none := by rw [dA_eq]; rfl
theorem cyc_succ (fr : List Cell) (k : Nat) : cyc fr (k + 1) = cyc fr k ++ [fr.getD (k % fr.length) (intC 0)] := by simp [cyc, List.range_succ]
theorem cyc_len (fr : List Cell) (k : Nat) : (cyc fr k).length = k := by simp [cyc]
theorem cyc_mem {fr : List Cell} {k : Nat} {c : Cell} (h : c ∈ cyc fr k) : c ∈ fr ∨ c = intC 0 := by
  simp only [cyc, List.mem_map] at h
  obtain ⟨i, _, rfl⟩ := h
  rw [List.getD_eq_getElem?_getD]
  cases hg : fr[i % fr.length]? with
  | none => right; rfl
  | some x => left; exact List.mem_of_getElem? hg
theorem getD_mapC {fr : List Cell} {i : Nat} (h : i < fr.length) : (fr.map dC).getD i D.nil = dC (fr.getD i (intC 0)) := by
  rw [getD_map (List.getElem?_eq_getElem h), List.getD_eq_getElem?_getD, List.getElem?_eq_getElem h]; rfl
theorem mod_next {i n : Nat} (h : 0 < n) : (if i % n + 1 = n then 0 else i % n + 1) = (i + 1) % n := by
  have h1 := Nat.mod_lt i h
  rw [Nat.add_mod]
  by_cases hn : n = 1
  · subst hn; simp [Nat.mod_one]
  · rw [Nat.mod_eq_of_lt (show 1 < n by omega)]
    split
    · rename_i he; rw [he, Nat.mod_self]
    · rw [Nat.mod_eq_of_lt (show i % n + 1 < n by omega)]
theorem ref11_Reshape_sp (n a : Arr) (hn : Fits n) (ha : a.cells.length ≤ 2048) (hnl : n.cells.length ≤ 2048) (hnt : ∀ c ∈ n.cells, c.n.top.length ≤ 32) : Sp 15 [dA n, dA a] [dA (reshA n a).1, .int (reshA n a).2] := by
  refine sound_ 2049 (ref11_Reshape_tree _ _ _) (wp_call (ref08_Ints_sp n hnl hnt) ?_)
  simp only [getD_c0, getD_c1, toInt_int, int_bne, dA_none]
  unfold reshA
  refine wp_decs (fun h => wp_ret ?_) (fun h => wp_call (ref07_Count_sp (intsA n).1) ?_)
  · rw [if_neg h]
  rw [if_pos (Classical.not_not.1 h)]
  simp only [getD_c0, getD_c1, toInt_int]
  refine wp_decs (fun h => wp_ret ?_) (fun h => wp_call (ref08_Total_sp n hn) ?_)
  · rw [if_neg h]
  rw [if_pos (Classical.not_not.1 h)]
  simp only [getD_c0, dA_0, toInt_dB, dInt_dB]
  refine wp_call (ref01_Join_sp a.s (totA n)) ?_
  have hk := countS_le (intsA n).1
  generalize (countS (intsA n).1).1 = kz at *
  obtain ⟨K, rfl⟩ : ∃ K : Nat, kz = (K : Int) := ⟨kz.toNat, by omega⟩
  simp only [getD_c0, toInt_dB, Int.toNat_natCast]
  have key := loop_up (P := Try.prog) (md := md) K (fun m k (s : Nat × List Cell) => ref11_Reshape_l10 2049 m (K : Int) (s.1 : Int) (k : Int) (dA a) 0 ((a.s ||| totA n).toNat : Int) (dI (intsA n).1) (s.2.map dC)) (fun _ _ => [dA (.mk (a.s ||| totA n) (intsA n).1 (cyc a.cells K)), .int 0])
    (fun k s => s.2 = cyc a.cells k ∧ (0 < a.cells.length → s.1 = k % a.cells.length))
    (fun m s hI => by
      simp only [ref11_Reshape_l10_succ, dA_0, dA_1, dA_2, dC_0, dC_1, dC_2, dC_3, dC_4, dN_0, dN_1, dN_2, els_sl, els_dI, els_dL, List.length_map, Int.toNat_natCast, toInt_int, toInt_dB, toBool_bool, getD_c0, getD_c1, int_beq, int_bne, not_dec, dInt_dB, Int.toNat_zero]
      refine wp_ndec (by omega) (wp_ret ?_)
      rw [hI.1, dA_eq]; rfl)
    (fun m k s hkK hI ih => by
      have hlen : (s.2.map dC).length = k := by rw [hI.1, List.length_map, cyc_len]
      simp only [ref11_Reshape_l10_succ, dA_0, dA_1, dA_2, dC_0, dC_1, dC_2, dC_3, dC_4, dN_0, dN_1, dN_2, els_sl, els_dI, els_dL, List.length_map, Int.toNat_natCast, toInt_int, toInt_dB, toBool_bool, getD_c0, getD_c1, int_beq, int_bne, not_dec, dInt_dB, Int.toNat_zero, wrap_succ (show k < 9223372036854775807 by omega)]
      rw [List.length_map] at hlen
      refine wp_dec (by omega) (wp_decs (fun he => wp_call (ref08_Int_sp 0 inR0) (wp_dec (by simp only [List.length_cons, List.length_nil, bigN]; omega) ?_)) (fun he => ?_))
      · have := ih (s.1, s.2 ++ [intC 0]) ⟨by rw [hI.1, cyc_succ, List.length_eq_zero_iff.1 (show a.cells.length = 0 by omega)]; rfl, fun hh => by omega⟩
        rw [List.map_append] at this
        exact this
      · have hp : 0 < a.cells.length := by omega
        have hs := hI.2 hp
        have hlt := Nat.mod_lt k hp
        rw [← hs] at hlt
        refine wp_dec (by omega) (wp_dec (by omega) (wp_dec (by simp only [List.length_cons, List.length_nil, bigN]; omega) ?_))
        rw [getD_mapC hlt]
        have hnx := mod_next (i := k) hp
        have e2 : s.2 ++ [a.cells.getD s.1 (intC 0)] = cyc a.cells (k + 1) := by rw [cyc_succ, hI.1, ← hs]
        rw [wrap_succ (show s.1 < 9223372036854775807 by omega)]
        refine wp_decs (fun h5 => ?_) (fun h5 => ?_)
        · have := ih (0, s.2 ++ [a.cells.getD s.1 (intC 0)]) ⟨e2, fun _ => by rw [← hnx, ← hs, if_pos (by omega)]⟩
          rw [List.map_append] at this
          exact this
        · have := ih (s.1 + 1, s.2 ++ [a.cells.getD s.1 (intC 0)]) ⟨e2, fun _ => by rw [← hnx, ← hs, if_neg (by omega)]⟩
          rw [List.map_append] at this
          exact this)
    2049 0 (0, []) (by omega) (by omega) ⟨by simp [cyc], fun _ => by simp⟩
  exact key
theorem mold_Reshape_loop (n a : Arr) (hn : Fits n) (sh : List Int) (fr : List Cell) (hfr : 0 < fr.length) (K : Nat) (hK : K ≤ 2048) (hf : fr.length ≤ 2048) : Tw (mold_Reshape_l12 2049 2049 (dI sh) (.sl (fr.map dC)) (List.replicate K (dC Cell.none)) (K : Int) 0 (dA n) (dA a) 0) [dA (.mk (a.s ||| totA n) sh (cyc fr K)), .int 0] := by
  have key := loop_up (P := Try.prog) (md := md) K (fun m k (cs : List D) => mold_Reshape_l12 2049 m (dI sh) (.sl (fr.map dC)) cs (K : Int) (k : Int) (dA n) (dA a) 0) (fun _ _ => [dA (.mk (a.s ||| totA n) sh (cyc fr K)), .int 0])
    (fun k cs => cs = (cyc fr k).map dC ++ List.replicate (K - k) (dC Cell.none))
    (fun m cs hI => by
      simp only [mold_Reshape_l12_succ]
      refine wp_ndec (by omega) (wp_call (array_Total_sp n hn) ?_)
      simp only [getD_c0, toInt_dB, dA_0, dInt_dB]
      refine wp_call (label_Join_sp a.s (totA n)) (wp_ret ?_)
      rw [hI, dA_eq, Nat.sub_self, List.replicate_zero, List.append_nil]; rfl)
    (fun m k cs hkK hI ih => by
      have hm := Nat.mod_lt k hfr
      have hcl : cs.length = K := by rw [hI]; simp [cyc_len]; omega
      have et : Int.tmod (k : Int) (fr.length : Int) = ((k % fr.length : Nat) : Int) := rfl
      simp only [mold_Reshape_l12_succ, dA_0, dA_1, dA_2, dC_0, dC_1, dC_2, dC_3, dC_4, dN_0, dN_1, dN_2, els_sl, els_dI, els_dL, List.length_map, Int.toNat_natCast, toInt_int, toInt_dB, toBool_bool, getD_c0, getD_c1, int_beq, int_bne, not_dec, dInt_dB, Int.toNat_zero, et, hcl, getD_mapC hm, wrap_succ (show k < 9223372036854775807 by omega)]
      repeat (refine wp_dec (by omega) ?_)
      refine ih _ ?_
      rw [hI, cyc_succ, List.set_append_right _ _ (by simp [cyc_len]), List.length_map, cyc_len, Nat.sub_self, show K - k = (K - (k + 1)) + 1 by omega, List.replicate_succ, List.set_cons_zero]
      simp)
    2049 0 (List.replicate K (dC Cell.none)) (by omega) (by omega) (by simp [cyc])
  exact key
theorem dC_none : D.agg [D.int 0, D.int 0, D.agg [D.bool false, D.sl [], D.sl []], D.int 0, D.sl []] = dC Cell.none := by rw [dC_eq]; rfl
theorem cyc_one (K : Nat) : cyc [intC 0] K = cyc [] K := by
  unfold cyc
  refine List.map_congr_left (fun i _ => ?_)
  simp [Nat.mod_one]
theorem mold_Reshape_sp (n a : Arr) (hn : Fits n) (ha : a.cells.length ≤ 2048) (hnl : n.cells.length ≤ 2048) (hnt : ∀ c ∈ n.cells, c.n.top.length ≤ 32) : Sp 14 [dA n, dA a] [dA (reshA n a).1, .int (reshA n a).2] := by
  refine sound_ 2049 (mold_Reshape_tree _ _ _) (wp_call (array_Ints_sp n hnl hnt) ?_)
  simp only [getD_c0, getD_c1, toInt_int, int_bne, dA_none, dC_none]
  unfold reshA
  refine wp_decs (fun h => wp_ret ?_) (fun h => wp_call (shape_Count_sp (intsA n).1) ?_)
  · rw [if_neg h]
  rw [if_pos (Classical.not_not.1 h)]
  simp only [getD_c0, getD_c1, toInt_int]
  refine wp_decs (fun h => wp_ret ?_) (fun h => ?_)
  · rw [if_neg h]
  rw [if_pos (Classical.not_not.1 h)]
  have hk := countS_le (intsA n).1
  generalize (countS (intsA n).1).1 = kz at *
  obtain ⟨K, rfl⟩ : ∃ K : Nat, kz = (K : Int) := ⟨kz.toNat, by omega⟩
  simp only [dA_0, dA_1, dA_2, dC_0, dC_1, dC_2, dC_3, dC_4, dN_0, dN_1, dN_2, els_sl, els_dI, els_dL, List.length_map, Int.toNat_natCast, toInt_int, toInt_dB, toBool_bool, getD_c0, getD_c1, int_beq, int_bne, not_dec, dInt_dB, Int.toNat_zero, List.length_replicate]
  refine wp_decs (fun he => wp_call (array_Fill_sp a) ?_) (fun he => ?_)
  · refine wp_dec (by omega) (wp_dec (by omega) (wp_dec (by simp only [bigN]; omega) ?_))
    have hc := List.length_eq_zero_iff.1 (show a.cells.length = 0 by omega)
    have hfl : fillC a = intC 0 := by unfold fillC; rw [hc]
    have := mold_Reshape_loop n a hn (intsA n).1 [intC 0] (by decide) K (by omega) (by decide)
    rw [cyc_one] at this
    rw [hc, hfl]
    exact this
  · refine wp_dec (by omega) (wp_dec (by omega) (wp_dec (by simp only [bigN]; omega) ?_))
    exact mold_Reshape_loop n a hn (intsA n).1 a.cells (by omega) K (by omega) ha
theorem ref10_Same_sp (x y : Arr) (e f : Int) (hx : Fits x) : Sp 16 [dA x, .int e, dA y, .int f] [.bool (decide (e = f) && eqA x y)] := by
  refine sound_ 0 (ref10_Same_tree _ _ _ _ _) ?_
  simp only [toInt_int, int_beq]
  refine wp_decs (fun h => wp_call (ref08_Same_sp x hx y) (wp_ret ?_)) (fun h => wp_ret ?_)
  · rw [decide_eq_true h]; rfl
  · rw [decide_eq_false h]; rfl
end Go.Proofs.Ytfnmaeniekggeaa
set_option maxRecDepth 100000
namespace Go.Proofs.Ytfnmaeniekggeaa

theorem number_alone (n : Int) (s : Lab) : raiseA (oneA (intC n)) s = aloneA n s := by simp [raiseA, oneA, aloneA]
theorem smlC_int {z : Int} (h : inR z) (d : Nat) : SmlC d (intC z) := by
  have := lb_inR h
  refine ⟨?_, ?_, ?_, ?_⟩
  · simp only [intC, ofZ]; omega
  · simp [intC, ofZ]
  · simp [intC]
  · simp [intC]
theorem mold_number_sp (n : Int) (s : Lab) (h : inR n) : Sp 79 [.int n, dB s] [dA (aloneA n s)] := by
  refine sound_ 0 (mold_number_tree _ _ _) (wp_call (array_Int_sp n h) (wp_call (array_Scalar_sp (d := 0) (intC n) (smlC_int h 0)) (wp_call (array_Raise_sp _ s) (wp_ret ?_))))
  rw [getD_c0, number_alone]
def shapeA (a : Arr) : Arr := vecA a.shape a.s
theorem mold_Shape_sp {d : Nat} (a : Arr) (h : Sml d a) : Sp 25 [dA a] [dA (shapeA a)] := by
  obtain ⟨e, rfl⟩ := h.succ
  have hl := h.1
  refine sound_ (a.shape.length + 1) (mold_Shape_tree _ _) ?_
  simp only [dA_0, dA_1, dA_2, dC_0, dC_1, dC_2, dC_3, dC_4, dN_0, dN_1, dN_2, els_sl, els_dI, els_dL, List.length_map, Int.toNat_natCast, toInt_int, toInt_dB, toBool_bool, getD_c0, getD_c1, int_beq, int_bne, not_dec, dInt_dB, Int.toNat_zero, dC_none']
  refine wp_dec (by omega) (wp_dec (by omega) (wp_dec (by simp only [bigN]; omega) ?_))
  have key := loop_list (P := Try.prog) (md := md) a.shape (fun m k (cs : List D) => mold_Shape_l3 (a.shape.length + 1) m cs (dI a.shape) (a.shape.length : Int) (k : Int) (dA a) 0) (fun _ _ => [dA (shapeA a)])
    (fun rest cs => ∃ pre : List Int, a.shape = pre ++ rest ∧ cs = (pre.map intC).map dC ++ List.replicate rest.length (dC Cell.none))
    (fun m k cs hk hI => by
      obtain ⟨pre, h1, rfl⟩ := hI
      simp only [mold_Shape_l3_succ, dA_0, dA_1, dA_2, dC_0, dC_1, dC_2, dC_3, dC_4, dN_0, dN_1, dN_2, els_sl, els_dI, els_dL, List.length_map, Int.toNat_natCast, toInt_int, toInt_dB, toBool_bool, getD_c0, getD_c1, int_beq, int_bne, not_dec, dInt_dB, Int.toNat_zero]
      refine wp_ndec (by omega) (wp_ret ?_)
      rw [List.append_nil] at h1
      rw [dA_eq, shapeA, vecA, ← h1]; simp [dI])
    (fun m k cs c rest hdr hI ih => by
      obtain ⟨h1, h2, h3⟩ := drop_cons hdr
      obtain ⟨pre, hp, rfl⟩ := hI
      have hk : k = pre.length := by
        have := congrArg List.length hdr
        rw [hp] at this h1
        simp at this h1; omega
      simp only [mold_Shape_l3_succ, dA_0, dA_1, dA_2, dC_0, dC_1, dC_2, dC_3, dC_4, dN_0, dN_1, dN_2, els_sl, els_dI, els_dL, List.length_map, Int.toNat_natCast, toInt_int, toInt_dB, toBool_bool, getD_c0, getD_c1, int_beq, int_bne, not_dec, dInt_dB, Int.toNat_zero, getD_map h2, wrap_succ (show k < 9223372036854775807 by omega)]
      repeat (refine wp_dec (by omega) ?_)
      refine wp_call (array_Int_sp c (h.2.2.1 c (List.mem_of_getElem? h2))) ?_
      have hlen : ((pre.map intC).map dC ++ List.replicate (rest.length + 1) (dC Cell.none)).length = a.shape.length := by rw [hp]; simp
      rw [List.length_cons, hlen]
      refine wp_dec (by omega) (wp_dec (by omega) ?_)
      have e := set_next (f := dC) (z := dC Cell.none) (pre.map intC) (intC c) rest.length
      rw [List.length_map, ← hk] at e
      rw [getD_c0, e]
      exact ih _ ⟨pre ++ [c], by rw [hp]; simp, by simp⟩)
    (a.shape.length + 1) 0 (List.replicate a.shape.length (dC Cell.none)) (by omega) (by omega) ⟨[], by simp, by simp⟩
  exact key
theorem ref11_Shape_sp {d : Nat} (a : Arr) (h : Sml d a) (hl : a.shape.length ≤ 100000) : Sp 26 [dA a] [dA (shapeA a)] := by
  obtain ⟨e, rfl⟩ := h.succ
  refine sound_ 0 (ref11_Shape_tree _ _) ?_
  simp only [dA_0, dA_1, dA_2, dC_0, dC_1, dC_2, dC_3, dC_4, dN_0, dN_1, dN_2, els_sl, els_dI, els_dL, List.length_map, Int.toNat_natCast, toInt_int, toInt_dB, toBool_bool, getD_c0, getD_c1, int_beq, int_bne, not_dec, dInt_dB, Int.toNat_zero]
  exact wp_call (ref11_Vector_sp a.shape a.s hl h.2.2.1) (wp_ret rfl)
def ravA (a : Arr) : Arr := .mk a.s [(a.cells.length : Int)] a.cells
theorem mold_Ravel_sp {d : Nat} (a : Arr) (h : Sml d a) : Sp 27 [dA a] [dA (ravA a)] := by
  obtain ⟨e, rfl⟩ := h.succ
  refine sound_ 0 (mold_Ravel_tree _ _) ?_
  simp only [dA_0, dA_1, dA_2, dC_0, dC_1, dC_2, dC_3, dC_4, dN_0, dN_1, dN_2, els_sl, els_dI, els_dL, List.length_map, Int.toNat_natCast, toInt_int, toInt_dB, toBool_bool, getD_c0, getD_c1, int_beq, int_bne, not_dec, dInt_dB, Int.toNat_zero]
  refine wp_call (clone_C_sp a.cells h.2.1) (wp_ret ?_)
  rw [dA_eq]; rfl
theorem ref11_Ravel_sp (a : Arr) : Sp 28 [dA a] [dA (ravA a)] := by
  refine sound_ 0 (ref11_Ravel_tree _ _) ?_
  simp only [dA_0, dA_1, dA_2, dC_0, dC_1, dC_2, dC_3, dC_4, dN_0, dN_1, dN_2, els_sl, els_dI, els_dL, List.length_map, Int.toNat_natCast, toInt_int, toInt_dB, toBool_bool, getD_c0, getD_c1, int_beq, int_bne, not_dec, dInt_dB, Int.toNat_zero]
  refine wp_ret ?_
  rw [dA_eq]; rfl
def tallyA (a : Arr) : Arr := aloneA (a.shape.headD 1) a.s
theorem mold_Tally_sp {d : Nat} (a : Arr) (h : Sml d a) : Sp 29 [dA a] [dA (tallyA a)] := by
  obtain ⟨e, rfl⟩ := h.succ
  refine sound_ 0 (mold_Tally_tree _ _) ?_
  simp only [dA_0, dA_1, dA_2, dC_0, dC_1, dC_2, dC_3, dC_4, dN_0, dN_1, dN_2, els_sl, els_dI, els_dL, List.length_map, Int.toNat_natCast, toInt_int, toInt_dB, toBool_bool, getD_c0, getD_c1, int_beq, int_bne, not_dec, dInt_dB, Int.toNat_zero]
  unfold tallyA
  match hs : a.shape with
  | [] => exact wp_dec (by simp) (wp_call (mold_number_sp 1 a.s (inR_small (by omega) (by omega))) (wp_ret rfl))
  | x :: xs =>
    refine wp_ndec (by simp; omega) (wp_dec (by omega) (wp_dec (by simp) ?_))
    exact wp_call (mold_number_sp x a.s (h.2.2.1 x (by rw [hs]; simp))) (wp_ret rfl)
theorem ref11_Tally_sp {d : Nat} (a : Arr) (h : Sml d a) : Sp 30 [dA a] [dA (tallyA a)] := by
  obtain ⟨e, rfl⟩ := h.succ
  refine sound_ 0 (ref11_Tally_tree _ _) ?_
  simp only [dA_0, dA_1, dA_2, dC_0, dC_1, dC_2, dC_3, dC_4, dN_0, dN_1, dN_2, els_sl, els_dI, els_dL, List.length_map, Int.toNat_natCast, toInt_int, toInt_dB, toBool_bool, getD_c0, getD_c1, int_beq, int_bne, not_dec, dInt_dB, Int.toNat_zero]
  unfold tallyA
  match hs : a.shape with
  | [] => exact wp_dec (by simp) (wp_call (ref11_Alone_sp 1 a.s (inR_small (by omega) (by omega))) (wp_ret rfl))
  | x :: xs =>
    refine wp_ndec (by simp; omega) (wp_dec (by omega) (wp_dec (by simp) ?_))
    exact wp_call (ref11_Alone_sp x a.s (h.2.2.1 x (by rw [hs]; simp))) (wp_ret rfl)
def mdepA (a : Arr) : Arr := aloneA (depA a : Int) (totA a)
theorem mold_Depth_sp {d : Nat} (a : Arr) (h : Sml d a) (hd : d ≤ 100000) : Sp 31 [dA a] [dA (mdepA a)] := by
  have := depA_sml h
  exact sound_ 0 (mold_Depth_tree _ _) (wp_call (array_Depth_sp d a (by omega) h) (wp_call (array_Total_sp a h.fits) (wp_call (mold_number_sp (depA a : Int) (totA a) (inR_small (by omega) (by omega))) (wp_ret rfl))))
noncomputable def mmatA (a b : Arr) (same : Bool) : Arr := aloneA (if matA a b = same then 1 else 0) (totA a ||| totA b)
theorem mold_Match_sp {d e : Nat} (a b : Arr) (same : Bool) (h : Sml d a) (hb : Sml e b) : Sp 35 [dA a, dA b, .bool same] [dA (mmatA a b same)] := by
  refine sound_ 0 (mold_Match_tree _ _ _ _) (wp_call (array_Match_sp a b h) ?_)
  unfold mmatA
  simp only [getD_c0, toBool_bool, bool_beq]
  refine wp_decs (fun hh => ?_) (fun hh => ?_)
  · rw [if_pos hh]
    exact wp_call (array_Total_sp a h.fits) (wp_call (array_Total_sp b hb.fits) (wp_call (label_Join_sp (totA a) (totA b)) (wp_call (mold_number_sp 1 _ (inR_small (by omega) (by omega))) (wp_ret rfl))))
  · rw [if_neg hh]
    exact wp_call (array_Total_sp a h.fits) (wp_call (array_Total_sp b hb.fits) (wp_call (label_Join_sp (totA a) (totA b)) (wp_call (mold_number_sp 0 _ (inR_small (by omega) (by omega))) (wp_ret rfl))))
theorem ref11_Match_sp {d e : Nat} (a b : Arr) (same : Bool) (h : Sml d a) (hb : Sml e b) : Sp 36 [dA a, dA b, .bool same] [dA (mmatA a b same)] := by
  refine sound_ 0 (ref11_Match_tree _ _ _ _) (wp_call (ref08_Total_sp a h.fits) (wp_call (ref08_Total_sp b hb.fits) (wp_call (ref01_Join_sp (totA a) (totA b)) (wp_call (ref08_Match_sp a b h hb) ?_))))
  unfold mmatA
  simp only [getD_c0, toBool_bool, bool_beq]
  refine wp_decs (fun hh => ?_) (fun hh => ?_)
  · rw [if_pos hh]
    exact wp_call (ref11_Alone_sp 1 _ (inR_small (by omega) (by omega))) (wp_ret rfl)
  · rw [if_neg hh]
    exact wp_call (ref11_Alone_sp 0 _ (inR_small (by omega) (by omega))) (wp_ret rfl)
/-- An array in a box. -/
def boxL (a : Arr) : Lab := match a.shape, a.cells with
  | [], c :: _ => c.l
  | _, _ => 0
def boxA (a : Arr) : Arr := .mk a.s [] [⟨boxL a, 2, .zero, 0, [a]⟩]
def enclA (a : Arr) : Arr × Int := if simpleA a then (a, 0) else if 8 < depA a then (.none, 7) else (boxA a, 0)
theorem dA_box (a : Arr) (l : Lab) (h : l = boxL a) : D.agg [dB a.s, D.sl [], D.sl [D.agg [dB l, D.int 2, D.agg [D.bool false, D.sl [], D.sl []], D.int 0, D.sl [dA a]]]] = dA (boxA a) := by subst h; rw [dC_box, dA_eq]; rfl
theorem mold_Enclose_sp {d : Nat} (a : Arr) (h : Sml d a) (hd : d ≤ 100000) : Sp 18 [dA a] [dA (enclA a).1, .int (enclA a).2] := by
  refine sound_ 0 (mold_Enclose_tree _ _) (wp_call (array_Simple_sp a) ?_)
  unfold enclA
  simp only [dA_0, dA_1, dA_2, dC_0, dC_1, dC_2, dC_3, dC_4, dN_0, dN_1, dN_2, els_sl, els_dI, els_dL, List.length_map, Int.toNat_natCast, toInt_int, toInt_dB, toBool_bool, getD_c0, getD_c1, int_beq, int_bne, not_dec, dInt_dB, Int.toNat_zero, dA_none]
  refine wp_br (fun hs => wp_ret (by rw [if_pos hs])) (fun hs => wp_call (array_Depth_sp d a (by omega) h) ?_)
  rw [if_neg (by simp [hs])]
  simp only [getD_c0, toInt_int]
  refine wp_decs (fun h8 => wp_ret (by rw [if_pos (by omega)])) (fun h8 => ?_)
  rw [if_neg (by omega)]
  refine wp_decs (fun h1 => wp_decs (fun h2 => wp_dec (by omega) (wp_dec (by omega) (wp_ret ?_))) (fun h2 => wp_ret ?_)) (fun h1 => wp_ret ?_)
  · match hsh : a.shape, hc : a.cells with
    | [], c :: cs =>
      simp only [List.map_cons, getD_c0, dA_0, dA_1, dA_2, dC_0, dC_1, dC_2, dC_3, dC_4, dN_0, dN_1, dN_2, els_sl, els_dI, els_dL, List.length_map, Int.toNat_natCast, toInt_int, toInt_dB, toBool_bool, getD_c0, getD_c1, int_beq, int_bne, not_dec, dInt_dB, Int.toNat_zero]
      rw [dA_box a c.l (by unfold boxL; rw [hsh, hc])]
    | x :: xs, _ => rw [hsh] at h1; simp at h1; omega
    | [], [] => rw [hc] at h2; simp at h2
  · refine congrArg (fun x => [x, D.int 0]) (dA_box a 0 ?_)
    unfold boxL
    match hsh : a.shape, hc : a.cells with
    | [], c :: cs => rw [hc] at h2; simp at h2
    | x :: xs, _ => rfl
    | [], [] => rfl
  · refine congrArg (fun x => [x, D.int 0]) (dA_box a 0 ?_)
    unfold boxL
    match hsh : a.shape, hc : a.cells with
    | [], c :: cs => rw [hsh] at h1; simp at h1
    | x :: xs, _ => rfl
    | [], [] => rfl
theorem ref11_Enclose_sp {d : Nat} (a : Arr) (h : Sml d a) (hd : d ≤ 100000) (hne : a.shape = [] → a.cells ≠ []) : Sp 19 [dA a] [dA (enclA a).1, .int (enclA a).2] := by
  refine sound_ 0 (ref11_Enclose_tree _ _) (wp_call (ref08_Simple_sp a) ?_)
  unfold enclA
  simp only [dA_0, dA_1, dA_2, dC_0, dC_1, dC_2, dC_3, dC_4, dN_0, dN_1, dN_2, els_sl, els_dI, els_dL, List.length_map, Int.toNat_natCast, toInt_int, toInt_dB, toBool_bool, getD_c0, getD_c1, int_beq, int_bne, not_dec, dInt_dB, Int.toNat_zero, dA_none]
  refine wp_br (fun hs => wp_ret (by rw [if_pos hs])) (fun hs => wp_call (ref08_Depth_sp d a (by omega) h) ?_)
  rw [if_neg (by simp [hs])]
  simp only [getD_c0, toInt_int]
  refine wp_decs (fun h8 => wp_ret (by rw [if_pos (by omega)])) (fun h8 => ?_)
  rw [if_neg (by omega)]
  refine wp_decs (fun h1 => ?_) (fun h1 => wp_ret ?_)
  · match hsh : a.shape, hc : a.cells with
    | [], c :: cs =>
      simp only [List.map_cons, getD_c0, List.length_cons, dA_0, dA_1, dA_2, dC_0, dC_1, dC_2, dC_3, dC_4, dN_0, dN_1, dN_2, els_sl, els_dI, els_dL, List.length_map, Int.toNat_natCast, toInt_int, toInt_dB, toBool_bool, getD_c0, getD_c1, int_beq, int_bne, not_dec, dInt_dB, Int.toNat_zero]
      refine wp_dec (by omega) (wp_dec (by omega) (wp_ret ?_))
      rw [dA_box a c.l (by unfold boxL; rw [hsh, hc])]
    | x :: xs, _ => rw [hsh] at h1; simp at h1; omega
    | [], [] => exact absurd hc (hne hsh)
  · refine congrArg (fun x => [x, D.int 0]) (dA_box a 0 ?_)
    unfold boxL
    match hsh : a.shape, hc : a.cells with
    | [], c :: cs => rw [hsh] at h1; simp at h1
    | x :: xs, _ => rfl
    | [], [] => rfl
/-- What is in the first cell. -/
def firstA (a : Arr) : Arr := match a.cells with
  | [] => aloneA 0 a.s
  | c :: _ => raiseA (unpC c) a.s
theorem mold_First_sp {d : Nat} (a : Arr) (h : Sml (d + 1) a) : Sp 22 [dA a] [dA (firstA a)] := by
  refine sound_ 0 (mold_First_tree _ _) (wp_call (array_Fill_sp a) ?_)
  unfold firstA
  simp only [dA_0, dA_1, dA_2, dC_0, dC_1, dC_2, dC_3, dC_4, dN_0, dN_1, dN_2, els_sl, els_dI, els_dL, List.length_map, Int.toNat_natCast, toInt_int, toInt_dB, toBool_bool, getD_c0, getD_c1, int_beq, int_bne, not_dec, dInt_dB, Int.toNat_zero]
  match hc : a.cells with
  | [] =>
    have e : fillC a = intC 0 := by unfold fillC; rw [hc]
    refine wp_ndec (by simp) ?_
    rw [e]
    refine wp_call (array_Unpack_sp (intC 0) (smlC_int inR0 0)) (wp_call (array_Raise_sp _ a.s) (wp_ret ?_))
    rw [getD_c0, unpC_neg (by simp [intC])]
    simp [raiseA, aloneA, intC]
  | c :: cs =>
    refine wp_dec (by simp) (wp_dec (by omega) (wp_dec (by simp) ?_))
    exact wp_call (array_Unpack_sp c (h.cell c (by rw [hc]; simp))) (wp_call (array_Raise_sp _ a.s) (wp_ret rfl))
theorem ref11_First_sp (a : Arr) : Sp 24 [dA a] [dA (firstA a)] := by
  refine sound_ 0 (ref11_First_tree _ _) ?_
  unfold firstA
  simp only [dA_0, dA_1, dA_2, dC_0, dC_1, dC_2, dC_3, dC_4, dN_0, dN_1, dN_2, els_sl, els_dI, els_dL, List.length_map, Int.toNat_natCast, toInt_int, toInt_dB, toBool_bool, getD_c0, getD_c1, int_beq, int_bne, not_dec, dInt_dB, Int.toNat_zero]
  match hc : a.cells with
  | [] => exact wp_dec (by simp) (wp_call (ref11_Alone_sp 0 a.s inR0) (wp_ret rfl))
  | c :: cs =>
    refine wp_ndec (by simp; omega) (wp_dec (by omega) (wp_dec (by simp) ?_))
    exact wp_call (ref08_Unpack_sp c) (wp_call (ref08_Raise_sp _ a.s) (wp_ret rfl))
mutual
def flatA : Arr → List (CellF Arr)
  | .mk _ _ cs => flatCs cs
def flatCs : List (CellF Arr) → List (CellF Arr)
  | [] => []
  | c :: cs => flatC c ++ flatCs cs
def flatC : CellF Arr → List (CellF Arr)
  | ⟨l, k, n, c, inn⟩ => if k = 2 then flatAs inn else [⟨l, k, n, c, inn⟩]
def flatAs : List Arr → List (CellF Arr)
  | [] => []
  | a :: as_ => flatA a ++ flatAs as_
end
theorem flatA_eq (a : Arr) : flatA a = flatCs a.cells := by cases a; rw [flatA]; rfl
theorem flatC_eq (c : Cell) : flatC c = if c.kind = 2 then flatAs c.inn else [c] := by cases c; rw [flatC]
/-- Few parts: few cells. -/
theorem leftCs_pos {r : Arr → Int → Int} : ∀ {cs : List Cell} {n : Int}, 0 ≤ leftCs r cs n → 0 ≤ n
  | [], n, h => h
  | c :: cs, n, h => by
    simp only [leftCs] at h
    split at h
    · assumption
    · exact h
theorem leftAs_pos {r : Arr → Int → Int} : ∀ {as_ : List Arr} {n : Int}, 0 ≤ leftAs r as_ n → 0 ≤ n
  | [], n, h => h
  | a :: as_, n, h => by
    simp only [leftAs] at h
    split at h
    · assumption
    · exact h
theorem leftAs_flat {r : Arr → Int → Int} : ∀ {as_ : List Arr} {n : Int}, (∀ a ∈ as_, ∀ m, 0 ≤ m → m ≤ 4000 → 0 ≤ r a m → r a m + ((flatA a).length : Int) ≤ m) → n ≤ 4000 → 0 ≤ leftAs r as_ n → leftAs r as_ n + ((flatAs as_).length : Int) ≤ n
  | [], n, _, _, _ => by simp [leftAs, flatAs]
  | a :: as_, n, hr, hn, h => by
    have h0 := leftAs_pos h
    simp only [leftAs] at h ⊢
    rw [if_pos h0] at h ⊢
    have h1 := leftAs_pos h
    have h2 := hr a (by simp) n h0 hn h1
    have h3 := leftAs_flat (fun x hx => hr x (List.mem_cons_of_mem _ hx)) (by omega) h
    rw [flatAs, List.length_append]; omega
theorem leftCs_flat {r : Arr → Int → Int} {d : Nat} : ∀ {cs : List Cell} {n : Int}, (∀ c ∈ cs, SmlC d c) → (∀ c ∈ cs, ∀ a ∈ c.inn, ∀ m, 0 ≤ m → m ≤ 4000 → 0 ≤ r a m → r a m + ((flatA a).length : Int) ≤ m) → n ≤ 4000 → 0 ≤ leftCs r cs n → leftCs r cs n + ((flatCs cs).length : Int) ≤ n
  | [], n, _, _, _, _ => by simp [leftCs, flatCs]
  | c :: cs, n, hs, hr, hn, h => by
    have h0 := leftCs_pos h
    have hc := hs c (by simp)
    have hc1 := hc.1
    have hc2 := hc.2.1
    have e : w64 (w64 (w64 (n - 1) - (c.n.top.length : Int)) - (c.n.bot.length : Int)) = n - 1 - (c.n.top.length : Int) - (c.n.bot.length : Int) := by
      unfold w64
      rw [wrap64 (x := n - 1) (by omega) (by omega), wrap64 (x := n - 1 - (c.n.top.length : Int)) (by omega) (by omega), wrap64 (by omega) (by omega)]
    simp only [leftCs] at h ⊢
    rw [if_pos h0, e] at h ⊢
    have h1 := leftCs_pos h
    have h2 := leftAs_flat (hr c (by simp)) (by omega) h1
    have h3 := leftCs_flat (fun x hx => hs x (List.mem_cons_of_mem _ hx)) (fun x hx => hr x (List.mem_cons_of_mem _ hx)) (by omega) h
    have h4 : ((flatC c).length : Int) ≤ ((flatAs c.inn).length : Int) + 1 := by
      rw [flatC_eq]; split
      · omega
      · simp only [List.length_cons, List.length_nil]; omega
    rw [flatCs, List.length_append]; omega
theorem leftA_flat : ∀ {e d : Nat} {a : Arr} {n : Int}, Sml d a → 0 ≤ n → n ≤ 4000 → 0 ≤ leftA e a n → leftA e a n + ((flatA a).length : Int) ≤ n
  | 0, _, _, _, _, _, _, h => by simp [leftA] at h
  | e + 1, 0, _, _, hs, _, _, _ => hs.elim
  | e + 1, d + 1, a, n, hs, h0, hn, h => by
    rw [leftA] at h ⊢
    have h1 := hs.1
    have e1 : w64 (w64 (n - 1) - (a.shape.length : Int)) = n - 1 - (a.shape.length : Int) := by
      unfold w64
      rw [wrap64 (x := n - 1) (by omega) (by omega), wrap64 (by omega) (by omega)]
    rw [e1] at h ⊢
    have key : leftCs (leftA e) a.cells (n - 1 - (a.shape.length : Int)) + ((flatCs a.cells).length : Int) ≤ n - 1 - (a.shape.length : Int) := leftCs_flat hs.cell (fun c hc x hx m hm0 hm h0 => leftA_flat ((hs.cell c hc).2.2.2 x hx) hm0 hm h0) (by omega) h
    rw [flatA_eq]; clear h; omega
theorem few_flat {d : Nat} {a : Arr} (h : Sml d a) (hf : fewA a = true) : (flatA a).length ≤ 4000 := by
  have h1 : 0 ≤ leftA 12 a 4000 := of_decide_eq_true hf
  have := leftA_flat h (by omega) (by omega) h1
  omega
/-- Cells, and behind them those of an array that are no boxes. -/
def enR (out fl : List Cell) : List D := if out.length + fl.length ≤ 2048 then [.sl ((out ++ fl).map dC), .bool true] else [.sl [], .bool false]
theorem mold_enlist_sp : ∀ (d : Nat) (a : Arr) (out : List Cell), Sml d a → out.length ≤ 2048 → Sp 74 [.sl (out.map dC), dA a] (enR out (flatA a))
  | 0, _, _, h, _ => h.elim
  | d + 1, a, out, h, ho => by
    have hl := h.2.1
    refine sound_ 1048577 (mold_enlist_tree _ _ _) ?_
    simp only [dA_0, dA_1, dA_2, dC_0, dC_1, dC_2, dC_3, dC_4, dN_0, dN_1, dN_2, els_sl, els_dI, els_dL, List.length_map, Int.toNat_natCast, toInt_int, toInt_dB, toBool_bool, getD_c0, getD_c1, int_beq, int_bne, not_dec, dInt_dB, Int.toNat_zero]
    rw [flatA_eq]
    have key := loop_list (P := Try.prog) (md := md) a.cells (fun m k (out : List Cell) => mold_enlist_l2 1048577 m (out.map dC) (.sl (a.cells.map dC)) (a.cells.length : Int) (k : Int)) (fun rest out => enR out (flatCs rest)) (fun _ out => out.length ≤ 2048)
      (fun m k out hk hI => by
        simp only [mold_enlist_l2_succ, dA_0, dA_1, dA_2, dC_0, dC_1, dC_2, dC_3, dC_4, dN_0, dN_1, dN_2, els_sl, els_dI, els_dL, List.length_map, Int.toNat_natCast, toInt_int, toInt_dB, toBool_bool, getD_c0, getD_c1, int_beq, int_bne, not_dec, dInt_dB, Int.toNat_zero]
        refine wp_ndec (by omega) (wp_ret ?_)
        rw [flatCs, enR, if_pos (by simpa using hI), List.append_nil])
      (fun m k out c rest hdr hI ih => by
        obtain ⟨h1, h2, h3⟩ := drop_cons hdr
        have hc := h.cell c (List.mem_of_getElem? h2)
        have hlc := hc.2.2.1
        simp only [mold_enlist_l2_succ, dA_0, dA_1, dA_2, dC_0, dC_1, dC_2, dC_3, dC_4, dN_0, dN_1, dN_2, els_sl, els_dI, els_dL, List.length_map, Int.toNat_natCast, toInt_int, toInt_dB, toBool_bool, getD_c0, getD_c1, int_beq, int_bne, not_dec, dInt_dB, Int.toNat_zero, getD_map h2, wrap_succ (show k < 9223372036854775807 by omega)]
        rw [flatCs, flatC_eq]
        refine wp_dec (by omega) (wp_dec (by omega) (wp_dec (by omega) (wp_decs (fun hk => ?_) (fun hk => ?_))))
        · rw [if_neg hk]
          refine wp_decs (fun he => wp_ret ?_) (fun he => wp_dec (by simp only [List.length_cons, List.length_nil, bigN]; omega) ?_)
          · rw [enR, if_neg (by simp; omega)]
          · have := ih (out ++ [c]) (by simp; omega)
            rw [List.map_append] at this
            refine Tree.wp_mono this (fun ys hy => hy.trans ?_)
            unfold enR
            simp only [List.length_append, List.length_cons, List.length_nil, List.append_assoc]
            rw [show out.length + (0 + 1) + (flatCs rest).length = out.length + (0 + 1 + (flatCs rest).length) by omega]
        · rw [if_pos (Classical.not_not.1 hk)]
          have key := loop_list (P := Try.prog) (md := md) c.inn (fun m' j (out : List Cell) => mold_enlist_l9 1048577 m m' (out.map dC) (.sl (a.cells.map dC)) (a.cells.length : Int) (k : Int) (.sl (c.inn.map dA)) (c.inn.length : Int) (j : Int)) (fun rest' out => enR out (flatAs rest' ++ flatCs rest)) (fun _ out => out.length ≤ 2048)
            (fun m' j out hj hI' => by
              simp only [mold_enlist_l9_succ, dA_0, dA_1, dA_2, dC_0, dC_1, dC_2, dC_3, dC_4, dN_0, dN_1, dN_2, els_sl, els_dI, els_dL, List.length_map, Int.toNat_natCast, toInt_int, toInt_dB, toBool_bool, getD_c0, getD_c1, int_beq, int_bne, not_dec, dInt_dB, Int.toNat_zero, wrap_succ (show k < 9223372036854775807 by omega)]
              rw [flatAs, List.nil_append]
              exact wp_ndec (by omega) (ih _ hI'))
            (fun m' j out x rest' hdr' hI' ih' => by
              obtain ⟨g1, g2, g3⟩ := drop_cons hdr'
              simp only [mold_enlist_l9_succ, dA_0, dA_1, dA_2, dC_0, dC_1, dC_2, dC_3, dC_4, dN_0, dN_1, dN_2, els_sl, els_dI, els_dL, List.length_map, Int.toNat_natCast, toInt_int, toInt_dB, toBool_bool, getD_c0, getD_c1, int_beq, int_bne, not_dec, dInt_dB, Int.toNat_zero, getD_map g2, wrap_succ (show j < 9223372036854775807 by omega)]
              repeat (refine wp_dec (by omega) ?_)
              refine wp_call (mold_enlist_sp d x out (hc.2.2.2 x (List.mem_of_getElem? g2)) hI') ?_
              rw [flatAs]
              unfold enR
              by_cases hle : out.length + (flatA x).length ≤ 2048
              · rw [if_pos hle]
                refine wp_ff rfl ?_
                have := ih' (out ++ flatA x) (by simpa using hle)
                simp only [getD_c0, els_sl]
                refine Tree.wp_mono this (fun ys hy => hy.trans ?_)
                unfold enR
                simp only [List.length_append, List.append_assoc, Nat.add_assoc]
              · rw [if_neg hle]
                refine wp_tt rfl (wp_ret ?_)
                rw [if_neg (by simp only [List.length_append]; omega)])
            1048577 0 out (by omega) (by omega) hI
          exact key)
      1048577 0 out (by omega) (by omega) ho
    exact key
def enlA (a : Arr) : Arr × Int := if (flatA a).length ≤ 2048 then (.mk (totA a) [((flatA a).length : Int)] (flatA a), 0) else (.none, 7)
theorem mold_Enlist_sp {d : Nat} (a : Arr) (h : Sml d a) : Sp 20 [dA a] [dA (enlA a).1, .int (enlA a).2] := by
  refine sound_ 0 (mold_Enlist_tree _ _) (wp_call (mold_enlist_sp d a [] h (by simp)) ?_)
  unfold enR enlA
  simp only [List.length_nil, Nat.zero_add, List.nil_append, dA_none]
  by_cases hle : (flatA a).length ≤ 2048
  · rw [if_pos hle, if_pos hle]
    refine wp_ff rfl (wp_call (array_Total_sp a h.fits) (wp_ret ?_))
    simp only [getD_c0, els_sl, toInt_dB, List.length_map, dInt_dB]
    rw [dA_eq]; rfl
  · rw [if_neg hle, if_neg hle]
    exact wp_tt rfl (wp_ret rfl)
theorem ref11_Flat_sp : ∀ (d : Nat) (a : Arr), rightA d a = true → (flatA a).length ≤ 4000 → Sp 75 [dA a] [.sl ((flatA a).map dC)] := by
  suffices key : ∀ (d : Nat) (a : Arr), (∀ e x, d = e + 1 → rightA e x = true → (flatA x).length ≤ 4000 → Sp 75 [dA x] [.sl ((flatA x).map dC)]) → rightA d a = true → (flatA a).length ≤ 4000 → Sp 75 [dA a] [.sl ((flatA a).map dC)] by
    intro d
    induction d with
    | zero => intro a; exact key 0 a (fun e x he => by omega)
    | succ d ih => intro a; exact key (d + 1) a (fun e x he => by have : e = d := by omega
                                                                  subst this; exact ih x)
  intro d a IH hr hf
  have hs := rightA_sml hr
  have hl := hs.2.1
  have hcs := (rightA_cells hr).2
  refine sound_ 1048577 (ref11_Flat_tree _ _) ?_
  rw [flatA_eq] at hf ⊢
  have key := loop_list (P := Try.prog) (md := md) a.cells (fun m k (out : List Cell) => ref11_Flat_l3 1048577 m (out.map dC) (k : Int) (dA a)) (fun rest out => [.sl ((out ++ flatCs rest).map dC)]) (fun rest out => (out ++ flatCs rest).length ≤ 4000)
    (fun m k out hk hI => by
      simp only [ref11_Flat_l3_succ, dA_0, dA_1, dA_2, dC_0, dC_1, dC_2, dC_3, dC_4, dN_0, dN_1, dN_2, els_sl, els_dI, els_dL, List.length_map, Int.toNat_natCast, toInt_int, toInt_dB, toBool_bool, getD_c0, getD_c1, int_beq, int_bne, not_dec, dInt_dB, Int.toNat_zero]
      refine wp_ndec (by omega) (wp_ret ?_)
      rw [flatCs, List.append_nil])
    (fun m k out c rest hdr hI ih => by
      obtain ⟨h1, h2, h3⟩ := drop_cons hdr
      have hc := hcs c (List.mem_of_getElem? h2)
      simp only [ref11_Flat_l3_succ, dA_0, dA_1, dA_2, dC_0, dC_1, dC_2, dC_3, dC_4, dN_0, dN_1, dN_2, els_sl, els_dI, els_dL, List.length_map, Int.toNat_natCast, toInt_int, toInt_dB, toBool_bool, getD_c0, getD_c1, int_beq, int_bne, not_dec, dInt_dB, Int.toNat_zero, getD_map h2, wrap_succ (show k < 9223372036854775807 by omega)]
      rw [flatCs, flatC_eq] at hI ⊢
      refine wp_dec (by omega) (wp_dec (by omega) (wp_dec (by omega) (wp_decs (fun hk => ?_) (fun hk => ?_))))
      · rw [if_pos hk] at hI ⊢
        have hlen : c.inn.length = 1 := by
          have hcc := hc
          have key : ∀ k r, cellR k r c = true → c.inn.length = 1 := by
            intro k r hh
            unfold cellR at hh
            rw [if_neg (by omega), if_neg (by omega)] at hh
            simp only [Bool.and_eq_true] at hh
            have hb := hh.2.2
            unfold boxOK at hb
            split at hb
            · rename_i hi; rw [hi]; rfl
            · cases hb
          cases d with
          | zero => exact key _ _ hcc
          | succ d => exact key _ _ hcc
        obtain ⟨x, hx⟩ := len_one hlen
        obtain ⟨e, he, _, hrx, _⟩ := rightC_inn hc x (by rw [hx]; simp)
        simp only [hx, List.map_cons, List.map_nil, List.length_cons, List.length_nil, getD_c0]
        rw [hx, flatAs, flatAs, List.append_nil] at hI
        rw [flatAs, flatAs, List.append_nil]
        simp only [List.length_append] at hI
        repeat (refine wp_dec (by omega) ?_)
        refine wp_call (IH e x he hrx (by omega)) (wp_dec (by simp only [getD_c0, els_sl, List.length_map, bigN]; omega) ?_)
        have := ih (out ++ flatA x) (by simp only [List.length_append]; omega)
        simp only [getD_c0, els_sl]
        rw [List.map_append] at this
        refine Tree.wp_mono this (fun ys hy => hy.trans ?_)
        rw [List.append_assoc]
      · rw [if_neg hk] at hI ⊢
        simp only [List.length_append, List.length_cons, List.length_nil] at hI
        refine wp_dec (by omega) (wp_dec (by omega) (wp_dec (by simp only [List.length_cons, List.length_nil, bigN]; omega) ?_))
        have := ih (out ++ [c]) (by simp only [List.length_append, List.length_cons, List.length_nil]; omega)
        rw [List.map_append] at this
        refine Tree.wp_mono this (fun ys hy => hy.trans ?_)
        rw [List.append_assoc])
    1048577 0 [] (by omega) (by omega) (by simpa using hf)
  exact key
theorem ref11_Enlist_sp {d : Nat} (a : Arr) (h : rightA d a = true) (hf : (flatA a).length ≤ 4000) : Sp 21 [dA a] [dA (enlA a).1, .int (enlA a).2] := by
  refine sound_ 0 (ref11_Enlist_tree _ _) (wp_call (ref11_Flat_sp d a h hf) ?_)
  unfold enlA
  simp only [getD_c0, els_sl, List.length_map, dA_none]
  refine wp_decs (fun hle => wp_ret (by rw [if_neg (by omega)])) (fun hle => wp_call (ref08_Total_sp a (rightA_sml h).fits) (wp_ret ?_))
  rw [if_pos (by omega), dA_eq]; rfl
end Go.Proofs.Ytfnmaeniekggeaa
