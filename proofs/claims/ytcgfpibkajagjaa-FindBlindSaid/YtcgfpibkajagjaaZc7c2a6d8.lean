/- Proved: lemmas for the law of this folder, part 5. No condition. -/
import Derived.Test.YtcgfpibkajagjaaRows
import Derived.WalkKit
import Derived.WalkSpells
import Derived.WalkLawsBesides
import Derived.Lib.Hide
import Derived.Laws.CopyOwn
import Derived.Deep.QuietTactic
import Derived.BigQuiet
import Derived.Orders
import Derived.Defers
import Derived.Recover
import Derived.Test.YtcgfpibkajagjaaProg
import Derived.KernelRfl
import Derived.ProofKit
import Derived.OpenShut
import Derived.Maps.OwnRows
import Derived.Maps.Views
import Derived.Deep.RegionHeld3
import Derived.Deep.AppendLies
import Derived.Test.YtcgfpibkajagjaaZf1dc1269
set_option linter.unusedSimpArgs false
set_option linter.unusedVariables false
set_option maxRecDepth 100000
namespace Go.Proofs.Ytcgfpibkajagjaa

theorem bigFuel : ∃ N : Nat, 9223372036854775808 < N := ⟨9223372036854775809, by decide⟩
/-- A loop along a list, whatever is told at its end. -/
theorem loop_any {α σ : Type} {P : Program} {md : Nat → FMode} {Q : List D → Prop} (xs : List α) (L : Nat → Nat → σ → Tree) (I : List α → σ → Prop)
    (hnil : ∀ m k s, k = xs.length → I [] s → (L (m + 1) k s).wp P md Q)
    (hcons : ∀ m k s x rest, xs.drop k = x :: rest → I (x :: rest) s → (∀ s', I rest s' → (L m (k + 1) s').wp P md Q) → (L (m + 1) k s).wp P md Q) :
    ∀ m k s, xs.length - k < m → k ≤ xs.length → I (xs.drop k) s → (L m k s).wp P md Q := by
  intro m
  induction m with
  | zero => intro k s h; omega
  | succ m ih =>
    intro k s h1 h2 hI
    cases hd : xs.drop k with
    | nil => rw [hd] at hI; exact hnil m k s (by have := drop_nil hd; omega) hI
    | cons x rest =>
      rw [hd] at hI
      obtain ⟨a1, a2, a3⟩ := drop_cons hd
      exact hcons m k s x rest hd hI (fun s' hI' => ih (k + 1) s' (by omega) (by omega) (by rw [a3]; exact hI'))
/-- The product of lengths; 0 if it is too great. -/
def prodS : List Int → Int → Int
  | [], p => p
  | x :: xs, p => if 2048 < p * x then 0 else prodS xs (p * x)
/-- How many cells; an error. -/
def countS (l : List Int) : Int × Int :=
  if 6 < l.length then (0, 7) else if l.any (fun x => decide (x < 0)) then (0, 3) else if l.any (fun x => decide (2048 < x)) then (0, 7)
  else if l.any (fun x => decide (x = 0)) then (0, 0) else if prodS l 1 = 0 then (0, 7) else (prodS l 1, 0)
theorem prod_le {x y : Int} (h1 : 1 ≤ x) (h2 : x ≤ 2048) (h3 : 1 ≤ y) (h4 : y ≤ 2048) : 1 ≤ x * y ∧ x * y ≤ 4194304 := by
  constructor
  · have := Int.mul_le_mul h1 h3 (by omega) (by omega); omega
  · have := Int.mul_le_mul h2 h4 (by omega) (by omega); omega
theorem prodS_pos : ∀ (l : List Int) (p : Int), 1 ≤ p → p ≤ 2048 → (∀ x ∈ l, 1 ≤ x ∧ x ≤ 2048) → 0 ≤ prodS l p ∧ prodS l p ≤ 2048
  | [], p, h1, h2, _ => by simp only [prodS]; omega
  | x :: xs, p, h1, h2, h => by
    simp only [prodS]
    have hx := h x (by simp)
    have := prod_le h1 h2 hx.1 hx.2
    split
    · omega
    · exact prodS_pos xs (p * x) this.1 (by omega) (fun y hy => h y (by simp [hy]))
theorem any_false {l : List Int} {p : Int → Bool} (h : ¬ l.any p = true) : ∀ x ∈ l, p x = false := fun x hx => by
  cases hp : p x with
  | false => rfl
  | true => exact absurd (List.any_eq_true.2 ⟨x, hx, hp⟩) h
theorem count_pos {l : List Int} (h1 : ¬ l.any (fun x => decide (x < 0)) = true) (h2 : ¬ l.any (fun x => decide (2048 < x)) = true) (h3 : ¬ l.any (fun x => decide (x = 0)) = true) : ∀ x ∈ l, 1 ≤ x ∧ x ≤ 2048 := fun x hx => by
  have a := of_decide_eq_false (any_false h1 x hx)
  have b := of_decide_eq_false (any_false h2 x hx)
  have c := of_decide_eq_false (any_false h3 x hx)
  omega
theorem countS_le (l : List Int) : 0 ≤ (countS l).1 ∧ (countS l).1 ≤ 2048 := by
  unfold countS
  split
  · decide
  split
  · decide
  split
  · decide
  split
  · decide
  split
  · decide
  · rename_i h1 h2 h3 h4 _; exact prodS_pos l 1 (by decide) (by decide) (count_pos h2 h3 h4)
theorem countS_len {l : List Int} (h : (countS l).2 = 0) : l.length ≤ 6 ∧ ∀ x ∈ l, 0 ≤ x ∧ x ≤ 2048 := by
  unfold countS at h
  split at h
  · cases h
  split at h
  · cases h
  split at h
  · cases h
  · rename_i h1 h2 h3
    refine ⟨by omega, fun x hx => ?_⟩
    have a := of_decide_eq_false (any_false h2 x hx)
    have b := of_decide_eq_false (any_false h3 x hx)
    omega
/-- The first place of one that is asked for. -/
def idxD (p : Int → Bool) : Nat → List Int → Int
  | _, [] => -1
  | k, x :: xs => if p x then (k : Int) else idxD p (k + 1) xs
def cpD (p : Int) : List D := if p = 0 then [.int 0, .int 7] else [.int p, .int 0]
theorem prodS_cons (x : Int) (xs : List Int) (p : Int) : prodS (x :: xs) p = if 2048 < p * x then 0 else prodS xs (p * x) := rfl
theorem idxD_cons (p : Int → Bool) (k : Nat) (x : Int) (xs : List Int) : idxD p k (x :: xs) = if p x then (k : Int) else idxD p (k + 1) xs := rfl
theorem ref07_Count2 (N : Nat) (l : List Int) (hl : l.length < N) (hb : l.length ≤ 6) (hx : ∀ x ∈ l, 1 ≤ x ∧ x ≤ 2048) : Tw (ref07_Count_l17 N N (dI l) 1 0) (cpD (prodS l 1)) := by
  have key := loop_list (P := Try.prog) (md := md) l (fun m k (p : Int) => ref07_Count_l17 N m (dI l) p (k : Int)) (fun rest p => cpD (prodS rest p)) (fun _ p => 1 ≤ p ∧ p ≤ 2048)
    (fun m k p hk hI => by
      simp only [ref07_Count_l17_succ, els_dI, List.length_map]
      refine wp_ndec (by omega) (wp_ret ?_)
      show _ = cpD p
      rw [cpD, if_neg (by omega)])
    (fun m k p x rest hd hI ih => by
      obtain ⟨h1, h2, h3⟩ := drop_cons hd
      have hxx := hx x (List.mem_of_getElem? h2)
      have hp := prod_le hI.1 hI.2 hxx.1 hxx.2
      simp only [ref07_Count_l17_succ, els_dI, List.length_map, Int.toNat_natCast, getD_map h2, toInt_int, wrap_succ (show k < 9223372036854775807 by omega), wrap64 (x := p * x) (by omega) (by omega)]
      repeat (refine wp_dec (by omega) ?_)
      rw [prodS_cons]
      refine wp_decs (fun h => wp_ret ?_) (fun h => ?_)
      · rw [if_pos h]; rfl
      · rw [if_neg h]; exact ih _ ⟨hp.1, by omega⟩)
    N 0 1 (by omega) (by omega) (by decide)
  exact key
theorem ref07_Count_sp (l : List Int) : Sp 59 [dI l] [.int (countS l).1, .int (countS l).2] := by
  refine sound_ (l.length + 1) (ref07_Count_tree _ _) ?_
  simp only [els_dI, List.length_map]
  unfold countS
  refine wp_decs (fun h => wp_ret ?_) (fun h => ?_)
  · rw [if_pos (by omega)]
  · rw [if_neg (by omega)]
    have key := loop_list (P := Try.prog) (md := md) l (fun m k (s : Bool × Bool) => ref07_Count_l5 (l.length + 1) m (dI l) s.1 s.2 (k : Int))
      (fun rest s => if rest.any (fun x => decide (x < 0)) then [.int 0, .int 3] else if s.1 || rest.any (fun x => decide (2048 < x)) then [.int 0, .int 7] else if s.2 || rest.any (fun x => decide (x = 0)) then [.int 0, .int 0] else cpD (prodS l 1))
      (fun rest s => (∀ x ∈ l, (0 ≤ x ∧ (s.1 = true ∨ x ≤ 2048) ∧ (s.2 = true ∨ x ≠ 0)) ∨ x ∈ rest))
      (fun m k s hk hI => by
        simp only [ref07_Count_l5_succ, els_dI, List.length_map]
        refine wp_ndec (by omega) (wp_br (fun h1 => wp_ret ?_) (fun h1 => wp_br (fun h2 => wp_ret ?_) (fun h2 => ?_)))
        · simp [h1]
        · simp [h1, h2]
        · simp only [h1, h2, List.any_nil, Bool.or_self, Bool.false_eq_true, if_false]
          refine ref07_Count2 (l.length + 1) l (by omega) (by omega) (fun x hx => ?_)
          rcases hI x hx with ⟨a, b, c⟩ | b
          · rw [h1] at b; rw [h2] at c
            simp at b c
            omega
          · cases b)
      (fun m k s x rest hd hI ih => by
        obtain ⟨h1, h2, h3⟩ := drop_cons hd
        simp only [ref07_Count_l5_succ, els_dI, List.length_map, Int.toNat_natCast, getD_map h2, toInt_int, wrap_succ (show k < 9223372036854775807 by omega), int_beq]
        repeat (refine wp_dec (by omega) ?_)
        refine wp_decs (fun h => wp_ret ?_) (fun h => ?_)
        · simp [h]
        · have hih : ∀ s' : Bool × Bool, s' = (s.1 || decide (2048 < x), s.2 || decide (x = 0)) → Tw (ref07_Count_l5 (l.length + 1) m (dI l) s'.1 s'.2 ((k + 1 : Nat) : Int)) (if (x :: rest).any (fun x => decide (x < 0)) then [.int 0, .int 3] else if s.1 || (x :: rest).any (fun x => decide (2048 < x)) then [.int 0, .int 7] else if s.2 || (x :: rest).any (fun x => decide (x = 0)) then [.int 0, .int 0] else cpD (prodS l 1)) := fun s' hs' => by
            have := ih s' (fun y hy => by
              subst hs'
              rcases hI y hy with ⟨a, b, c⟩ | b
              · refine .inl ⟨a, ?_, ?_⟩
                · rcases b with b | b
                  · left; simp [b]
                  · right; exact b
                · rcases c with b | b
                  · left; simp [b]
                  · right; exact b
              · rcases List.mem_cons.1 b with rfl | b
                · left
                  refine ⟨by omega, ?_, ?_⟩
                  · by_cases hh : 2048 < y
                    · left; simp [hh]
                    · right; omega
                  · by_cases hh : y = 0
                    · left; simp [hh]
                    · right; exact hh
                · exact .inr b)
            subst hs'
            rw [List.any_cons, List.any_cons, List.any_cons, decide_eq_false h, Bool.false_or, ← Bool.or_assoc, ← Bool.or_assoc]
            exact this
          refine wp_br (fun b1 => wp_br (fun b2 => ?_) (fun b2 => ?_)) (fun b1 => ?_)
          · exact hih (true, true) (by simp [b1, b2])
          · repeat (refine wp_dec (by omega) ?_)
            exact hih (true, decide (x = 0)) (by simp [b1, b2])
          · repeat (refine wp_dec (by omega) ?_)
            refine wp_br (fun b2 => ?_) (fun b2 => ?_)
            · exact hih (decide (2048 < x), true) (by simp [b1, b2])
            · repeat (refine wp_dec (by omega) ?_)
              exact hih (decide (2048 < x), decide (x = 0)) (by simp [b1, b2]))
      (l.length + 1) 0 (false, false) (by omega) (by omega) (fun x hx => .inr hx)
    have e : (fun (c : Int × Int) => [D.int c.1, D.int c.2]) (if l.any (fun x => decide (x < 0)) then (0, 3) else if l.any (fun x => decide (2048 < x)) then (0, 7)
      else if l.any (fun x => decide (x = 0)) then (0, 0) else if prodS l 1 = 0 then (0, 7) else (prodS l 1, 0)) = (if l.any (fun x => decide (x < 0)) then [.int 0, .int 3] else if false || l.any (fun x => decide (2048 < x)) then [.int 0, .int 7] else if false || l.any (fun x => decide (x = 0)) then [.int 0, .int 0] else cpD (prodS l 1)) := by
      simp only [Bool.false_or]
      split
      · rfl
      split
      · rfl
      split
      · rfl
      show _ = cpD _
      unfold cpD
      split <;> rfl
    show Tw _ ((fun (c : Int × Int) => [D.int c.1, D.int c.2]) _)
    rw [e]
    exact key
theorem idxD_any (p : Int → Bool) : ∀ (l : List Int) (k : Nat), decide (0 ≤ idxD p k l) = l.any p
  | [], k => by simp [idxD]
  | x :: xs, k => by
    rw [idxD_cons, List.any_cons]
    by_cases hp : p x = true
    · rw [if_pos hp]; simp [hp]
    · rw [if_neg hp, idxD_any p xs (k + 1)]; simp [hp]
theorem Count1_sp (x : Int) : Sp 99 [.int x] [.bool (decide (x < 0))] := sound_ 0 (shape_Count_1_tree _ _) (wp_ret rfl)
theorem Count2_sp (x : Int) : Sp 100 [.int x] [.bool (decide (2048 < x))] := sound_ 0 (shape_Count_2_tree _ _) (wp_ret rfl)
theorem Contains1_sp (l : List Int) (hb : l.length ≤ 6) : Sp 98 [dI l, D.fn 99 [] []] [.bool (l.any (fun x => decide (x < 0)))] := by
  refine sound_ 0 (slices_ContainsFunc_int_int_tree_shape_Count_1 _ _) (wp_call (ys := [.int (idxD (fun x => decide (x < 0)) 0 l)]) ?_ (wp_ret ?_))
  · refine sound_ (l.length + 1) (slices_IndexFunc_int_int_tree_shape_Count_1 _ _) ?_
    have key := loop_list (P := Try.prog) (md := md) l (fun m k (_ : Unit) => slices_IndexFunc_int_int_l2 (l.length + 1) m (dI l) (D.fn 99 [] []) (l.length : Int) (k : Int)) (fun rest _ => [.int (idxD (fun x => decide (x < 0)) (l.length - rest.length) rest)]) (fun _ _ => True)
      (fun m k p hk hI => by
        simp only [slices_IndexFunc_int_int_l2_succ_shape_Count_1]
        refine wp_ndec (by omega) (wp_ret ?_)
        simp [idxD])
      (fun m k p x rest hd hI ih => by
        obtain ⟨h1, h2, h3⟩ := drop_cons hd
        have hle := congrArg List.length hd; rw [List.length_drop, List.length_cons] at hle; have hk : l.length - (x :: rest).length = k := by rw [List.length_cons]; omega
        have hk' : l.length - rest.length = k + 1 := by omega
        simp only [slices_IndexFunc_int_int_l2_succ_shape_Count_1, els_dI, List.length_map, Int.toNat_natCast, getD_map h2, toInt_int, wrap_succ (show k < 9223372036854775807 by omega), fnId_fn, fnCts_fn, fnDs_fn, List.append_nil]
        repeat (refine wp_dec (by omega) ?_)
        refine wp_call (Count1_sp x) ?_
        simp only [getD_c0, toBool_bool, idxD, hk]
        refine wp_decs (fun h => wp_ret ?_) (fun h => ?_)
        · simp [h]
        · have := ih () trivial
          rw [hk'] at this
          simpa [h] using this)
      (l.length + 1) 0 () (by omega) (by omega) trivial
    simpa using key
  · exact congrArg (fun b => [D.bool b]) (idxD_any _ l 0)
theorem Contains2_sp (l : List Int) (hb : l.length ≤ 6) : Sp 98 [dI l, D.fn 100 [] []] [.bool (l.any (fun x => decide (2048 < x)))] := by
  refine sound_ 0 (slices_ContainsFunc_int_int_tree_shape_Count_2 _ _) (wp_call (ys := [.int (idxD (fun x => decide (2048 < x)) 0 l)]) ?_ (wp_ret ?_))
  · refine sound_ (l.length + 1) (slices_IndexFunc_int_int_tree_shape_Count_2 _ _) ?_
    have key := loop_list (P := Try.prog) (md := md) l (fun m k (_ : Unit) => slices_IndexFunc_int_int_l2 (l.length + 1) m (dI l) (D.fn 100 [] []) (l.length : Int) (k : Int)) (fun rest _ => [.int (idxD (fun x => decide (2048 < x)) (l.length - rest.length) rest)]) (fun _ _ => True)
      (fun m k p hk hI => by
        simp only [slices_IndexFunc_int_int_l2_succ_shape_Count_2]
        refine wp_ndec (by omega) (wp_ret ?_)
        simp [idxD])
      (fun m k p x rest hd hI ih => by
        obtain ⟨h1, h2, h3⟩ := drop_cons hd
        have hle := congrArg List.length hd; rw [List.length_drop, List.length_cons] at hle; have hk : l.length - (x :: rest).length = k := by rw [List.length_cons]; omega
        have hk' : l.length - rest.length = k + 1 := by omega
        simp only [slices_IndexFunc_int_int_l2_succ_shape_Count_2, els_dI, List.length_map, Int.toNat_natCast, getD_map h2, toInt_int, wrap_succ (show k < 9223372036854775807 by omega), fnId_fn, fnCts_fn, fnDs_fn, List.append_nil]
        repeat (refine wp_dec (by omega) ?_)
        refine wp_call (Count2_sp x) ?_
        simp only [getD_c0, toBool_bool, idxD, hk]
        refine wp_decs (fun h => wp_ret ?_) (fun h => ?_)
        · simp [h]
        · have := ih () trivial
          rw [hk'] at this
          simpa [h] using this)
      (l.length + 1) 0 () (by omega) (by omega) trivial
    simpa using key
  · exact congrArg (fun b => [D.bool b]) (idxD_any _ l 0)
theorem slices_Contains_sp (l : List Int) (v : Int) (hb : l.length ≤ 9223372036854775807) : Sp 101 [dI l, .int v] [.bool (l.any (fun x => decide (x = v)))] := by
  refine sound_ 0 (slices_Contains_int_int_tree _ _ _) (wp_call (ys := [.int (idxD (fun x => decide (x = v)) 0 l)]) ?_ (wp_ret ?_))
  · refine sound_ (l.length + 1) (slices_Index_int_int_tree _ _ _) ?_
    have key := loop_list (P := Try.prog) (md := md) l (fun m k (_ : Unit) => slices_Index_int_int_l2 (l.length + 1) m (dI l) v (l.length : Int) (k : Int)) (fun rest _ => [.int (idxD (fun x => decide (x = v)) (l.length - rest.length) rest)]) (fun _ _ => True)
      (fun m k p hk hI => by
        simp only [slices_Index_int_int_l2_succ]
        refine wp_ndec (by omega) (wp_ret ?_)
        simp [idxD])
      (fun m k p x rest hd hI ih => by
        obtain ⟨h1, h2, h3⟩ := drop_cons hd
        have hle := congrArg List.length hd; rw [List.length_drop, List.length_cons] at hle; have hk : l.length - (x :: rest).length = k := by rw [List.length_cons]; omega
        have hk' : l.length - rest.length = k + 1 := by omega
        simp only [slices_Index_int_int_l2_succ, els_dI, List.length_map, Int.toNat_natCast, getD_map h2, toInt_int, wrap_succ (show k < 9223372036854775807 by omega), int_beq]
        repeat (refine wp_dec (by omega) ?_)
        simp only [idxD, hk]
        refine wp_decs (fun h => wp_ret ?_) (fun h => ?_)
        · simp [h]
        · have := ih () trivial
          rw [hk'] at this
          simpa [show ¬ x = v from fun e => h e.symm] using this)
      (l.length + 1) 0 () (by omega) (by omega) trivial
    simpa using key
  · exact congrArg (fun b => [D.bool b]) (idxD_any _ l 0)
theorem shape_product_sp (l : List Int) (hb : l.length ≤ 6) (hx : ∀ x ∈ l, 1 ≤ x ∧ x ≤ 2048) : Sp 102 [dI l] [.int (prodS l 1)] := by
  refine sound_ (l.length + 1) (shape_product_tree _ _) ?_
  have key := loop_list (P := Try.prog) (md := md) l (fun m k (p : Int) => shape_product_l3 (l.length + 1) m p (dI l) (l.length : Int) (k : Int)) (fun rest p => [.int (prodS rest p)]) (fun _ p => 1 ≤ p ∧ p ≤ 2048)
    (fun m k p hk hI => by
      simp only [shape_product_l3_succ]
      exact wp_ndec (by omega) (wp_ret rfl))
    (fun m k p x rest hd hI ih => by
      obtain ⟨h1, h2, h3⟩ := drop_cons hd
      have hxx := hx x (List.mem_of_getElem? h2)
      have hp := prod_le hI.1 hI.2 hxx.1 hxx.2
      simp only [shape_product_l3_succ, els_dI, List.length_map, Int.toNat_natCast, getD_map h2, toInt_int, wrap_succ (show k < 9223372036854775807 by omega), wrap64 (x := p * x) (by omega) (by omega)]
      repeat (refine wp_dec (by omega) ?_)
      simp only [prodS]
      refine wp_decs (fun h => wp_ret ?_) (fun h => ?_)
      · rw [if_pos h]
      · rw [if_neg h]; exact ih _ ⟨hp.1, by omega⟩)
    (l.length + 1) 0 1 (by omega) (by omega) (by decide)
  simpa using key
theorem shape_Count_sp (l : List Int) : Sp 69 [dI l] [.int (countS l).1, .int (countS l).2] := by
  refine sound_ 0 (shape_Count_tree _ _) ?_
  simp only [els_dI, List.length_map]
  unfold countS
  refine wp_decs (fun h => wp_ret ?_) (fun h => ?_)
  · rw [if_pos (by omega)]
  · rw [if_neg (by omega)]
    refine wp_call (Contains1_sp l (by omega)) ?_
    simp only [getD_c0, toBool_bool]
    refine wp_br (fun h1 => wp_ret (by rw [if_pos h1])) (fun h1 => ?_)
    rw [if_neg (by simp [h1])]
    refine wp_call (Contains2_sp l (by omega)) ?_
    simp only [getD_c0, toBool_bool]
    refine wp_br (fun h2 => wp_ret (by rw [if_pos h2])) (fun h2 => ?_)
    rw [if_neg (by simp [h2])]
    refine wp_call (slices_Contains_sp l 0 (by omega)) ?_
    simp only [getD_c0, toBool_bool]
    refine wp_br (fun h3 => wp_ret (by rw [if_pos h3])) (fun h3 => ?_)
    rw [if_neg (by simp [h3])]
    refine wp_call (shape_product_sp l (by omega) (count_pos (by simp [h1]) (by simp [h2]) (by simp [h3]))) ?_
    simp only [getD_c0, toInt_int, int_beq]
    refine wp_decs (fun h4 => wp_ret (by rw [if_pos h4])) (fun h4 => wp_ret (by rw [if_neg h4]))
theorem ref07_Ints_sp (a b : List Int) (ha : a.length ≤ 9223372036854775807) : Sp 47 [dI a, dI b] [.bool (decide (a = b))] := by
  refine sound_ (a.length + 1) (ref07_Ints_tree _ _ _) ?_
  simp only [els_dI, List.length_map, int_bne]
  refine wp_decs (fun h => wp_ret ?_) (fun h => ?_)
  · rw [decide_eq_false]; rintro rfl; exact h rfl
  · exact eq_loop D.int dint_inj a b (by omega) ha (fun m i => ref07_Ints_l4 (a.length + 1) m (dI a) (dI b) i) (fun m i => ref07_Ints_l4_succ _ _ _ _ _)
def mayC (c : Int) : Bool := decide (0 ≤ c ∧ c ≤ 1114111 ∧ (c < 55296 ∨ 57343 < c))
theorem may_tree (c : Int) : Tw (.br (decide (0 ≤ c)) (.br (decide (c ≤ 1114111)) (.br (decide (c < 55296)) (.ret [D.bool true]) (.ret [D.bool (decide (57343 < c))])) (.ret [D.bool false])) (.ret [D.bool false])) [.bool (mayC c)] := by
  unfold mayC
  refine wp_decs (fun h1 => wp_decs (fun h2 => wp_decs (fun h3 => wp_ret ?_) (fun h3 => wp_ret ?_)) (fun h2 => wp_ret ?_)) (fun h1 => wp_ret ?_)
  · rw [decide_eq_true (by omega)]
  · congr 2; rw [decide_eq_decide]; omega
  · rw [decide_eq_false (by omega)]
  · rw [decide_eq_false (by omega)]
theorem ref06_May_sp (c : Int) : Sp 91 [.int c] [.bool (mayC c)] := sound_ 0 (ref06_May_tree _ _) (may_tree c)
end Go.Proofs.Ytcgfpibkajagjaa
set_option maxRecDepth 100000
namespace Go.Proofs.Ytcgfpibkajagjaa
open Go.ChangeShapes Go.WideShapes Go.ChangeAt Go.RowKit

section
variable {P : Program} {md : Nat → FMode}
theorem law_calls {F : Nat} {fn : Func} {xs : List D} {vs : List Value} {W : World} {tb : Nat} (hs : Spec P md F [] xs [.bool true]) (hfn : P.funcs[F]? = some fn) (hm : md F = {}) (hrt : fn.resultTypes = #[tb]) (htb : P.underlying tb = some .bool)
    (hlx : xs.length = fn.params.size) (hlv : vs.length = fn.params.size) (hrd : ∀ (i t : Nat) (x : D) (v : Value), fn.params.toList[i]? = some t → xs[i]? = some x → vs[i]? = some v → Rd P md W (fun _ => False) (.ty t) x v) :
    Calls P F vs.toArray W (fun e w' => e = .returned (.bool true) ∧ Ext W w') := by
  obtain ⟨fn', h1, _, _, h⟩ := hs
  rw [hfn] at h1
  injection h1 with h1
  subst h1
  refine (h W (fun _ => False) vs 0 1 (fun k hk => by rw [hm] at hk; cases hk) ⟨by simp [hlx], by simp [hlv], fun b hb => hb.elim, ?_, fun p hp => by rw [hm] at hp; cases hp⟩).mono ?_
  · intro i ct x v hc hx hv _
    simp only [List.append_nil, List.getElem?_map, Option.map_eq_some_iff] at hc
    obtain ⟨t, ht, rfl⟩ := hc
    have := hrd i t x v ht hx hv
    exact ⟨this.rd.mono (Nat.le_refl _) (fun _ _ _ => rfl) (fun b hb _ => by
      rcases hb with hb | ⟨p, u, hp, _⟩
      · exact hb
      · rw [hm] at hp; cases hp), this.size, this.agg⟩
  · rintro e w' ⟨us, β', hp⟩
    have hl := hp.len
    rw [hrt] at hl
    have : ∃ u, us = [u] := by
      match us, hl with
      | [u], _ => exact ⟨u, rfl⟩
    obtain ⟨u, rfl⟩ := this
    have hv := hp.vl [.b true] (by rw [hrt, hm]; simp [resL, setOwn, ofD, htb, D.toBool, List.getD]) 0 (.b true) u rfl rfl
    have hu := vl_b hv
    subst hu
    refine ⟨hp.ending, ?_⟩
    have := hp.stp
    refine Stp.ext (this.weak fun b ⟨p, v, h1, _⟩ => ?_)
    rw [hm] at h1; cases h1

theorem rd_int {t : Nat} {k : IntKind} {w : World} {M : Nat → Prop} {y : D} {c : Nat → Option Value} (h : RdC P md w M (.ty t) y c) (ht : P.underlying t = some (.int k)) : ∃ n, y = .int n ∧ k.min ≤ n ∧ n ≤ k.max := by
  cases h <;> simp_all [CT.desc]
  all_goals (rename_i hf _; obtain ⟨⟨a, ha, _⟩, _⟩ := fieldsOf_under hf; rw [ht] at ha; cases ha)
theorem rd_bool {t : Nat} {w : World} {M : Nat → Prop} {y : D} {c : Nat → Option Value} (h : RdC P md w M (.ty t) y c) (ht : P.underlying t = some .bool) : ∃ b, y = .bool b := by
  cases h <;> simp_all [CT.desc]
  all_goals (rename_i hf _; obtain ⟨⟨a, ha, _⟩, _⟩ := fieldsOf_under hf; rw [ht] at ha; cases ha)
theorem rd_str {t : Nat} {w : World} {M : Nat → Prop} {y : D} {c : Nat → Option Value} (h : RdC P md w M (.ty t) y c) (ht : P.underlying t = some .string) : ∃ s, y = .str s ∧ s.size ≤ maxLen := by
  cases h <;> simp_all [CT.desc]
  all_goals (rename_i hf _; obtain ⟨⟨a, ha, _⟩, _⟩ := fieldsOf_under hf; rw [ht] at ha; cases ha)
theorem rd_slc {t e : Nat} {w : World} {M : Nat → Prop} {y : D} {c : Nat → Option Value} (h : RdC P md w M (.ty t) y c) (ht : P.underlying t = some (.slice e)) : ∃ es, y = .sl es ∧ es.length ≤ maxLen ∧ ∀ x ∈ es, ∃ c', RdC P md w M (.ty e) x c' := by
  cases h with
  | sl ht' hc h1 h2 hA hh =>
    have : P.underlying t = some (.slice _) := ht'
    rw [ht] at this
    injection this with this
    injection this with this
    subst this
    refine ⟨_, rfl, Nat.le_trans h1 h2, fun x hx => ?_⟩
    obtain ⟨i, hi, rfl⟩ := List.getElem_of_mem hx
    exact ⟨_, hh i _ (List.getElem?_eq_getElem hi)⟩
  | struct hf _ _ => obtain ⟨⟨a, ha, _⟩, _⟩ := fieldsOf_under hf; rw [ht] at ha; cases ha
  | int ht' => have : P.underlying t = _ := ht'; rw [ht] at this; cases this
  | bool ht' => have : P.underlying t = _ := ht'; rw [ht] at this; cases this
  | str ht' => have : P.underlying t = _ := ht'; rw [ht] at this; cases this
  | fn ht' => have : P.underlying t = _ := ht'; rw [ht] at this; cases this
  | mp ht' => have : P.underlying t = _ := ht'; rw [ht] at this; cases this
  | ref ht' => have : P.underlying t = _ := ht'; rw [ht] at this; cases this
theorem rd_struct {t : Nat} {fs : List Field} {w : World} {M : Nat → Prop} {y : D} {c : Nat → Option Value} (h : RdC P md w M (.ty t) y c) (ht : fieldsOf P t = some fs) : ∃ ds, y = .agg ds ∧ ds.length = fs.length ∧ ∀ (i : Nat) (f : Field) (d : D), fs[i]? = some f → ds[i]? = some d → ∃ c', RdC P md w M (.ty f.type) d c' := by
  obtain ⟨⟨a, ha, _⟩, _⟩ := fieldsOf_under ht
  cases h with
  | struct hf hl hh =>
    rw [ht] at hf
    injection hf with hf
    subst hf
    exact ⟨_, rfl, hl, fun i f d h1 h2 => ⟨_, hh i f d h1 h2⟩⟩
  | sl ht' => have : P.underlying t = _ := ht'; rw [ha] at this; cases this
  | int ht' => have : P.underlying t = _ := ht'; rw [ha] at this; cases this
  | bool ht' => have : P.underlying t = _ := ht'; rw [ha] at this; cases this
  | str ht' => have : P.underlying t = _ := ht'; rw [ha] at this; cases this
  | fn ht' => have : P.underlying t = _ := ht'; rw [ha] at this; cases this
  | mp ht' => have : P.underlying t = _ := ht'; rw [ha] at this; cases this
  | ref ht' => have : P.underlying t = _ := ht'; rw [ha] at this; cases this
theorem rd_ints {t e : Nat} {w : World} {M : Nat → Prop} {y : D} {c : Nat → Option Value} (h : RdC P md w M (.ty t) y c) (ht : P.underlying t = some (.slice e)) (he : P.underlying e = some (.int .i64)) : ∃ l, y = dI l ∧ l.length ≤ maxLen ∧ ∀ x ∈ l, -9223372036854775808 ≤ x ∧ x ≤ 9223372036854775807 := by
  obtain ⟨es, rfl, hl, hh⟩ := rd_slc h ht
  have : ∃ l : List Int, es = l.map .int ∧ ∀ x ∈ l, -9223372036854775808 ≤ x ∧ x ≤ 9223372036854775807 := by
    clear hl h
    induction es with
    | nil => exact ⟨[], rfl, fun _ h => by cases h⟩
    | cons x es ih =>
      obtain ⟨l, rfl, hl⟩ := ih (fun y hy => hh y (by simp [hy]))
      obtain ⟨c', hc⟩ := hh x (by simp)
      obtain ⟨n, rfl, h1, h2⟩ := rd_int hc he
      exact ⟨n :: l, rfl, fun y hy => by rcases List.mem_cons.1 hy with rfl | hy; exact ⟨h1, h2⟩; exact hl y hy⟩
  obtain ⟨l, rfl, h2⟩ := this
  exact ⟨l, rfl, by simpa using hl, h2⟩
theorem rd_limbs {t e : Nat} {w : World} {M : Nat → Prop} {y : D} {c : Nat → Option Value} (h : RdC P md w M (.ty t) y c) (ht : P.underlying t = some (.slice e)) (he : P.underlying e = some (.int .u32)) : ∃ l : List Limb, y = dL l ∧ l.length ≤ maxLen := by
  obtain ⟨es, rfl, hl, hh⟩ := rd_slc h ht
  have : ∃ l : List Limb, es = l.map dB := by
    clear hl h
    induction es with
    | nil => exact ⟨[], rfl⟩
    | cons x es ih =>
      obtain ⟨l, rfl⟩ := ih (fun y hy => hh y (by simp [hy]))
      obtain ⟨c', hc⟩ := hh x (by simp)
      obtain ⟨n, rfl, h1, h2⟩ := rd_int hc he
      have h1 : 0 ≤ n := h1
      have h2 : n ≤ 4294967295 := h2
      refine ⟨BitVec.ofNat 32 n.toNat :: l, ?_⟩
      simp only [List.map_cons, dB, BitVec.toNat_ofNat]
      rw [Nat.mod_eq_of_lt (by omega), Int.toNat_of_nonneg h1]
  obtain ⟨l, rfl⟩ := this
  exact ⟨l, rfl, by simpa using hl⟩
theorem rd_lab {t : Nat} {w : World} {M : Nat → Prop} {y : D} {c : Nat → Option Value} (h : RdC P md w M (.ty t) y c) (ht : P.underlying t = some (.int .u64)) : ∃ l : Lab, y = dB l := by
  obtain ⟨n, rfl, h1, h2⟩ := rd_int h ht
  have h1 : 0 ≤ n := h1
  have h2 : n ≤ 18446744073709551615 := h2
  refine ⟨BitVec.ofNat 64 n.toNat, ?_⟩
  simp only [dB, BitVec.toNat_ofNat]
  rw [Nat.mod_eq_of_lt (by omega), Int.toNat_of_nonneg h1]
end
end Go.Proofs.Ytcgfpibkajagjaa
set_option maxRecDepth 100000
namespace Go.Proofs.Ytcgfpibkajagjaa
open Go.ChangeShapes Go.WideShapes Go.ChangeAt Go.RowKit

theorem len3 {α : Type} {l : List α} (h : l.length = 3) : ∃ a b c, l = [a, b, c] := by
  match l, h with
  | [a, b, c], _ => exact ⟨a, b, c, rfl⟩
theorem len5 {α : Type} {l : List α} (h : l.length = 5) : ∃ a b c d e, l = [a, b, c, d, e] := by
  match l, h with
  | [a, b, c, d, e], _ => exact ⟨a, b, c, d, e, rfl⟩
/-- No list of an array is longer than it can be; lengths of axes are ints. -/
inductive Fits : Arr → Prop where
  | mk {s : Lab} {sh : List Int} {cs : List Cell} (h1 : sh.length ≤ maxLen) (h2 : cs.length ≤ maxLen) (h3 : ∀ c ∈ cs, c.n.top.length ≤ maxLen ∧ c.n.bot.length ≤ maxLen ∧ c.inn.length ≤ maxLen) (h5 : ∀ x ∈ sh, -9223372036854775808 ≤ x ∧ x ≤ 9223372036854775807)
      (h4 : ∀ c ∈ cs, ∀ x ∈ c.inn, Fits x) : Fits (.mk s sh cs)
theorem fields_Num : (fieldsOf Try.prog 49).map (fun fs => fs.map (·.type)) = some [4, 47, 47] := by kernel_rfl
theorem fields_Cell : (fieldsOf Try.prog 52).map (fun fs => fs.map (·.type)) = some [22, 3, 49, 3, 50] := by kernel_rfl
theorem fields_Array : (fieldsOf Try.prog 26).map (fun fs => fs.map (·.type)) = some [22, 23, 24] := by kernel_rfl
theorem types_at {fs : List Field} {ts : List Nat} (h : fs.map (·.type) = ts) {i t : Nat} (ht : ts[i]? = some t) : ∃ f, fs[i]? = some f ∧ f.type = t := by
  subst h
  simpa [List.getElem?_map, Option.map_eq_some_iff] using ht
theorem rd_num {w : World} {M : Nat → Prop} {y : D} {c : Nat → Option Value} (h : RdC Try.prog md w M (.ty 49) y c) : ∃ n, y = dN n ∧ n.top.length ≤ maxLen ∧ n.bot.length ≤ maxLen := by
  obtain ⟨fs, hf, ht⟩ := Option.map_eq_some_iff.1 fields_Num
  obtain ⟨ds, rfl, hl, hh⟩ := rd_struct h hf
  have : fs.length = 3 := by rw [← List.length_map (f := (·.type)), ht]; rfl
  obtain ⟨a, b, c, rfl⟩ := len3 (by rw [hl, this])
  obtain ⟨f0, hf0, e0⟩ := types_at ht (i := 0) rfl
  obtain ⟨f1, hf1, e1⟩ := types_at ht (i := 1) rfl
  obtain ⟨f2, hf2, e2⟩ := types_at ht (i := 2) rfl
  obtain ⟨_, h0⟩ := hh 0 f0 a hf0 rfl
  obtain ⟨_, h1⟩ := hh 1 f1 b hf1 rfl
  obtain ⟨_, h2⟩ := hh 2 f2 c hf2 rfl
  rw [e0] at h0; rw [e1] at h1; rw [e2] at h2
  obtain ⟨n, rfl⟩ := rd_bool h0 (by kernel_rfl)
  obtain ⟨t, rfl, l1⟩ := rd_limbs h1 (e := 119) (by kernel_rfl) (by kernel_rfl)
  obtain ⟨t', rfl, l2⟩ := rd_limbs h2 (e := 119) (by kernel_rfl) (by kernel_rfl)
  exact ⟨⟨n, t, t'⟩, rfl, l1, l2⟩
mutual
def D.sz : D → Nat
  | .agg fs => 1 + D.szL fs | .sl es => 1 + D.szL es | _ => 0
def D.szL : List D → Nat
  | [] => 0 | x :: xs => 1 + x.sz + D.szL xs
end
theorem szL_mem : ∀ {l : List D} {x : D}, x ∈ l → x.sz < D.szL l
  | y :: ys, x, h => by
    rcases List.mem_cons.1 h with rfl | h
    · simp only [D.szL]; omega
    · have := szL_mem h; simp only [D.szL]; omega
theorem rd_arr : ∀ (k : Nat) {w : World} {M : Nat → Prop} {y : D} {c : Nat → Option Value}, y.sz < k → RdC Try.prog md w M (.ty 26) y c → ∃ a, y = dA a ∧ Fits a
  | 0, _, _, _, _, hk, _ => by omega
  | k + 1, w, M, y, c, hk, h => by
    obtain ⟨fs, hf, ht⟩ := Option.map_eq_some_iff.1 fields_Array
    obtain ⟨ds, rfl, hl, hh⟩ := rd_struct h hf
    have : fs.length = 3 := by rw [← List.length_map (f := (·.type)), ht]; rfl
    obtain ⟨a, b, c, rfl⟩ := len3 (by rw [hl, this])
    obtain ⟨f0, hf0, e0⟩ := types_at ht (i := 0) rfl
    obtain ⟨f1, hf1, e1⟩ := types_at ht (i := 1) rfl
    obtain ⟨f2, hf2, e2⟩ := types_at ht (i := 2) rfl
    obtain ⟨_, h0⟩ := hh 0 f0 a hf0 rfl
    obtain ⟨_, h1⟩ := hh 1 f1 b hf1 rfl
    obtain ⟨_, h2⟩ := hh 2 f2 c hf2 rfl
    rw [e0] at h0; rw [e1] at h1; rw [e2] at h2
    obtain ⟨s, rfl⟩ := rd_lab h0 (by kernel_rfl)
    obtain ⟨sh, rfl, l1, l1'⟩ := rd_ints h1 (e := 3) (by kernel_rfl) (by kernel_rfl)
    obtain ⟨es, rfl, l2, hes⟩ := rd_slc h2 (e := 52) (by kernel_rfl)
    have hsz : D.szL es < k := by simp only [D.sz, D.szL] at hk; omega
    have key : ∃ cs : List Cell, es = cs.map dC ∧ (∀ c ∈ cs, c.n.top.length ≤ maxLen ∧ c.n.bot.length ≤ maxLen ∧ c.inn.length ≤ maxLen) ∧ ∀ c ∈ cs, ∀ x ∈ c.inn, Fits x := by
      clear l2 h2 h hh h0 h1 hf0 hf1 hf2 e0 e1 e2 hl hk
      induction es with
      | nil => exact ⟨[], rfl, (fun _ h => by cases h), (fun _ h => by cases h)⟩
      | cons x es ih =>
        simp only [D.szL] at hsz
        obtain ⟨cs, rfl, g1, g2⟩ := ih (fun y hy => hes y (by simp [hy])) (by omega)
        obtain ⟨_, hx⟩ := hes x (by simp)
        obtain ⟨fs, hf, ht⟩ := Option.map_eq_some_iff.1 fields_Cell
        obtain ⟨ds, rfl, hl, hh⟩ := rd_struct hx hf
        have : fs.length = 5 := by rw [← List.length_map (f := (·.type)), ht]; rfl
        obtain ⟨a, b, c, d, e, rfl⟩ := len5 (by rw [hl, this])
        obtain ⟨f0, hf0, e0⟩ := types_at ht (i := 0) rfl
        obtain ⟨f1, hf1, e1⟩ := types_at ht (i := 1) rfl
        obtain ⟨f2, hf2, e2⟩ := types_at ht (i := 2) rfl
        obtain ⟨f3, hf3, e3⟩ := types_at ht (i := 3) rfl
        obtain ⟨f4, hf4, e4⟩ := types_at ht (i := 4) rfl
        obtain ⟨_, h0⟩ := hh 0 f0 a hf0 rfl
        obtain ⟨_, h1⟩ := hh 1 f1 b hf1 rfl
        obtain ⟨_, h2⟩ := hh 2 f2 c hf2 rfl
        obtain ⟨_, h3⟩ := hh 3 f3 d hf3 rfl
        obtain ⟨_, h4⟩ := hh 4 f4 e hf4 rfl
        rw [e0] at h0; rw [e1] at h1; rw [e2] at h2; rw [e3] at h3; rw [e4] at h4
        obtain ⟨l, rfl⟩ := rd_lab h0 (by kernel_rfl)
        obtain ⟨kd, rfl, _⟩ := rd_int h1 (k := .i64) (by kernel_rfl)
        obtain ⟨n, rfl, n1, n2⟩ := rd_num h2
        obtain ⟨ch, rfl, _⟩ := rd_int h3 (k := .i64) (by kernel_rfl)
        obtain ⟨as_, rfl, l4, has⟩ := rd_slc h4 (e := 26) (by kernel_rfl)
        have hsz4 : D.szL as_ < k := by simp only [D.sz, D.szL] at hsz; omega
        have key2 : ∃ bs : List Arr, as_ = bs.map dA ∧ ∀ x ∈ bs, Fits x := by
          clear h4 hh hx hes ih l4 hsz hl
          induction as_ with
          | nil => exact ⟨[], rfl, fun _ h => by cases h⟩
          | cons z zs ihz =>
            simp only [D.szL] at hsz4
            obtain ⟨bs, rfl, hb⟩ := ihz (fun y hy => has y (by simp [hy])) (by omega)
            obtain ⟨_, hz⟩ := has z (by simp)
            obtain ⟨a, rfl, ha⟩ := rd_arr k (by omega) hz
            exact ⟨a :: bs, rfl, fun y hy => by rcases List.mem_cons.1 hy with rfl | hy; exact ha; exact hb y hy⟩
        obtain ⟨bs, rfl, hb⟩ := key2
        refine ⟨⟨l, kd, n, ch, bs⟩ :: cs, by simp [dC_eq], fun c hc => ?_, fun c hc => ?_⟩
        · rcases List.mem_cons.1 hc with rfl | hc
          · exact ⟨n1, n2, by simpa using l4⟩
          · exact g1 c hc
        · rcases List.mem_cons.1 hc with rfl | hc
          · exact hb
          · exact g2 c hc
    obtain ⟨cs, rfl, g1, g2⟩ := key
    exact ⟨.mk s sh cs, (dA_mk s sh cs), .mk l1 (by simpa using l2) g1 l1' g2⟩
/-- An argument that is an array. -/
def lawTs : List Nat := [4, 3, 22, 119, 47, 23, 49, 52, 26, 50, 24]
theorem lawTs_plain : plainTs Try.prog lawTs = true := by kernel_rfl
section
variable {H : Type} {enc : TypeId × Value → H} {W : World} {sp : Nat → Bool} {held : Bool} {r : Reach} {b0 : Nat} {v : Value} {d : DataW H} {ps : List MemPlace}
theorem arg_arr (hval : Value.okWide Try.prog W r b0 26 v) (h : DataW.Trod enc Try.prog W 0 sp held 26 v d ps) : ∃ a, Fits a ∧ Rd Try.prog md W (fun _ => False) (.ty 26) (dA a) v := by
  obtain ⟨y, hy, hyw⟩ := arg_rd (md := md) wfP lawTs_plain (by decide) hval h
  obtain ⟨a, rfl, ha⟩ := rd_arr _ (Nat.lt_succ_self _) hy.rd
  exact ⟨a, ha, hy⟩
theorem arg_bool (hval : Value.okWide Try.prog W r b0 4 v) (h : DataW.Trod enc Try.prog W 0 sp held 4 v d ps) : ∃ a, Rd Try.prog md W (fun _ => False) (.ty 4) (.bool a) v := by
  obtain ⟨y, hy, hyw⟩ := arg_rd (md := md) wfP lawTs_plain (by decide) hval h
  obtain ⟨a, rfl⟩ := rd_bool hy.rd (by kernel_rfl)
  exact ⟨a, hy⟩
theorem arg_lab (hval : Value.okWide Try.prog W r b0 22 v) (h : DataW.Trod enc Try.prog W 0 sp held 22 v d ps) : ∃ a : Lab, Rd Try.prog md W (fun _ => False) (.ty 22) (dB a) v := by
  obtain ⟨y, hy, hyw⟩ := arg_rd (md := md) wfP lawTs_plain (by decide) hval h
  obtain ⟨a, rfl⟩ := rd_lab hy.rd (by kernel_rfl)
  exact ⟨a, hy⟩
theorem arg_int (hval : Value.okWide Try.prog W r b0 3 v) (h : DataW.Trod enc Try.prog W 0 sp held 3 v d ps) : ∃ a : Int, (-9223372036854775808 ≤ a ∧ a ≤ 9223372036854775807) ∧ Rd Try.prog md W (fun _ => False) (.ty 3) (.int a) v := by
  obtain ⟨y, hy, hyw⟩ := arg_rd (md := md) wfP lawTs_plain (by decide) hval h
  obtain ⟨a, rfl, h1, h2⟩ := rd_int hy.rd (k := .i64) (by kernel_rfl)
  exact ⟨a, ⟨h1, h2⟩, hy⟩
theorem arg_num (hval : Value.okWide Try.prog W r b0 49 v) (h : DataW.Trod enc Try.prog W 0 sp held 49 v d ps) : ∃ n : Num, (n.top.length ≤ maxLen ∧ n.bot.length ≤ maxLen) ∧ Rd Try.prog md W (fun _ => False) (.ty 49) (dN n) v := by
  obtain ⟨y, hy, hyw⟩ := arg_rd (md := md) wfP lawTs_plain (by decide) hval h
  obtain ⟨n, rfl, h1, h2⟩ := rd_num hy.rd
  exact ⟨n, ⟨h1, h2⟩, hy⟩
/-- An array that memory has room for. -/
def WFits (a : Arr) : Prop := Fits a ∧ (dA a).wok
theorem arg_arrw (hval : Value.okWide Try.prog W r b0 26 v) (h : DataW.Trod enc Try.prog W 0 sp held 26 v d ps) (hw : ∀ z ∈ d.weights Try.prog 26, z ≤ reachBytes) : ∃ a, WFits a ∧ Rd Try.prog md W (fun _ => False) (.ty 26) (dA a) v := by
  obtain ⟨y, hy, hyw⟩ := arg_rd (md := md) wfP lawTs_plain (by decide) hval h
  obtain ⟨a, rfl, ha⟩ := rd_arr _ (Nat.lt_succ_self _) hy.rd
  exact ⟨a, ⟨ha, hyw hw⟩, hy⟩
end
end Go.Proofs.Ytcgfpibkajagjaa
set_option maxRecDepth 100000
namespace Go.Proofs.Ytcgfpibkajagjaa

theorem Fits.len {a : Arr} (h : Fits a) : a.cells.length ≤ 9223372036854775807 := by cases h; assumption
theorem Fits.sh {a : Arr} (h : Fits a) : a.shape.length ≤ 9223372036854775807 := by cases h; assumption
theorem Fits.shR {a : Arr} (h : Fits a) : ∀ x ∈ a.shape, inR x := by cases h; assumption
/-- What a cell's lists may be. -/
def FitsC (c : Cell) : Prop := c.n.top.length ≤ 9223372036854775807 ∧ c.n.bot.length ≤ 9223372036854775807 ∧ c.inn.length ≤ 9223372036854775807 ∧ ∀ x ∈ c.inn, Fits x
theorem Fits.cell {a : Arr} (h : Fits a) : ∀ c ∈ a.cells, FitsC c := by
  cases h with
  | mk h1 h2 h3 h5 h4 => exact fun c hc => ⟨(h3 c hc).1, (h3 c hc).2.1, (h3 c hc).2.2, h4 c hc⟩
theorem Fits.of {s : Lab} {sh : List Int} {cs : List Cell} (h1 : sh.length ≤ 9223372036854775807) (h2 : cs.length ≤ 9223372036854775807) (h3 : ∀ x ∈ sh, inR x) (h4 : ∀ c ∈ cs, FitsC c) : Fits (.mk s sh cs) :=
  .mk h1 h2 (fun c hc => ⟨(h4 c hc).1, (h4 c hc).2.1, (h4 c hc).2.2.1⟩) h3 (fun c hc => (h4 c hc).2.2.2)

mutual
def totA : Arr → Lab
  | .mk s _ cs => totCs s cs
def totCs : Lab → List (CellF Arr) → Lab
  | l, [] => l
  | l, c :: cs => totCs (totC l c) cs
def totC : Lab → CellF Arr → Lab
  | l, ⟨cl, _, _, _, inn⟩ => totAs (l ||| cl) inn
def totAs : Lab → List Arr → Lab
  | l, [] => l
  | l, a :: as_ => totAs (l ||| totA a) as_
end
theorem totAs_fold : ∀ (as_ : List Arr) (l : Lab), totAs l as_ = as_.foldl (fun l x => l ||| totA x) l
  | [], l => by simp [totAs]
  | a :: as_, l => by simp [totAs, totAs_fold as_]
theorem totC_eq (l : Lab) (c : Cell) : totC l c = c.inn.foldl (fun l x => l ||| totA x) (l ||| c.l) := by cases c; rw [totC, totAs_fold]
theorem totCs_fold : ∀ (cs : List Cell) (l : Lab), totCs l cs = cs.foldl totC l
  | [], l => by simp [totCs]
  | c :: cs, l => by simp [totCs, totCs_fold cs]
theorem totA_eq (a : Arr) : totA a = a.cells.foldl totC a.s := by cases a; rw [totA, totCs_fold]; rfl

/-- One cell without axes that is no box. -/
def simpleA (a : Arr) : Bool := match a.shape, a.cells with
  | [], [c] => decide (¬ c.kind = 2)
  | _, _ => false
def boxOK (c : Cell) (r : Arr → Bool) : Bool := match c.inn with
  | [x] => !simpleA x && r x
  | _ => false
def cellR (k : Bool) (r : Arr → Bool) (c : Cell) : Bool :=
  if c.kind = 0 then decide (c.c = 0 ∧ c.inn.length = 0) && rightN c.n
  else if c.kind = 1 then decide (c.n = .zero ∧ c.inn.length = 0) && mayC c.c
  else decide (c.kind = 2 ∧ c.n = .zero ∧ c.c = 0) && (k && boxOK c r)
def rightA : Nat → Arr → Bool
  | 0, a => decide (countS a.shape = ((a.cells.length : Int), 0)) && a.cells.all (cellR false (fun _ => false))
  | d + 1, a => decide (countS a.shape = ((a.cells.length : Int), 0)) && a.cells.all (cellR true (rightA d))
def rightC : Nat → Cell → Bool
  | 0 => cellR false (fun _ => false)
  | d + 1 => cellR true (rightA d)
theorem rightA_eq (d : Nat) (a : Arr) : rightA d a = (decide (countS a.shape = ((a.cells.length : Int), 0)) && a.cells.all (rightC d)) := by cases d <;> rfl

theorem simple_tree {Q : List D → Prop} (a : Arr) (hq : Q [.bool (simpleA a)]) : (Tree.br (decide ((a.shape.length : Int) = 0)) (.br (decide ((a.cells.length : Int) = 1)) (.br (decide (0 ≤ (0 : Int))) (.br (decide (0 < (a.cells.length : Int))) (.ret [D.bool (decide (¬ (((((a.cells.map dC).getD (Int.toNat 0) D.nil).fld 1).toInt) = 2)))]) .fail) .fail) (.ret [D.bool false])) (.ret [D.bool false])).wp Try.prog md Q := by
  unfold simpleA at hq
  refine wp_decs (fun h1 => wp_decs (fun h2 => ?_) (fun h2 => wp_ret ?_)) (fun h1 => wp_ret ?_)
  · match hs : a.shape, hc : a.cells with
    | [], [c] =>
      rw [hs, hc] at hq
      exact wp_dec (by omega) (wp_dec (by simp) (wp_ret (by simpa [Int.toNat] using hq)))
    | x :: xs, _ => rw [hs] at h1; simp at h1; omega
    | _, [] => rw [hc] at h2; simp at h2
    | _, x :: y :: xs => rw [hc] at h2; simp at h2; omega
  · match hs : a.shape, hc : a.cells with
    | [], [c] => rw [hc] at h2; simp at h2
    | x :: xs, _ => rw [hs] at hq; exact hq
    | [], [] => rw [hs, hc] at hq; exact hq
    | [], x :: y :: xs => rw [hs, hc] at hq; exact hq
  · match hs : a.shape, hc : a.cells with
    | [], _ => rw [hs] at h1; simp at h1
    | x :: xs, _ => rw [hs] at hq; exact hq
theorem ref08_Simple_sp (a : Arr) : Sp 92 [dA a] [.bool (simpleA a)] := by
  refine sound_ 0 (ref08_Simple_tree _ _) ?_
  simp only [dA_0, dA_1, dA_2, dC_0, dC_1, dC_2, dC_3, dC_4, dN_0, dN_1, dN_2, els_sl, els_dI, els_dL, List.length_map, Int.toNat_natCast, toInt_int, toInt_dB, toBool_bool, getD_c0, getD_c1, int_beq, int_bne, not_dec, dInt_dB, Int.toNat_zero]
  exact simple_tree a rfl
theorem ref08_zero_sp (n : Num) : Sp 90 [dN n] [.bool (decide (n = .zero))] := by
  refine sound_ 0 (ref08_zero_tree _ _) ?_
  simp only [dN_0, dN_1, dN_2, els_dL, List.length_map, toBool_bool, int_beq]
  have e : (n = Num.zero) ↔ (n.neg = false ∧ n.top.length = 0 ∧ n.bot.length = 0) := by
    rw [num_eq, List.length_eq_zero_iff, List.length_eq_zero_iff]; rfl
  refine wp_br (fun h1 => wp_decs (fun h2 => wp_ret ?_) (fun h2 => wp_ret ?_)) (fun h1 => wp_ret ?_)
  · congr 2; rw [decide_eq_decide, e]; exact ⟨fun h => ⟨by simpa using h1, by omega, by omega⟩, fun h => by omega⟩
  · rw [decide_eq_false]; rw [e]; omega
  · rw [decide_eq_false]; rw [e]; simp at h1; simp [h1]
theorem ref08_Cell_step (d : Nat) (c : Cell) (hc : FitsC c) (hd : d ≤ 100) (ih : ∀ e, e + 1 = d → ∀ a, Fits a → Sp 24 [dA a, .int (e : Int)] [.bool (rightA e a)]) : Sp 60 [dC c, .int (d : Int)] [.bool (rightC d c)] := by
  suffices key : ∀ (k : Bool) (r : Arr → Bool), (k = true ↔ 0 < d) → (∀ a, k = true → Fits a → Sp 24 [dA a, .int ((d : Int) - 1)] [.bool (r a)]) → Sp 60 [dC c, .int (d : Int)] [.bool (cellR k r c)] by
    cases d with
    | zero => exact key false (fun _ => false) (by simp) (by simp)
    | succ e => exact key true (rightA e) (by simp) (fun a _ ha => by have := ih e rfl a ha; simpa using this)
  intro k r hk hr
  refine sound_ 0 (ref08_Cell_tree _ _ _) ?_
  simp only [dA_0, dA_1, dA_2, dC_0, dC_1, dC_2, dC_3, dC_4, dN_0, dN_1, dN_2, els_sl, els_dI, els_dL, List.length_map, Int.toNat_natCast, toInt_int, toInt_dB, toBool_bool, getD_c0, getD_c1, int_beq, int_bne, not_dec, dInt_dB, Int.toNat_zero]
  unfold cellR
  refine wp_decs (fun h0 => ?_) (fun h0 => ?_)
  · rw [if_pos h0]
    refine wp_decs (fun h1 => wp_decs (fun h2 => wp_call (ref04_Right_sp c.n) (wp_ret ?_)) (fun h2 => wp_ret ?_)) (fun h1 => wp_ret ?_)
    · rw [decide_eq_true ⟨h1, by omega⟩]; rfl
    · rw [decide_eq_false (by omega)]; rfl
    · rw [decide_eq_false (by omega)]; rfl
  rw [if_neg h0]
  refine wp_decs (fun h0 => wp_call (ref08_zero_sp c.n) ?_) (fun h0 => ?_)
  · rw [if_pos h0]
    simp only [getD_c0, toBool_bool]
    refine wp_decs (fun h1 => wp_decs (fun h2 => wp_call (ref06_May_sp c.c) (wp_ret ?_)) (fun h2 => wp_ret ?_)) (fun h1 => wp_ret ?_)
    · rw [decide_eq_true ⟨h1, by omega⟩]; rfl
    · rw [decide_eq_false (fun hh => h2 (by omega))]; rfl
    · rw [decide_eq_false (fun hh => h1 hh.1)]; rfl
  rw [if_neg h0]
  refine wp_decs (fun h0 => wp_call (ref08_zero_sp c.n) ?_) (fun h0 => wp_ret (by rw [decide_eq_false (fun hh => h0 hh.1)]; rfl))
  simp only [getD_c0, toBool_bool]
  refine wp_decs (fun h1 => wp_decs (fun h2 => wp_decs (fun h3 => wp_decs (fun h4 => ?_) (fun h4 => wp_ret ?_)) (fun h3 => wp_ret ?_)) (fun h2 => wp_ret ?_)) (fun h1 => wp_ret ?_)
  · have hkt := hk.2 (by omega)
    rw [show decide (c.kind = 2 ∧ c.n = .zero ∧ c.c = 0) = true from decide_eq_true ⟨h0, h1, h2⟩, hkt, Bool.true_and, Bool.true_and]
    unfold boxOK
    match hi : c.inn with
    | [] => rw [hi] at h3; simp at h3
    | x :: y :: xs => rw [hi] at h3; simp at h3; omega
    | [x] =>
      simp only [List.map_cons, List.map_nil, Int.toNat_zero, getD_c0, List.length_cons, List.length_nil]
      refine wp_dec (by omega) (wp_dec (by omega) (wp_call (ref08_Simple_sp x) ?_))
      simp only [getD_c0, toBool_bool]
      refine wp_br (fun h5 => wp_dec (by omega) (wp_dec (by omega) ?_)) (fun h5 => wp_ret (by rw [h5]; rfl))
      rw [wrap64 (by omega) (by omega)]
      refine wp_call (hr x hkt (hc.2.2.2 x (by rw [hi]; simp))) (wp_ret ?_)
      rw [h5]; rfl
  · have : k = false := by cases k with
      | false => rfl
      | true => exact absurd (hk.1 rfl) (by omega)
    rw [this, Bool.false_and, Bool.and_false]
  · have : boxOK c r = false := by
      unfold boxOK
      match hi : c.inn with
      | [] => rfl
      | x :: y :: xs => rfl
      | [x] => rw [hi] at h3; simp at h3
    rw [this, Bool.and_false, Bool.and_false]
  · rw [decide_eq_false (fun hh => h2 hh.2.2)]; rfl
  · rw [decide_eq_false (fun hh => h1 hh.2.1)]; rfl
theorem ref08_Right_step (d : Nat) (a : Arr) (ha : Fits a) (ih : ∀ c, FitsC c → Sp 60 [dC c, .int (d : Int)] [.bool (rightC d c)]) : Sp 24 [dA a, .int (d : Int)] [.bool (rightA d a)] := by
  have hl := ha.len
  refine sound_ (a.cells.length + 1) (ref08_Right_tree _ _ _) ?_
  simp only [dA_0, dA_1, dA_2, dC_0, dC_1, dC_2, dC_3, dC_4, dN_0, dN_1, dN_2, els_sl, els_dI, els_dL, List.length_map, Int.toNat_natCast, toInt_int, toInt_dB, toBool_bool, getD_c0, getD_c1, int_beq, int_bne, not_dec, dInt_dB, Int.toNat_zero]
  refine wp_call (ref07_Count_sp a.shape) ?_
  rw [rightA_eq]
  simp only [getD_c0, getD_c1, toInt_int]
  refine wp_decs (fun h => wp_ret ?_) (fun h => wp_decs (fun h' => wp_ret ?_) (fun h' => ?_))
  · rw [decide_eq_false]; rfl
    intro hh; rw [hh] at h; exact h rfl
  · rw [decide_eq_false]; rfl
    intro hh; rw [hh] at h'; exact h' rfl
  · have hc : countS a.shape = ((a.cells.length : Int), 0) := Prod.ext (by simpa using h') (by simpa using h)
    rw [hc, decide_eq_true rfl, Bool.true_and]
    have key := loop_list (P := Try.prog) (md := md) a.cells (fun m k (_ : Unit) => ref08_Right_l5 (a.cells.length + 1) m (d : Int) (a.cells.length : Int) (k : Int) (dA a)) (fun rest _ => [.bool (rest.all (rightC d))]) (fun _ _ => True)
      (fun m k s hk _ => by
        simp only [ref08_Right_l5_succ]
        exact wp_ndec (by omega) (wp_ret rfl))
      (fun m k s x rest hd _ ih' => by
        obtain ⟨h1, h2, h3⟩ := drop_cons hd
        simp only [ref08_Right_l5_succ, dA_0, dA_1, dA_2, dC_0, dC_1, dC_2, dC_3, dC_4, dN_0, dN_1, dN_2, els_sl, els_dI, els_dL, List.length_map, Int.toNat_natCast, toInt_int, toInt_dB, toBool_bool, getD_c0, getD_c1, int_beq, int_bne, not_dec, dInt_dB, Int.toNat_zero, getD_map h2, wrap_succ (show k < 9223372036854775807 by omega)]
        repeat (refine wp_dec (by omega) ?_)
        refine wp_call (ih x (ha.cell x (List.mem_of_getElem? h2))) ?_
        simp only [getD_c0, toBool_bool, List.all_cons]
        refine wp_br (fun h4 => wp_ret ?_) (fun h4 => ?_)
        · simp at h4; rw [h4]; rfl
        · simp at h4; rw [h4, Bool.true_and]; exact ih' () trivial)
      (a.cells.length + 1) 0 () (by omega) (by omega) trivial
    exact key
theorem ref08_Right_all : ∀ d : Nat, d ≤ 100 → (∀ c, FitsC c → Sp 60 [dC c, .int (d : Int)] [.bool (rightC d c)]) ∧ ∀ a, Fits a → Sp 24 [dA a, .int (d : Int)] [.bool (rightA d a)]
  | 0, hd => by
    have hc : ∀ c, FitsC c → Sp 60 [dC c, .int ((0 : Nat) : Int)] [.bool (rightC 0 c)] := fun c hc => ref08_Cell_step 0 c hc hd (fun e he => by omega)
    exact ⟨hc, fun a ha => ref08_Right_step 0 a ha hc⟩
  | d + 1, hd => by
    have ih := ref08_Right_all d (by omega)
    have hc : ∀ c, FitsC c → Sp 60 [dC c, .int ((d + 1 : Nat) : Int)] [.bool (rightC (d + 1) c)] := fun c hc => ref08_Cell_step (d + 1) c hc hd (fun e he => by
      have : e = d := by omega
      subst this; exact ih.2)
    exact ⟨hc, fun a ha => ref08_Right_step (d + 1) a ha hc⟩
theorem ref08_Right_sp (a : Arr) (ha : Fits a) : Sp 24 [dA a, .int 8] [.bool (rightA 8 a)] := (ref08_Right_all 8 (by decide)).2 a ha
/-- How many of so many parts are left behind an array. -/
def w64 (x : Int) : Int := IntKind.wrap .i64 x
def leftAs (r : Arr → Int → Int) : List Arr → Int → Int
  | [], n => n
  | a :: as_, n => if 0 ≤ n then leftAs r as_ (r a n) else n
def leftCs (r : Arr → Int → Int) : List Cell → Int → Int
  | [], n => n
  | c :: cs, n => if 0 ≤ n then leftCs r cs (leftAs r c.inn (w64 (w64 (w64 (n - 1) - (c.n.top.length : Int)) - (c.n.bot.length : Int)))) else n
def leftA : Nat → Arr → Int → Int
  | 0, _, _ => -1
  | d + 1, a, n => leftCs (leftA d) a.cells (w64 (w64 (n - 1) - (a.shape.length : Int)))
def fewA (a : Arr) : Bool := decide (0 ≤ leftA 12 a 4000)
theorem ref08_left_sp : ∀ (d : Nat), d ≤ 100 → ∀ (a : Arr), Fits a → ∀ n : Int, Sp 118 [dA a, .int (d : Int), .int n] [.int (leftA d a n)]
  | 0, _, a, ha, n => sound_ 0 (ref08_left_tree _ _ _ _) (wp_tt rfl (wp_ret rfl))
  | d + 1, hd, a, ha, n => by
    obtain ⟨N, hN⟩ := bigFuel
    have hl := ha.len
    refine sound_ N (ref08_left_tree _ _ _ _) ?_
    simp only [dA_0, dA_1, dA_2, dC_0, dC_1, dC_2, dC_3, dC_4, dN_0, dN_1, dN_2, els_sl, els_dI, els_dL, List.length_map, Int.toNat_natCast, toInt_int, toInt_dB, toBool_bool, getD_c0, getD_c1, int_beq, int_bne, not_dec, dInt_dB, Int.toNat_zero]
    refine wp_ndec (by omega) ?_
    have key := loop_list (P := Try.prog) (md := md) a.cells (fun m k (n : Int) => ref08_left_l5 N m ((d + 1 : Nat) : Int) n (k : Int) (dA a)) (fun rest n => [.int (leftCs (leftA d) rest n)]) (fun _ _ => True)
      (fun m k n hk _ => by
        simp only [ref08_left_l5_succ, dA_0, dA_1, dA_2, dC_0, dC_1, dC_2, dC_3, dC_4, dN_0, dN_1, dN_2, els_sl, els_dI, els_dL, List.length_map, Int.toNat_natCast, toInt_int, toInt_dB, toBool_bool, getD_c0, getD_c1, int_beq, int_bne, not_dec, dInt_dB, Int.toNat_zero]
        exact wp_ndec (by omega) (wp_ret rfl))
      (fun m k n c rest hdr _ ih => by
        obtain ⟨h1, h2, h3⟩ := drop_cons hdr
        have hc := ha.cell c (List.mem_of_getElem? h2)
        have hlc := hc.2.2.1
        simp only [ref08_left_l5_succ, dA_0, dA_1, dA_2, dC_0, dC_1, dC_2, dC_3, dC_4, dN_0, dN_1, dN_2, els_sl, els_dI, els_dL, List.length_map, Int.toNat_natCast, toInt_int, toInt_dB, toBool_bool, getD_c0, getD_c1, int_beq, int_bne, not_dec, dInt_dB, Int.toNat_zero, getD_map h2, leftCs]
        refine wp_dec (by omega) (wp_decs (fun hn => ?_) (fun hn => wp_ret (by rw [if_neg hn])))
        rw [if_pos hn]
        repeat (refine wp_dec (by omega) ?_)
        have key := loop_list (P := Try.prog) (md := md) c.inn (fun m' j (n : Int) => ref08_left_l9 N m m' ((d + 1 : Nat) : Int) n (k : Int) (j : Int) (dA a)) (fun rest' n => [.int (leftCs (leftA d) rest (leftAs (leftA d) rest' n))]) (fun _ _ => True)
          (fun m' j n hj _ => by
            simp only [ref08_left_l9_succ, dA_0, dA_1, dA_2, dC_0, dC_1, dC_2, dC_3, dC_4, dN_0, dN_1, dN_2, els_sl, els_dI, els_dL, List.length_map, Int.toNat_natCast, toInt_int, toInt_dB, toBool_bool, getD_c0, getD_c1, int_beq, int_bne, not_dec, dInt_dB, Int.toNat_zero, getD_map h2, wrap_succ (show k < 9223372036854775807 by omega), leftAs]
            repeat (refine wp_dec (by omega) ?_)
            exact wp_ndec (by omega) (ih _ trivial))
          (fun m' j n x rest' hdr' _ ih' => by
            obtain ⟨g1, g2, g3⟩ := drop_cons hdr'
            simp only [ref08_left_l9_succ, dA_0, dA_1, dA_2, dC_0, dC_1, dC_2, dC_3, dC_4, dN_0, dN_1, dN_2, els_sl, els_dI, els_dL, List.length_map, Int.toNat_natCast, toInt_int, toInt_dB, toBool_bool, getD_c0, getD_c1, int_beq, int_bne, not_dec, dInt_dB, Int.toNat_zero, getD_map h2, getD_map g2, wrap_succ (show k < 9223372036854775807 by omega), wrap_succ (show j < 9223372036854775807 by omega), leftAs]
            refine wp_dec (by omega) (wp_dec (by omega) (wp_dec (by omega) (wp_decs (fun hn => ?_) (fun hn => by rw [if_neg hn]; exact ih _ trivial))))
            rw [if_pos hn]
            repeat (refine wp_dec (by omega) ?_)
            rw [wrap64 (by omega) (by omega), show ((d + 1 : Nat) : Int) - 1 = (d : Int) by omega]
            exact wp_call (ref08_left_sp d (by omega) x (hc.2.2.2 x (List.mem_of_getElem? g2)) n) (ih' _ trivial))
          N 0 (w64 (w64 (w64 (n - 1) - (c.n.top.length : Int)) - (c.n.bot.length : Int))) (by omega) (by omega) trivial
        exact key)
      N 0 (w64 (w64 (n - 1) - (a.shape.length : Int))) (by omega) (by omega) trivial
    exact key
theorem ref08_Few_sp (a : Arr) (ha : Fits a) : Sp 80 [dA a] [.bool (fewA a)] := sound_ 0 (ref08_Few_tree _ _) (wp_call (ref08_left_sp 12 (by decide) a ha 4000) (wp_ret rfl))
/-- Axes that make few places. -/
def thinS : List Int → Int → Int
  | [], n => n
  | x :: xs, n => if n ≤ 100000 then thinS xs (if 0 < x then w64 (n * x) else n) else n
def okT (n : Int) : Bool := decide (¬ 100000 < n)
mutual
def thinA : Arr → Bool
  | .mk _ sh cs => okT (thinS sh 1) && thinCs cs
def thinCs : List (CellF Arr) → Bool
  | [] => true
  | c :: cs => thinC c && thinCs cs
def thinC : CellF Arr → Bool
  | ⟨_, _, _, _, inn⟩ => thinAs inn
def thinAs : List Arr → Bool
  | [] => true
  | a :: as_ => thinA a && thinAs as_
end
theorem thinA_eq (a : Arr) : thinA a = (okT (thinS a.shape 1) && thinCs a.cells) := by cases a; rw [thinA]; rfl
theorem thinC_eq (c : Cell) : thinC c = thinAs c.inn := by cases c; rw [thinC]
theorem ref08_thin_sp (a : Arr) : Fits a → Sp 81 [dA a] [.bool (thinA a)] := by
  induction a using Arr.ind with
  | h s sh cs IH =>
    intro ha
    have hl := ha.len
    have hs := ha.sh
    have IH' : ∀ c ∈ (Arr.mk s sh cs).cells, ∀ x ∈ c.inn, Fits x → Sp 81 [dA x] [.bool (thinA x)] := IH
    generalize Arr.mk s sh cs = a at *
    obtain ⟨N, hN⟩ := bigFuel
    refine sound_ N (ref08_thin_tree _ _) ?_
    rw [thinA_eq]
    have inner : Tw (ref08_thin_l10 N N 0 (dA a)) [.bool (thinCs a.cells)] := by
      have key := loop_list (P := Try.prog) (md := md) a.cells (fun m k (_ : Unit) => ref08_thin_l10 N m (k : Int) (dA a)) (fun rest _ => [.bool (thinCs rest)]) (fun _ _ => True)
        (fun m k n hk _ => by
          simp only [ref08_thin_l10_succ, dA_0, dA_1, dA_2, dC_0, dC_1, dC_2, dC_3, dC_4, dN_0, dN_1, dN_2, els_sl, els_dI, els_dL, List.length_map, Int.toNat_natCast, toInt_int, toInt_dB, toBool_bool, getD_c0, getD_c1, int_beq, int_bne, not_dec, dInt_dB, Int.toNat_zero]
          exact wp_ndec (by omega) (wp_ret (by rw [thinCs])))
        (fun m k n c rest hdr _ ih => by
          obtain ⟨h1, h2, h3⟩ := drop_cons hdr
          have hc := ha.cell c (List.mem_of_getElem? h2)
          have hlc := hc.2.2.1
          simp only [ref08_thin_l10_succ, dA_0, dA_1, dA_2, dC_0, dC_1, dC_2, dC_3, dC_4, dN_0, dN_1, dN_2, els_sl, els_dI, els_dL, List.length_map, Int.toNat_natCast, toInt_int, toInt_dB, toBool_bool, getD_c0, getD_c1, int_beq, int_bne, not_dec, dInt_dB, Int.toNat_zero, getD_map h2]
          repeat (refine wp_dec (by omega) ?_)
          rw [thinCs, thinC_eq]
          have key := loop_list (P := Try.prog) (md := md) c.inn (fun m' j (_ : Unit) => ref08_thin_l13 N m m' (k : Int) (j : Int) (dA a)) (fun rest' _ => [.bool (thinAs rest' && thinCs rest)]) (fun _ _ => True)
            (fun m' j n hj _ => by
              simp only [ref08_thin_l13_succ, dA_0, dA_1, dA_2, dC_0, dC_1, dC_2, dC_3, dC_4, dN_0, dN_1, dN_2, els_sl, els_dI, els_dL, List.length_map, Int.toNat_natCast, toInt_int, toInt_dB, toBool_bool, getD_c0, getD_c1, int_beq, int_bne, not_dec, dInt_dB, Int.toNat_zero, getD_map h2, wrap_succ (show k < 9223372036854775807 by omega)]
              repeat (refine wp_dec (by omega) ?_)
              rw [thinAs, Bool.true_and]
              exact wp_ndec (by omega) (ih () trivial))
            (fun m' j n x rest' hdr' _ ih' => by
              obtain ⟨g1, g2, g3⟩ := drop_cons hdr'
              simp only [ref08_thin_l13_succ, dA_0, dA_1, dA_2, dC_0, dC_1, dC_2, dC_3, dC_4, dN_0, dN_1, dN_2, els_sl, els_dI, els_dL, List.length_map, Int.toNat_natCast, toInt_int, toInt_dB, toBool_bool, getD_c0, getD_c1, int_beq, int_bne, not_dec, dInt_dB, Int.toNat_zero, getD_map h2, getD_map g2, wrap_succ (show j < 9223372036854775807 by omega)]
              repeat (refine wp_dec (by omega) ?_)
              refine wp_call (IH' c (List.mem_of_getElem? h2) x (List.mem_of_getElem? g2) (hc.2.2.2 x (List.mem_of_getElem? g2))) ?_
              simp only [getD_c0, toBool_bool]
              rw [thinAs]
              refine wp_br (fun e => wp_ret ?_) (fun e => ?_)
              · simp at e; rw [e]; rfl
              · simp at e; rw [e, Bool.true_and]; exact ih' () trivial)
            N 0 () (by omega) (by omega) trivial
          exact key)
        N 0 () (by omega) (by omega) trivial
      exact key
    have fin : ∀ n : Int, Tw (.br (decide (100000 < n)) (.ret [D.bool false]) (ref08_thin_l10 N N 0 (dA a))) [.bool (okT n && thinCs a.cells)] := fun n => by
      unfold okT
      refine wp_decs (fun h => wp_ret ?_) (fun h => ?_)
      · rw [decide_eq_false (fun hh => hh h)]; rfl
      · rw [decide_eq_true h, Bool.true_and]; exact inner
    have key := loop_list (P := Try.prog) (md := md) a.shape (fun m k (n : Int) => ref08_thin_l3 N m n (k : Int) (dA a)) (fun rest n => [.bool (okT (thinS rest n) && thinCs a.cells)]) (fun _ _ => True)
      (fun m k n hk _ => by
        simp only [ref08_thin_l3_succ, dA_0, dA_1, dA_2, dC_0, dC_1, dC_2, dC_3, dC_4, dN_0, dN_1, dN_2, els_sl, els_dI, els_dL, List.length_map, Int.toNat_natCast, toInt_int, toInt_dB, toBool_bool, getD_c0, getD_c1, int_beq, int_bne, not_dec, dInt_dB, Int.toNat_zero]
        exact wp_ndec (by omega) (fin n))
      (fun m k n x rest hdr _ ih => by
        obtain ⟨h1, h2, h3⟩ := drop_cons hdr
        simp only [ref08_thin_l3_succ, dA_0, dA_1, dA_2, dC_0, dC_1, dC_2, dC_3, dC_4, dN_0, dN_1, dN_2, els_sl, els_dI, els_dL, List.length_map, Int.toNat_natCast, toInt_int, toInt_dB, toBool_bool, getD_c0, getD_c1, int_beq, int_bne, not_dec, dInt_dB, Int.toNat_zero, getD_map h2, wrap_succ (show k < 9223372036854775807 by omega), thinS]
        refine wp_dec (by omega) (wp_decs (fun hn => wp_dec (by omega) (wp_dec (by omega) (wp_decs (fun hx => wp_dec (by omega) (wp_dec (by omega) ?_)) (fun hx => ?_)))) (fun hn => ?_))
        · rw [if_pos hn, if_pos hx]; exact ih _ trivial
        · rw [if_pos hn, if_neg hx]; exact ih _ trivial
        · rw [if_neg hn]; exact fin n)
      N 0 1 (by omega) (by omega) trivial
    exact key
def goodA (a : Arr) : Bool := fewA a && rightA 8 a && thinA a
theorem goodA_right {a : Arr} (h : goodA a = true) : rightA 8 a = true := by unfold goodA at h; simp at h; exact h.1.2
theorem ref08_Good_sp (a : Arr) (ha : Fits a) : Sp 37 [dA a] [.bool (goodA a)] := by
  refine sound_ 0 (ref08_Good_tree _ _) (wp_call (ref08_Few_sp a ha) ?_)
  unfold goodA
  simp only [getD_c0, toBool_bool]
  refine wp_br (fun e1 => wp_call (ref08_Right_sp a ha) ?_) (fun e1 => wp_ret (by rw [e1]; rfl))
  simp only [getD_c0, toBool_bool]
  refine wp_br (fun e2 => wp_call (ref08_thin_sp a ha) (wp_ret ?_)) (fun e2 => wp_ret (by rw [e2, Bool.and_false]; rfl))
  rw [e1, e2]; rfl
theorem ref08_Good_ex (a : Arr) (ha : Fits a) : ∃ b, (b = true → rightA 8 a = true) ∧ Sp 37 [dA a] [.bool b] := ⟨goodA a, goodA_right, ref08_Good_sp a ha⟩
theorem ref08_Total_sp (a : Arr) : Fits a → Sp 55 [dA a] [dB (totA a)] := by
  induction a using Arr.ind with
  | h s sh cs IH =>
    intro ha
    have hl := ha.len
    have IH' : ∀ c ∈ (Arr.mk s sh cs).cells, ∀ x ∈ c.inn, Fits x → Sp 55 [dA x] [dB (totA x)] := IH
    generalize Arr.mk s sh cs = a at *
    obtain ⟨N, hN⟩ := bigFuel
    refine sound_ N (ref08_Total_tree _ _) ?_
    rw [totA_eq]
    have key := loop_list (P := Try.prog) (md := md) a.cells (fun m k (l : Lab) => ref08_Total_l3 N m (l.toNat : Int) (k : Int) (dA a)) (fun rest l => [dB (rest.foldl totC l)]) (fun _ _ => True)
      (fun m k l hk _ => by
        simp only [ref08_Total_l3_succ, dA_0, dA_1, dA_2, dC_0, dC_1, dC_2, dC_3, dC_4, dN_0, dN_1, dN_2, els_sl, els_dI, els_dL, List.length_map, Int.toNat_natCast, toInt_int, toInt_dB, toBool_bool, getD_c0, getD_c1, int_beq, int_bne, not_dec, dInt_dB, Int.toNat_zero]
        exact wp_ndec (by omega) (wp_ret rfl))
      (fun m k l c rest hdr _ ih => by
        obtain ⟨h1, h2, h3⟩ := drop_cons hdr
        have hc := ha.cell c (List.mem_of_getElem? h2)
        have hlc := hc.2.2.1
        simp only [ref08_Total_l3_succ, dA_0, dA_1, dA_2, dC_0, dC_1, dC_2, dC_3, dC_4, dN_0, dN_1, dN_2, els_sl, els_dI, els_dL, List.length_map, Int.toNat_natCast, toInt_int, toInt_dB, toBool_bool, getD_c0, getD_c1, int_beq, int_bne, not_dec, dInt_dB, Int.toNat_zero, getD_map h2]
        repeat (refine wp_dec (by omega) ?_)
        refine wp_call (ref01_Join_sp l c.l) ?_
        simp only [getD_c0, toInt_dB, List.foldl_cons]
        rw [totC_eq]
        have key := loop_list (P := Try.prog) (md := md) c.inn (fun m' j (l : Lab) => ref08_Total_l7 N m m' (l.toNat : Int) (k : Int) (j : Int) (dA a)) (fun rest' l => [dB (rest.foldl totC (rest'.foldl (fun l x => l ||| totA x) l))]) (fun _ _ => True)
          (fun m' j l hj _ => by
            simp only [ref08_Total_l7_succ, dA_0, dA_1, dA_2, dC_0, dC_1, dC_2, dC_3, dC_4, dN_0, dN_1, dN_2, els_sl, els_dI, els_dL, List.length_map, Int.toNat_natCast, toInt_int, toInt_dB, toBool_bool, getD_c0, getD_c1, int_beq, int_bne, not_dec, dInt_dB, Int.toNat_zero, getD_map h2, wrap_succ (show k < 9223372036854775807 by omega)]
            repeat (refine wp_dec (by omega) ?_)
            exact wp_ndec (by omega) (ih _ trivial))
          (fun m' j l x rest' hdr' _ ih' => by
            obtain ⟨g1, g2, g3⟩ := drop_cons hdr'
            simp only [ref08_Total_l7_succ, dA_0, dA_1, dA_2, dC_0, dC_1, dC_2, dC_3, dC_4, dN_0, dN_1, dN_2, els_sl, els_dI, els_dL, List.length_map, Int.toNat_natCast, toInt_int, toInt_dB, toBool_bool, getD_c0, getD_c1, int_beq, int_bne, not_dec, dInt_dB, Int.toNat_zero, getD_map h2, getD_map g2, wrap_succ (show j < 9223372036854775807 by omega)]
            repeat (refine wp_dec (by omega) ?_)
            refine wp_call (IH' c (List.mem_of_getElem? h2) x (List.mem_of_getElem? g2) (hc.2.2.2 x (List.mem_of_getElem? g2))) (wp_call (ref01_Join_sp l (totA x)) ?_)
            exact ih' (l ||| totA x) trivial)
          N 0 (l ||| c.l) (by omega) (by omega) trivial
        exact key)
      N 0 a.s (by omega) (by omega) trivial
    simp only [dA_0, toInt_dB]
    exact key
/-- The same, with labels. -/
noncomputable def eqA (a b : Arr) : Bool := @decide (a = b) (Classical.propDecidable _)
noncomputable def eqC (a b : Cell) : Bool := @decide (a = b) (Classical.propDecidable _)
theorem eqA_iff {a b : Arr} : eqA a b = true ↔ a = b := by unfold eqA; exact @decide_eq_true_iff _ (Classical.propDecidable _)
theorem eqA_false {a b : Arr} (h : a ≠ b) : eqA a b = false := by cases e : eqA a b with
  | false => rfl
  | true => exact absurd (eqA_iff.1 e) h
theorem eqC_iff {a b : Cell} : eqC a b = true ↔ a = b := by unfold eqC; exact @decide_eq_true_iff _ (Classical.propDecidable _)
theorem eqC_false {a b : Cell} (h : a ≠ b) : eqC a b = false := by cases e : eqC a b with
  | false => rfl
  | true => exact absurd (eqC_iff.1 e) h
theorem eqA_self (a : Arr) : eqA a a = true := eqA_iff.2 rfl
theorem eqC_self (a : Cell) : eqC a a = true := eqC_iff.2 rfl
theorem cell_eq (a b : Cell) : (a = b) ↔ (a.l = b.l ∧ a.kind = b.kind ∧ a.c = b.c ∧ a.n = b.n ∧ a.inn = b.inn) := by
  cases a; cases b
  constructor
  · rintro ⟨⟩; exact ⟨rfl, rfl, rfl, rfl, rfl⟩
  · rintro ⟨h1, h2, h3, h4, h5⟩; dsimp only at h1 h2 h3 h4 h5; subst h1; subst h2; subst h3; subst h4; subst h5; rfl
theorem arr_eq (a b : Arr) : (a = b) ↔ (a.s = b.s ∧ a.shape = b.shape ∧ a.cells = b.cells) := by
  cases a; cases b; simp
/-- A loop that asks whether two lists are the same. -/
theorem same_loop {α : Type} {P : Program} {md : Nat → FMode} (a b : List α) (e : α → α → Bool) (he : ∀ x ∈ a, ∀ y, e x y = true ↔ x = y) (hlen : a.length = b.length) (r : Bool) (hr : r = true ↔ a = b) (L : Nat → Nat → Tree)
    (hend : ∀ m, ∀ Q : List D → Prop, Q [.bool true] → (L (m + 1) a.length).wp P md Q)
    (hstep : ∀ m k x y, ∀ Q : List D → Prop, a[k]? = some x → b[k]? = some y → (e x y = false → Q [.bool false]) → (e x y = true → (L m (k + 1)).wp P md Q) → (L (m + 1) k).wp P md Q) (N : Nat) (hN : a.length < N) : (L N 0).wp P md (fun zs => zs = [.bool r]) := by
  have key := loop_up (P := P) (md := md) a.length (fun m k (_ : Unit) => L m k) (fun _ _ => [.bool r]) (fun k _ => a.take k = b.take k)
    (fun m s h => by
      refine hend m _ ?_
      rw [List.take_of_length_le (Nat.le_refl _), List.take_of_length_le (by omega)] at h
      rw [hr.2 h])
    (fun m k s hk h ih => by
      have ha : a[k]? = some a[k] := List.getElem?_eq_getElem _
      have hb : b[k]? = some (b[k]'(by omega)) := List.getElem?_eq_getElem _
      refine hstep m k _ _ _ ha hb (fun hf => ?_) (fun ht => ih () ?_)
      · have : r = false := by
          cases hrr : r with
          | false => rfl
          | true =>
            have := hr.1 hrr
            subst this
            rw [(he a[k] (List.getElem_mem _) a[k]).2 rfl] at hf; cases hf
        rw [this]
      · have : a[k] = b[k] := (he a[k] (List.getElem_mem _) _).1 ht
        rw [List.take_succ_eq_append_getElem hk, List.take_succ_eq_append_getElem (by omega), h, this])
    N 0 () (by omega) (by omega) (by simp)
  exact key
theorem ref08_SameCell_step (a : Cell) (hf : FitsC a) (ih : ∀ x ∈ a.inn, Fits x → ∀ y, Sp 15 [dA x, dA y] [.bool (eqA x y)]) (b : Cell) : Sp 48 [dC a, dC b] [.bool (eqC a b)] := by
  refine sound_ (a.inn.length + 1) (ref08_SameCell_tree _ _ _) ?_
  have hl := hf.2.2.1
  simp only [dA_0, dA_1, dA_2, dC_0, dC_1, dC_2, dC_3, dC_4, dN_0, dN_1, dN_2, els_sl, els_dI, els_dL, List.length_map, Int.toNat_natCast, toInt_int, toInt_dB, toBool_bool, getD_c0, getD_c1, int_beq, int_bne, not_dec, dInt_dB, Int.toNat_zero]
  refine wp_decs (fun h => wp_ret ?_) (fun h1 => wp_decs (fun h => wp_ret ?_) (fun h2 => wp_decs (fun h => wp_ret ?_) (fun h3 => wp_call (ref04_Same_sp a.n b.n hf.1 hf.2.1) ?_)))
  · rw [eqC_false]; rintro rfl; exact h rfl
  · rw [eqC_false]; rintro rfl; exact h rfl
  · rw [eqC_false]; rintro rfl; exact h rfl
  simp only [getD_c0, toBool_bool, not_dec]
  refine wp_decs (fun h => wp_ret ?_) (fun h4 => wp_decs (fun h => wp_ret ?_) (fun h5 => ?_))
  · rw [eqC_false]; rintro rfl; exact h rfl
  · rw [eqC_false]; rintro rfl; exact h rfl
  have e1 : a.l = b.l := BitVec.eq_of_toNat_eq (by omega)
  refine same_loop (P := Try.prog) (md := md) a.inn b.inn eqA (fun x _ y => eqA_iff) (by omega) (eqC a b) ?_ (fun m k => ref08_SameCell_l4 (a.inn.length + 1) m (k : Int) (dC a) (dC b)) ?_ ?_ (a.inn.length + 1) (by omega)
  · rw [eqC_iff, cell_eq]
    have h2' := Classical.not_not.1 h2
    have h3' := Classical.not_not.1 h3
    have h4' := Classical.not_not.1 h4
    simp [e1, h2', h3', h4']
  · intro m Q hQ
    simp only [ref08_SameCell_l4_succ, dA_0, dA_1, dA_2, dC_0, dC_1, dC_2, dC_3, dC_4, dN_0, dN_1, dN_2, els_sl, els_dI, els_dL, List.length_map, Int.toNat_natCast, toInt_int, toInt_dB, toBool_bool, getD_c0, getD_c1, int_beq, int_bne, not_dec, dInt_dB, Int.toNat_zero]
    exact wp_ndec (by omega) (wp_ret hQ)
  · intro m k x y Q hx hy hF hT
    have hk : k < a.inn.length := (List.getElem?_eq_some_iff.1 hx).1
    simp only [ref08_SameCell_l4_succ, dA_0, dA_1, dA_2, dC_0, dC_1, dC_2, dC_3, dC_4, dN_0, dN_1, dN_2, els_sl, els_dI, els_dL, List.length_map, Int.toNat_natCast, toInt_int, toInt_dB, toBool_bool, getD_c0, getD_c1, int_beq, int_bne, not_dec, dInt_dB, Int.toNat_zero, getD_map hx, getD_map hy, wrap_succ (show k < 9223372036854775807 by omega)]
    repeat (refine wp_dec (by omega) ?_)
    refine wp_call (ih x (List.mem_of_getElem? hx) (hf.2.2.2 x (List.mem_of_getElem? hx)) y) ?_
    simp only [getD_c0, toBool_bool]
    refine wp_br (fun h => wp_ret (hF (by simpa using h))) (fun h => hT (by simpa using h))
theorem ref08_Same_sp (a : Arr) : Fits a → ∀ b, Sp 15 [dA a, dA b] [.bool (eqA a b)] := by
  induction a using Arr.ind with
  | h s sh cs IH =>
    intro ha b
    have hl := ha.len
    have IH' : ∀ c ∈ (Arr.mk s sh cs).cells, ∀ x ∈ c.inn, Fits x → ∀ y, Sp 15 [dA x, dA y] [.bool (eqA x y)] := IH
    generalize Arr.mk s sh cs = a at *
    refine sound_ (a.cells.length + 1) (ref08_Same_tree _ _ _) ?_
    simp only [dA_0, dA_1, dA_2, dC_0, dC_1, dC_2, dC_3, dC_4, dN_0, dN_1, dN_2, els_sl, els_dI, els_dL, List.length_map, Int.toNat_natCast, toInt_int, toInt_dB, toBool_bool, getD_c0, getD_c1, int_beq, int_bne, not_dec, dInt_dB, Int.toNat_zero]
    refine wp_decs (fun h => wp_ret ?_) (fun h1 => wp_call (ref07_Ints_sp a.shape b.shape ha.sh) ?_)
    · rw [eqA_false]; rintro rfl; exact h rfl
    simp only [getD_c0, toBool_bool, not_dec]
    refine wp_decs (fun h => wp_ret ?_) (fun h4 => wp_decs (fun h => wp_ret ?_) (fun h5 => ?_))
    · rw [eqA_false]; rintro rfl; exact h rfl
    · rw [eqA_false]; rintro rfl; exact h rfl
    have e1 : a.s = b.s := BitVec.eq_of_toNat_eq (by omega)
    refine same_loop (P := Try.prog) (md := md) a.cells b.cells eqC (fun x _ y => eqC_iff) (by omega) (eqA a b) ?_ (fun m k => ref08_Same_l4 (a.cells.length + 1) m (k : Int) (dA a) (dA b)) ?_ ?_ (a.cells.length + 1) (by omega)
    · rw [eqA_iff, arr_eq]
      have h4' := Classical.not_not.1 h4
      simp [e1, h4']
    · intro m Q hQ
      simp only [ref08_Same_l4_succ, dA_0, dA_1, dA_2, dC_0, dC_1, dC_2, dC_3, dC_4, dN_0, dN_1, dN_2, els_sl, els_dI, els_dL, List.length_map, Int.toNat_natCast, toInt_int, toInt_dB, toBool_bool, getD_c0, getD_c1, int_beq, int_bne, not_dec, dInt_dB, Int.toNat_zero]
      exact wp_ndec (by omega) (wp_ret hQ)
    · intro m k x y Q hx hy hF hT
      have hk : k < a.cells.length := (List.getElem?_eq_some_iff.1 hx).1
      simp only [ref08_Same_l4_succ, dA_0, dA_1, dA_2, dC_0, dC_1, dC_2, dC_3, dC_4, dN_0, dN_1, dN_2, els_sl, els_dI, els_dL, List.length_map, Int.toNat_natCast, toInt_int, toInt_dB, toBool_bool, getD_c0, getD_c1, int_beq, int_bne, not_dec, dInt_dB, Int.toNat_zero, getD_map hx, getD_map hy, wrap_succ (show k < 9223372036854775807 by omega)]
      repeat (refine wp_dec (by omega) ?_)
      refine wp_call (ref08_SameCell_step x (ha.cell x (List.mem_of_getElem? hx)) (IH' x (List.mem_of_getElem? hx)) y) ?_
      simp only [getD_c0, toBool_bool]
      refine wp_br (fun h => wp_ret (hF (by simpa using h))) (fun h => hT (by simpa using h))
theorem ref08_SameCell_sp (a b : Cell) (hf : FitsC a) : Sp 48 [dC a, dC b] [.bool (eqC a b)] := ref08_SameCell_step a hf (fun x _ hx y => ref08_Same_sp x hx y) b
/-- Small whole numbers; an error. -/
def intsCs : List Cell → Option (List Int)
  | [] => some []
  | c :: cs => if c.kind = 0 then (smallN c.n).bind (fun z => (intsCs cs).map (z :: ·)) else none
def intsA (a : Arr) : List Int × Int := if 1 < a.shape.length then ([], 5) else match intsCs a.cells with
  | some l => (l, 0)
  | none => ([], 3)
def intC (z : Int) : Cell := ⟨0, 0, ofZ z, 0, []⟩
def fillC (a : Arr) : Cell := match a.cells with
  | [] => intC 0
  | c :: _ => if c.kind = 1 then ⟨c.l, 1, .zero, 32, []⟩ else ⟨c.l, 0, ofZ 0, 0, []⟩
theorem smallN_inR {n : Num} {z : Int} (h : smallN n = some z) : inR z := by
  unfold smallN smO at h
  split at h
  · split at h
    · injection h with h; subst h; assumption
    · cases h
  · cases h
theorem intsCs_inR : ∀ {cs : List Cell} {l : List Int}, intsCs cs = some l → l.length = cs.length ∧ ∀ x ∈ l, inR x
  | [], l, h => by simp [intsCs] at h; subst h; simp
  | c :: cs, l, h => by
    simp only [intsCs] at h
    split at h
    · cases hn : smallN c.n with
      | none => rw [hn] at h; cases h
      | some z =>
        rw [hn] at h
        cases hc : intsCs cs with
        | none => rw [hc] at h; cases h
        | some l' =>
          rw [hc] at h
          injection h with h; subst h
          have := intsCs_inR hc
          exact ⟨by simp [this.1], fun x hx => by rcases List.mem_cons.1 hx with rfl | hx; exact smallN_inR hn; exact this.2 x hx⟩
    · cases h
def insD (out : List Int) : Option (List Int) → List D
  | some l => [dI (out ++ l), .int 0]
  | none => [.sl [], .int 3]
theorem insD_intsA {a : Arr} (h : ¬ 1 < a.shape.length) : insD [] (intsCs a.cells) = [dI (intsA a).1, .int (intsA a).2] := by
  unfold intsA; rw [if_neg h]; cases intsCs a.cells <;> rfl
theorem ref08_Ints_sp (a : Arr) (hl : a.cells.length ≤ 2048) (hn : ∀ c ∈ a.cells, c.n.top.length ≤ 32) : Sp 62 [dA a] [dI (intsA a).1, .int (intsA a).2] := by
  refine sound_ (a.cells.length + 1) (ref08_Ints_tree _ _) ?_
  simp only [dA_0, dA_1, dA_2, dC_0, dC_1, dC_2, dC_3, dC_4, dN_0, dN_1, dN_2, els_sl, els_dI, els_dL, List.length_map, Int.toNat_natCast, toInt_int, toInt_dB, toBool_bool, getD_c0, getD_c1, int_beq, int_bne, not_dec, dInt_dB, Int.toNat_zero]
  refine wp_decs (fun h => wp_ret ?_) (fun h => ?_)
  · unfold intsA; rw [if_pos (by omega)]; rfl
  · rw [← insD_intsA (by omega)]
    have key := loop_list (P := Try.prog) (md := md) a.cells (fun m k (out : List Int) => ref08_Ints_l5 (a.cells.length + 1) m (out.map .int) (k : Int) (dA a)) (fun rest out => insD out (intsCs rest)) (fun rest out => out.length + rest.length ≤ 2048)
      (fun m k out hk _ => by
        simp only [ref08_Ints_l5_succ, dA_0, dA_1, dA_2, dC_0, dC_1, dC_2, dC_3, dC_4, dN_0, dN_1, dN_2, els_sl, els_dI, els_dL, List.length_map, Int.toNat_natCast, toInt_int, toInt_dB, toBool_bool, getD_c0, getD_c1, int_beq, int_bne, not_dec, dInt_dB, Int.toNat_zero]
        exact wp_ndec (by omega) (wp_ret (by simp [intsCs, insD, dI])))
      (fun m k out c rest hdr hI ih => by
        obtain ⟨h1, h2, h3⟩ := drop_cons hdr
        have hm := List.mem_of_getElem? h2
        simp only [ref08_Ints_l5_succ, dA_0, dA_1, dA_2, dC_0, dC_1, dC_2, dC_3, dC_4, dN_0, dN_1, dN_2, els_sl, els_dI, els_dL, List.length_map, Int.toNat_natCast, toInt_int, toInt_dB, toBool_bool, getD_c0, getD_c1, int_beq, int_bne, not_dec, dInt_dB, Int.toNat_zero, getD_map h2, wrap_succ (show k < 9223372036854775807 by omega)]
        repeat (refine wp_dec (by omega) ?_)
        simp only [intsCs]
        refine wp_decs (fun hk => wp_ret ?_) (fun hk => ?_)
        · rw [if_neg hk]; rfl
        rw [if_pos (Classical.not_not.1 hk)]
        repeat (refine wp_dec (by omega) ?_)
        refine wp_call (ref04_Small_sp c.n (by have := hn c hm; omega)) ?_
        cases hs : smallN c.n with
        | none => exact wp_tt rfl (wp_ret rfl)
        | some z =>
          refine wp_ff rfl (wp_dec ?_ ?_)
          · simp only [List.length_cons, List.length_nil, bigN, List.length_map] at hI ⊢; omega
          · have := ih (out ++ [z]) (by simp only [List.length_append, List.length_cons, List.length_nil] at hI ⊢; omega)
            simp only [optI, getD_c0, toInt_int]
            rw [List.map_append] at this
            refine Tree.wp_mono this (fun ys hy => hy.trans ?_)
            cases intsCs rest with
            | none => rfl
            | some l => simp [insD])
      (a.cells.length + 1) 0 [] (by omega) (by omega) (by simpa using hl)
    exact key
theorem ref08_Int_sp (z : Int) (hz : inR z) : Sp 46 [.int z] [dC (intC z)] := by
  refine sound_ 0 (ref08_Int_tree _ _) (wp_call (ref04_Of_sp z hz) (wp_ret ?_))
  rw [dC_eq]; rfl
end Go.Proofs.Ytcgfpibkajagjaa
set_option maxRecDepth 100000
namespace Go.Proofs.Ytcgfpibkajagjaa

theorem array_Total_sp (a : Arr) : Fits a → Sp 53 [dA a] [dB (totA a)] := by
  induction a using Arr.ind with
  | h s sh cs IH =>
    intro ha
    have hl := ha.len
    have IH' : ∀ c ∈ (Arr.mk s sh cs).cells, ∀ x ∈ c.inn, Fits x → Sp 53 [dA x] [dB (totA x)] := IH
    generalize Arr.mk s sh cs = a at *
    obtain ⟨N, hN⟩ := bigFuel
    refine sound_ N (array_Total_tree _ _) ?_
    rw [totA_eq]
    have key := loop_list (P := Try.prog) (md := md) a.cells (fun m k (l : Lab) => array_Total_l3 N m (l.toNat : Int) (.sl (a.cells.map dC)) (a.cells.length : Int) (k : Int)) (fun rest l => [dB (rest.foldl totC l)]) (fun _ _ => True)
      (fun m k l hk _ => by
        simp only [array_Total_l3_succ, dA_0, dA_1, dA_2, dC_0, dC_1, dC_2, dC_3, dC_4, dN_0, dN_1, dN_2, els_sl, els_dI, els_dL, List.length_map, Int.toNat_natCast, toInt_int, toInt_dB, toBool_bool, getD_c0, getD_c1, int_beq, int_bne, not_dec, dInt_dB, Int.toNat_zero]
        exact wp_ndec (by omega) (wp_ret rfl))
      (fun m k l c rest hdr _ ih => by
        obtain ⟨h1, h2, h3⟩ := drop_cons hdr
        have hc := ha.cell c (List.mem_of_getElem? h2)
        have hlc := hc.2.2.1
        simp only [array_Total_l3_succ, dA_0, dA_1, dA_2, dC_0, dC_1, dC_2, dC_3, dC_4, dN_0, dN_1, dN_2, els_sl, els_dI, els_dL, List.length_map, Int.toNat_natCast, toInt_int, toInt_dB, toBool_bool, getD_c0, getD_c1, int_beq, int_bne, not_dec, dInt_dB, Int.toNat_zero, getD_map h2]
        repeat (refine wp_dec (by omega) ?_)
        refine wp_call (label_Join_sp l c.l) ?_
        simp only [getD_c0, toInt_dB, List.foldl_cons]
        rw [totC_eq]
        have key := loop_list (P := Try.prog) (md := md) c.inn (fun m' j (l : Lab) => array_Total_l7 N m m' (l.toNat : Int) (.sl (a.cells.map dC)) (a.cells.length : Int) (k : Int) (.sl (c.inn.map dA)) (c.inn.length : Int) (j : Int)) (fun rest' l => [dB (rest.foldl totC (rest'.foldl (fun l x => l ||| totA x) l))]) (fun _ _ => True)
          (fun m' j l hj _ => by
            simp only [array_Total_l7_succ, dA_0, dA_1, dA_2, dC_0, dC_1, dC_2, dC_3, dC_4, dN_0, dN_1, dN_2, els_sl, els_dI, els_dL, List.length_map, Int.toNat_natCast, toInt_int, toInt_dB, toBool_bool, getD_c0, getD_c1, int_beq, int_bne, not_dec, dInt_dB, Int.toNat_zero, getD_map h2, wrap_succ (show k < 9223372036854775807 by omega)]
            exact wp_ndec (by omega) (ih _ trivial))
          (fun m' j l x rest' hdr' _ ih' => by
            obtain ⟨g1, g2, g3⟩ := drop_cons hdr'
            simp only [array_Total_l7_succ, dA_0, dA_1, dA_2, dC_0, dC_1, dC_2, dC_3, dC_4, dN_0, dN_1, dN_2, els_sl, els_dI, els_dL, List.length_map, Int.toNat_natCast, toInt_int, toInt_dB, toBool_bool, getD_c0, getD_c1, int_beq, int_bne, not_dec, dInt_dB, Int.toNat_zero, getD_map h2, getD_map g2, wrap_succ (show j < 9223372036854775807 by omega)]
            repeat (refine wp_dec (by omega) ?_)
            refine wp_call (IH' c (List.mem_of_getElem? h2) x (List.mem_of_getElem? g2) (hc.2.2.2 x (List.mem_of_getElem? g2))) (wp_call (label_Join_sp l (totA x)) ?_)
            exact ih' (l ||| totA x) trivial)
          N 0 (l ||| c.l) (by omega) (by omega) trivial
        exact key)
      N 0 a.s (by omega) (by omega) trivial
    simp only [dA_0, dA_1, dA_2, dC_0, dC_1, dC_2, dC_3, dC_4, dN_0, dN_1, dN_2, els_sl, els_dI, els_dL, List.length_map, Int.toNat_natCast, toInt_int, toInt_dB, toBool_bool, getD_c0, getD_c1, int_beq, int_bne, not_dec, dInt_dB, Int.toNat_zero]
    exact key
theorem array_Ints_sp (a : Arr) (hl : a.cells.length ≤ 2048) (hn : ∀ c ∈ a.cells, c.n.top.length ≤ 32) : Sp 61 [dA a] [dI (intsA a).1, .int (intsA a).2] := by
  refine sound_ (a.cells.length + 1) (array_Ints_tree _ _) ?_
  simp only [dA_0, dA_1, dA_2, dC_0, dC_1, dC_2, dC_3, dC_4, dN_0, dN_1, dN_2, els_sl, els_dI, els_dL, List.length_map, Int.toNat_natCast, toInt_int, toInt_dB, toBool_bool, getD_c0, getD_c1, int_beq, int_bne, not_dec, dInt_dB, Int.toNat_zero, List.replicate_zero]
  refine wp_decs (fun h => wp_ret ?_) (fun h => ?_)
  · unfold intsA; rw [if_pos (by omega)]; rfl
  · rw [← insD_intsA (by omega)]
    refine wp_dec (by omega) (wp_dec (by omega) (wp_dec (by simp only [bigN]; omega) ?_))
    have key := loop_list (P := Try.prog) (md := md) a.cells (fun m k (out : List Int) => array_Ints_l5 (a.cells.length + 1) m (out.map .int) (.sl (a.cells.map dC)) (a.cells.length : Int) (k : Int)) (fun rest out => insD out (intsCs rest)) (fun rest out => out.length + rest.length ≤ 2048)
      (fun m k out hk _ => by
        simp only [array_Ints_l5_succ, dA_0, dA_1, dA_2, dC_0, dC_1, dC_2, dC_3, dC_4, dN_0, dN_1, dN_2, els_sl, els_dI, els_dL, List.length_map, Int.toNat_natCast, toInt_int, toInt_dB, toBool_bool, getD_c0, getD_c1, int_beq, int_bne, not_dec, dInt_dB, Int.toNat_zero]
        exact wp_ndec (by omega) (wp_ret (by simp [intsCs, insD, dI])))
      (fun m k out c rest hdr hI ih => by
        obtain ⟨h1, h2, h3⟩ := drop_cons hdr
        have hm := List.mem_of_getElem? h2
        simp only [array_Ints_l5_succ, dA_0, dA_1, dA_2, dC_0, dC_1, dC_2, dC_3, dC_4, dN_0, dN_1, dN_2, els_sl, els_dI, els_dL, List.length_map, Int.toNat_natCast, toInt_int, toInt_dB, toBool_bool, getD_c0, getD_c1, int_beq, int_bne, not_dec, dInt_dB, Int.toNat_zero, getD_map h2, wrap_succ (show k < 9223372036854775807 by omega)]
        repeat (refine wp_dec (by omega) ?_)
        simp only [intsCs]
        refine wp_call (ratio_Small_sp c.n (by have := hn c hm; omega)) ?_
        refine wp_decs (fun hk => wp_ret ?_) (fun hk => ?_)
        · rw [if_neg hk]; rfl
        rw [if_pos (Classical.not_not.1 hk)]
        cases hs : smallN c.n with
        | none => exact wp_tt rfl (wp_ret rfl)
        | some z =>
          refine wp_ff rfl (wp_dec ?_ ?_)
          · simp only [List.length_cons, List.length_nil, bigN, List.length_map] at hI ⊢; omega
          · have := ih (out ++ [z]) (by simp only [List.length_append, List.length_cons, List.length_nil] at hI ⊢; omega)
            simp only [optI, getD_c0, toInt_int]
            rw [List.map_append] at this
            refine Tree.wp_mono this (fun ys hy => hy.trans ?_)
            cases intsCs rest with
            | none => rfl
            | some l => simp [insD])
      (a.cells.length + 1) 0 [] (by omega) (by omega) (by simpa using hl)
    exact key
theorem array_Int_sp (z : Int) (hz : inR z) : Sp 41 [.int z] [dC (intC z)] := by
  refine sound_ 0 (array_Int_tree _ _) (wp_call (ratio_Of_sp z hz) (wp_ret ?_))
  rw [dC_eq]; rfl
def chrC (c : Int) : Cell := ⟨0, 1, .zero, c, []⟩
theorem array_Chr_sp (z : Int) : Sp 138 [.int z] [dC (chrC z)] := by
  refine sound_ 0 (array_Chr_tree _ _) (wp_ret ?_)
  rw [dC_eq]; rfl
theorem inR0 : inR 0 := by unfold inR; decide
theorem array_Fill_sp (a : Arr) : Sp 103 [dA a] [dC (fillC a)] := by
  refine sound_ 0 (array_Fill_tree _ _) ?_
  simp only [dA_0, dA_1, dA_2, dC_0, dC_1, dC_2, dC_3, dC_4, dN_0, dN_1, dN_2, els_sl, els_dI, els_dL, List.length_map, Int.toNat_natCast, toInt_int, toInt_dB, toBool_bool, getD_c0, getD_c1, int_beq, int_bne, not_dec, dInt_dB, Int.toNat_zero]
  unfold fillC
  match hc : a.cells with
  | [] => exact wp_dec (by simp) (wp_call (array_Int_sp 0 inR0) (wp_ret rfl))
  | c :: cs =>
    refine wp_ndec (by simp; omega) (wp_call (array_Int_sp 0 inR0) (wp_dec (by omega) (wp_dec (by simp) ?_)))
    simp only [List.map_cons, getD_c0, dA_0, dA_1, dA_2, dC_0, dC_1, dC_2, dC_3, dC_4, dN_0, dN_1, dN_2, els_sl, els_dI, els_dL, List.length_map, Int.toNat_natCast, toInt_int, toInt_dB, toBool_bool, getD_c0, getD_c1, int_beq, int_bne, not_dec, dInt_dB, Int.toNat_zero]
    refine wp_decs (fun h => wp_call (array_Chr_sp 32) (wp_dec (by omega) (wp_dec (by simp) (wp_ret ?_)))) (fun h => wp_dec (by omega) (wp_dec (by simp) (wp_ret ?_)))
    · rw [if_pos h, dC_eq]
      simp only [dA_0, dA_1, dA_2, dC_0, dC_1, dC_2, dC_3, dC_4, dN_0, dN_1, dN_2, els_sl, els_dI, els_dL, List.length_map, Int.toNat_natCast, toInt_int, toInt_dB, toBool_bool, getD_c0, getD_c1, int_beq, int_bne, not_dec, dInt_dB, Int.toNat_zero]; rfl
    · rw [if_neg h, dC_eq]
      simp only [dA_0, dA_1, dA_2, dC_0, dC_1, dC_2, dC_3, dC_4, dN_0, dN_1, dN_2, els_sl, els_dI, els_dL, List.length_map, Int.toNat_natCast, toInt_int, toInt_dB, toBool_bool, getD_c0, getD_c1, int_beq, int_bne, not_dec, dInt_dB, Int.toNat_zero]; rfl
end Go.Proofs.Ytcgfpibkajagjaa
set_option maxRecDepth 100000
namespace Go.Proofs.Ytcgfpibkajagjaa

theorem lb_one : lb 1 = [1] := by rw [lb_pos (by decide), show 1 / B = 0 by decide, lb_zero]; rfl
theorem numT_ofZ (z : Int) : numT (ofZ z) = z := zv_wz z
theorem numB_ofZ (z : Int) : numB (ofZ z) = 1 := by simp [numB, ofZ, nv]
theorem lb_inR {z : Int} (h : inR z) : (lb z.natAbs).length ≤ 2 := lb_len.2 (by unfold inR at h; show z.natAbs < 18446744073709551616; omega)
theorem rightN_ofZ {z : Int} (h : inR z) : rightN (ofZ z) = true := by
  have hl := lb_inR h
  unfold rightN
  rw [numT_ofZ, numB_ofZ]
  refine decide_eq_true ⟨by simp only [ofZ]; omega, by simp [ofZ], ?_⟩
  unfold mkR
  simp only [Int.natAbs_one, Nat.gcd_one_right, Nat.div_one, lb_one]
  rw [if_neg (by decide), if_neg (by simp only [List.length_cons, List.length_nil]; omega)]
  unfold ofZ
  congr 2
  by_cases hz : z < 0
  · have : 0 < (lb z.natAbs).length := by
      rcases Nat.eq_zero_or_pos (lb z.natAbs).length with h0 | h0
      · have := lb_len0.1 h0; omega
      · exact h0
    simp [hz, this]
  · simp [hz]
theorem smallN_ofZ {z : Int} (h : inR z) : smallN (ofZ z) = some z := by
  unfold smallN smO
  rw [if_pos (show (ofZ z).bot = [1] from rfl), numT_ofZ, if_pos h]
theorem rightN_len {n : Num} (h : rightN n = true) : n.top.length ≤ 32 ∧ n.bot.length ≤ 32 := by
  have := of_decide_eq_true h
  exact ⟨this.1, this.2.1⟩
theorem rightC_len {d : Nat} {c : Cell} (h : rightC d c = true) : c.n.top.length ≤ 32 ∧ c.n.bot.length ≤ 32 ∧ c.inn.length ≤ 1 := by
  suffices key : ∀ k r, cellR k r c = true → c.n.top.length ≤ 32 ∧ c.n.bot.length ≤ 32 ∧ c.inn.length ≤ 1 by
    cases d with
    | zero => exact key _ _ h
    | succ d => exact key _ _ h
  intro k r h
  unfold cellR at h
  split at h
  · simp only [Bool.and_eq_true, decide_eq_true_eq] at h
    exact ⟨(rightN_len h.2).1, (rightN_len h.2).2, by omega⟩
  split at h
  · simp only [Bool.and_eq_true, decide_eq_true_eq] at h
    rw [h.1.1]; exact ⟨by decide, by decide, by omega⟩
  · simp only [Bool.and_eq_true, decide_eq_true_eq] at h
    rw [h.1.2.1]
    refine ⟨by decide, by decide, ?_⟩
    have hb := h.2.2
    unfold boxOK at hb
    split at hb
    · rename_i hi; rw [hi]; simp
    · cases hb
theorem rightA_cells {d : Nat} {a : Arr} (h : rightA d a = true) : countS a.shape = ((a.cells.length : Int), 0) ∧ ∀ c ∈ a.cells, rightC d c = true := by
  rw [rightA_eq] at h
  simp only [Bool.and_eq_true, decide_eq_true_eq, List.all_eq_true] at h
  exact h
theorem rightA_of {d : Nat} {a : Arr} (h1 : countS a.shape = ((a.cells.length : Int), 0)) (h2 : ∀ c ∈ a.cells, rightC d c = true) : rightA d a = true := by
  rw [rightA_eq]
  simp only [Bool.and_eq_true, decide_eq_true_eq, List.all_eq_true]
  exact ⟨h1, h2⟩
theorem rightA_len {d : Nat} {a : Arr} (h : rightA d a = true) : a.cells.length ≤ 2048 ∧ a.shape.length ≤ 6 ∧ ∀ x ∈ a.shape, 0 ≤ x ∧ x ≤ 2048 := by
  have h1 := (rightA_cells h).1
  have h2 := countS_le a.shape
  have h3 := countS_len (l := a.shape) (by rw [h1])
  rw [h1] at h2
  exact ⟨by simp only at h2; omega, h3⟩
theorem rightA_top {d : Nat} {a : Arr} (h : rightA d a = true) : ∀ c ∈ a.cells, c.n.top.length ≤ 32 := fun c hc => (rightC_len ((rightA_cells h).2 c hc)).1
theorem rightC_int {z : Int} (d : Nat) (h : inR z) : rightC d (intC z) = true := by
  have : ∀ k r, cellR k r (intC z) = true := by
    intro k r
    unfold cellR
    rw [if_pos (show (intC z).kind = 0 from rfl)]
    have := rightN_ofZ h
    simp only [intC, this]; rfl
  cases d <;> exact this _ _
theorem fitsC_int {z : Int} (h : inR z) : FitsC (intC z) := by
  have := lb_inR h
  refine ⟨?_, ?_, ?_, ?_⟩
  · simp only [intC, ofZ]; omega
  · simp [intC, ofZ]
  · simp [intC]
  · simp [intC]
theorem inR_small {z : Int} (h1 : -100000 ≤ z) (h2 : z ≤ 100000) : inR z := by unfold inR; omega
theorem fits_vec {l : List Int} {s : Lab} (hl : l.length ≤ 100000) (h : ∀ x ∈ l, inR x) : Fits (.mk s [(l.length : Int)] (l.map intC)) := by
  refine Fits.of (by simp) (by simp; omega) ?_ ?_
  · intro x hx; simp only [List.mem_singleton] at hx; subst hx; exact inR_small (by omega) (by omega)
  · intro c hc
    obtain ⟨z, hz, rfl⟩ := List.mem_map.1 hc
    exact fitsC_int (h z hz)
theorem fits_none : Fits .none := Fits.of (by simp) (by simp) (by simp) (by simp)
end Go.Proofs.Ytcgfpibkajagjaa
set_option maxRecDepth 100000
namespace Go.Proofs.Ytcgfpibkajagjaa

/-- No list is long, and there are not more than so many arrays within one another. -/
def Sml : Nat → Arr → Prop
  | 0, _ => False
  | d + 1, a => a.shape.length ≤ 1048576 ∧ a.cells.length ≤ 1048576 ∧ (∀ x ∈ a.shape, inR x) ∧ ∀ c ∈ a.cells, c.n.top.length ≤ 1048576 ∧ c.n.bot.length ≤ 1048576 ∧ c.inn.length ≤ 1048576 ∧ ∀ x ∈ c.inn, Sml d x
def SmlC (d : Nat) (c : Cell) : Prop := c.n.top.length ≤ 1048576 ∧ c.n.bot.length ≤ 1048576 ∧ c.inn.length ≤ 1048576 ∧ ∀ x ∈ c.inn, Sml d x
theorem Sml.succ {d : Nat} {a : Arr} (h : Sml d a) : ∃ e, d = e + 1 := by
  cases d with
  | zero => exact h.elim
  | succ e => exact ⟨e, rfl⟩
theorem Sml.cell {d : Nat} {a : Arr} (h : Sml (d + 1) a) : ∀ c ∈ a.cells, SmlC d c := h.2.2.2
theorem Sml.of {d : Nat} {a : Arr} (h1 : a.shape.length ≤ 1048576) (h2 : a.cells.length ≤ 1048576) (h3 : ∀ x ∈ a.shape, inR x) (h4 : ∀ c ∈ a.cells, SmlC d c) : Sml (d + 1) a := ⟨h1, h2, h3, h4⟩
theorem Sml.fits : ∀ {d : Nat} {a : Arr}, Sml d a → Fits a
  | 0, _, h => h.elim
  | d + 1, .mk s sh cs, ⟨h1, h2, h3, h4⟩ => by
    have h1' : sh.length ≤ 1048576 := h1
    have h2' : cs.length ≤ 1048576 := h2
    refine Fits.of (by omega) (by omega) h3 (fun c hc => ?_)
    obtain ⟨g1, g2, g3, g4⟩ := h4 c hc
    exact ⟨by omega, by omega, by omega, fun x hx => (g4 x hx).fits⟩
theorem SmlC.fits {d : Nat} {c : Cell} (h : SmlC d c) : FitsC c := ⟨by have := h.1; omega, by have := h.2.1; omega, by have := h.2.2.1; omega, fun x hx => (h.2.2.2 x hx).fits⟩
theorem Sml.mono : ∀ {d e : Nat} {a : Arr}, Sml d a → d ≤ e → Sml e a
  | 0, _, _, h, _ => h.elim
  | d + 1, 0, _, _, hle => by omega
  | d + 1, e + 1, a, ⟨h1, h2, h3, h4⟩, hle => ⟨h1, h2, h3, fun c hc => ⟨(h4 c hc).1, (h4 c hc).2.1, (h4 c hc).2.2.1, fun x hx => ((h4 c hc).2.2.2 x hx).mono (by omega)⟩⟩
theorem SmlC.mono {d e : Nat} {c : Cell} (h : SmlC d c) (hle : d ≤ e) : SmlC e c := ⟨h.1, h.2.1, h.2.2.1, fun x hx => (h.2.2.2 x hx).mono hle⟩

/-- What is in a right cell. -/
theorem rightC_inn {d : Nat} {c : Cell} (h : rightC d c = true) : ∀ x ∈ c.inn, ∃ e, d = e + 1 ∧ simpleA x = false ∧ rightA e x = true ∧ c.inn = [x] ∧ c.kind = 2 := by
  have key : ∀ k r, cellR k r c = true → ∀ x ∈ c.inn, k = true ∧ simpleA x = false ∧ r x = true ∧ c.inn = [x] ∧ c.kind = 2 := by
    intro k r h x hx
    unfold cellR at h
    split at h
    · simp only [Bool.and_eq_true, decide_eq_true_eq] at h
      rw [List.length_eq_zero_iff.1 h.1.2] at hx; cases hx
    split at h
    · simp only [Bool.and_eq_true, decide_eq_true_eq] at h
      rw [List.length_eq_zero_iff.1 h.1.2] at hx; cases hx
    · simp only [Bool.and_eq_true, decide_eq_true_eq] at h
      obtain ⟨h1, h2, h3⟩ := h
      unfold boxOK at h3
      split at h3
      · rename_i y hy
        rw [hy] at hx ⊢
        have : x = y := by simpa using hx
        subst this
        simp only [Bool.and_eq_true, Bool.not_eq_true'] at h3
        exact ⟨h2, h3.1, h3.2, rfl, h1.1⟩
      · cases h3
  cases d with
  | zero => intro x hx; exact absurd (key _ _ h x hx).1 (by simp)
  | succ e => intro x hx; exact ⟨e, rfl, (key _ _ h x hx).2⟩
theorem rightA_sml : ∀ {d : Nat} {a : Arr}, rightA d a = true → Sml (d + 1) a
  | 0, a, h => by
    have hl := rightA_len h
    refine ⟨by omega, by omega, fun x hx => inR_small (by have := hl.2.2 x hx; omega) (by have := hl.2.2 x hx; omega), fun c hc => ?_⟩
    have hc' := (rightA_cells h).2 c hc
    have := rightC_len hc'
    exact ⟨by omega, by omega, by omega, fun x hx => by obtain ⟨e, he, _⟩ := rightC_inn hc' x hx; omega⟩
  | d + 1, a, h => by
    have hl := rightA_len h
    refine ⟨by omega, by omega, fun x hx => inR_small (by have := hl.2.2 x hx; omega) (by have := hl.2.2 x hx; omega), fun c hc => ?_⟩
    have hc' := (rightA_cells h).2 c hc
    have := rightC_len hc'
    refine ⟨by omega, by omega, by omega, fun x hx => ?_⟩
    obtain ⟨e, he, _, hr, _⟩ := rightC_inn hc' x hx
    have : e = d := by omega
    subst this
    exact rightA_sml hr
theorem rightC_sml {d : Nat} {c : Cell} (h : rightC d c = true) : SmlC d c := by
  have := rightC_len h
  refine ⟨by omega, by omega, by omega, fun x hx => ?_⟩
  obtain ⟨e, rfl, _, hr, _⟩ := rightC_inn h x hx
  exact rightA_sml hr

theorem clone_tw (es : List D) (h : es.length ≤ 1048576) : Tw (.amb es.isEmpty (.ret [D.sl []]) (.br (decide (([] : List D).length + es.length ≤ bigN)) (.ret [D.sl ([] ++ es)]) .fail)) [D.sl es] := by
  refine wp_amb (fun h => wp_ret ?_) (wp_dec ?_ (wp_ret ?_))
  · rw [List.isEmpty_iff.1 h]
  · simp only [List.length_nil, bigN]; omega
  · rw [List.nil_append]
theorem clone_U_sp (l : List Limb) (h : l.length ≤ 1048576) : Sp 112 [dL l] [dL l] := sound_ 0 (slices_Clone_uint32_uint32_tree _ _) (by simp only [els_dL]; exact clone_tw _ (by simpa using h))
theorem clone_I_sp (l : List Int) (h : l.length ≤ 1048576) : Sp 96 [dI l] [dI l] := sound_ 0 (slices_Clone_int_int_tree _ _) (by simp only [els_dI]; exact clone_tw _ (by simpa using h))
theorem clone_A_sp (l : List Arr) (h : l.length ≤ 1048576) : Sp 113 [.sl (l.map dA)] [.sl (l.map dA)] := sound_ 0 (slices_Clone_api_Array_api_Array_tree _ _) (by simp only [els_sl]; exact clone_tw _ (by simpa using h))
theorem array_own_sp {d : Nat} (c : Cell) (h : SmlC d c) : Sp 74 [dC c] [dC c] := by
  refine sound_ 0 (array_own_tree _ _) ?_
  simp only [dA_0, dA_1, dA_2, dC_0, dC_1, dC_2, dC_3, dC_4, dN_0, dN_1, dN_2, els_sl, els_dI, els_dL, List.length_map, Int.toNat_natCast, toInt_int, toInt_dB, toBool_bool, getD_c0, getD_c1, int_beq, int_bne, not_dec, dInt_dB, Int.toNat_zero]
  refine wp_call (clone_U_sp _ h.1) (wp_call (clone_U_sp _ h.2.1) (wp_call (clone_A_sp _ h.2.2.1) (wp_ret ?_)))
  simp only [getD_c0, els_dL, els_sl, dsl_dL]
  rw [dC_eq]; rfl
def oneA (c : Cell) : Arr := .mk 0 [] [c]
def vectA (l : List Cell) : Arr := .mk 0 [(l.length : Int)] l
def raiseA (a : Arr) (l : Lab) : Arr := .mk (a.s ||| l) a.shape a.cells
theorem array_Scalar_sp {d : Nat} (c : Cell) (h : SmlC d c) : Sp 34 [dC c] [dA (oneA c)] := by
  refine sound_ 0 (array_Scalar_tree _ _) (wp_call (array_own_sp c h) (wp_ret ?_))
  rw [dA_eq]; rfl
theorem set_next {α : Type} {f : α → D} {z : D} (pre : List α) (x : α) (k : Nat) : ((pre.map f) ++ List.replicate (k + 1) z).set pre.length (f x) = ((pre ++ [x]).map f) ++ List.replicate k z := by
  rw [List.set_append_right _ _ (by simp), List.length_map, Nat.sub_self, List.replicate_succ, List.set_cons_zero]
  simp
theorem dA_none : D.agg [D.int 0, D.sl [], D.sl []] = dA .none := by rw [dA_eq]; rfl
theorem dC_none' : D.agg [D.int 0, D.int 0, D.agg [D.bool false, D.sl [], D.sl []], D.int 0, D.sl []] = dC Cell.none := by rw [dC_eq]; rfl
theorem array_Vector_sp {d : Nat} (l : List Cell) (h : ∀ c ∈ l, SmlC d c) (hl : l.length ≤ 1048576) : Sp 52 [.sl (l.map dC)] [dA (vectA l)] := by
  refine sound_ (l.length + 1) (array_Vector_tree _ _) ?_
  simp only [dA_0, dA_1, dA_2, dC_0, dC_1, dC_2, dC_3, dC_4, dN_0, dN_1, dN_2, els_sl, els_dI, els_dL, List.length_map, Int.toNat_natCast, toInt_int, toInt_dB, toBool_bool, getD_c0, getD_c1, int_beq, int_bne, not_dec, dInt_dB, Int.toNat_zero, dC_none']
  refine wp_dec (by omega) (wp_dec (by omega) (wp_dec (by simp only [bigN]; omega) ?_))
  have key := loop_list (P := Try.prog) (md := md) l (fun m k (cs : List D) => array_Vector_l3 (l.length + 1) m (.sl (l.map dC)) cs (.sl (l.map dC)) (l.length : Int) (k : Int) 0) (fun _ _ => [dA (vectA l)])
    (fun rest cs => ∃ pre, l = pre ++ rest ∧ cs = pre.map dC ++ List.replicate rest.length (dC Cell.none))
    (fun m k cs hk hI => by
      obtain ⟨pre, h1, rfl⟩ := hI
      simp only [array_Vector_l3_succ, dA_0, dA_1, dA_2, dC_0, dC_1, dC_2, dC_3, dC_4, dN_0, dN_1, dN_2, els_sl, els_dI, els_dL, List.length_map, Int.toNat_natCast, toInt_int, toInt_dB, toBool_bool, getD_c0, getD_c1, int_beq, int_bne, not_dec, dInt_dB, Int.toNat_zero]
      refine wp_ndec (by omega) (wp_ret ?_)
      rw [List.append_nil] at h1
      rw [dA_eq, vectA]; subst h1; simp [dI]; rfl)
    (fun m k cs c rest hdr hI ih => by
      obtain ⟨h1, h2, h3⟩ := drop_cons hdr
      obtain ⟨pre, hp, rfl⟩ := hI
      have hk : k = pre.length := by
        have := congrArg List.length hdr
        rw [hp] at this h1
        simp at this h1; omega
      simp only [array_Vector_l3_succ, dA_0, dA_1, dA_2, dC_0, dC_1, dC_2, dC_3, dC_4, dN_0, dN_1, dN_2, els_sl, els_dI, els_dL, List.length_map, Int.toNat_natCast, toInt_int, toInt_dB, toBool_bool, getD_c0, getD_c1, int_beq, int_bne, not_dec, dInt_dB, Int.toNat_zero, getD_map h2, wrap_succ (show k < 9223372036854775807 by omega)]
      repeat (refine wp_dec (by omega) ?_)
      refine wp_call (array_own_sp c (h c (List.mem_of_getElem? h2))) ?_
      have hlen : (pre.map dC ++ List.replicate (rest.length + 1) (dC Cell.none)).length = l.length := by rw [hp]; simp
      rw [List.length_cons, hlen]
      refine wp_dec (by omega) (wp_dec (by omega) ?_)
      rw [getD_c0, hk, set_next, ← hk]
      exact ih _ ⟨pre ++ [c], by rw [hp]; simp, rfl⟩)
    (l.length + 1) 0 (List.replicate l.length (dC Cell.none)) (by omega) (by omega) ⟨[], by simp, by simp⟩
  exact key
theorem array_Raise_sp (a : Arr) (l : Lab) : Sp 51 [dA a, dB l] [dA (raiseA a l)] := by
  refine sound_ 0 (array_Raise_tree _ _ _) ?_
  simp only [dA_0, dA_1, dA_2, dC_0, dC_1, dC_2, dC_3, dC_4, dN_0, dN_1, dN_2, els_sl, els_dI, els_dL, List.length_map, Int.toNat_natCast, toInt_int, toInt_dB, toBool_bool, getD_c0, getD_c1, int_beq, int_bne, not_dec, dInt_dB, Int.toNat_zero]
  refine wp_call (label_Join_sp a.s l) (wp_ret ?_)
  rw [dA_eq]; rfl
/-- A cell as an array. -/
def unpC (c : Cell) : Arr := match c.inn with
  | [x] => if c.kind = 2 then raiseA x c.l else .mk c.l [] [c]
  | _ => .mk c.l [] [c]
theorem raise_one (c : Cell) : raiseA (oneA c) c.l = .mk c.l [] [c] := by simp [raiseA, oneA]
theorem unpC_neg {c : Cell} (h : ¬ (c.kind = 2 ∧ c.inn.length = 1)) : unpC c = .mk c.l [] [c] := by
  unfold unpC
  split
  · rename_i x hx
    rw [if_neg (fun hk => h ⟨hk, by rw [hx]; rfl⟩)]
  · rfl
theorem unpC_pos {c : Cell} {x : Arr} (h : c.kind = 2) (hx : c.inn = [x]) : unpC c = raiseA x c.l := by unfold unpC; rw [hx]; simp [h]
theorem len_one {α : Type} {l : List α} (h : l.length = 1) : ∃ x, l = [x] := by
  match l, h with
  | [x], _ => exact ⟨x, rfl⟩
/-- An array as a cell. -/
def packC (a : Arr) : Cell := match a.shape, a.cells with
  | [], [c] => ⟨c.l ||| a.s, c.kind, c.n, c.c, c.inn⟩
  | _, _ => ⟨a.s, 2, .zero, 0, [a]⟩
theorem packC_pos {a : Arr} {c : Cell} (h : a.shape = []) (hc : a.cells = [c]) : packC a = ⟨c.l ||| a.s, c.kind, c.n, c.c, c.inn⟩ := by unfold packC; rw [h, hc]
theorem packC_neg {a : Arr} (h : ¬ (a.shape.length = 0 ∧ a.cells.length = 1)) : packC a = ⟨a.s, 2, .zero, 0, [a]⟩ := by
  unfold packC
  match hs : a.shape, hc : a.cells with
  | [], [c] => rw [hs, hc] at h; simp at h
  | x :: xs, _ => rfl
  | [], [] => rfl
  | [], x :: y :: xs => rfl
theorem dC_box (l : Lab) (a : Arr) : D.agg [dB l, D.int 2, D.agg [D.bool false, D.sl [], D.sl []], D.int 0, D.sl [dA a]] = dC ⟨l, 2, .zero, 0, [a]⟩ := by rw [dC_eq]; rfl
mutual
def relA (g : Lab → Lab) : Arr → Arr
  | .mk s sh cs => .mk (g s) sh (relCs g cs)
def relCs (g : Lab → Lab) : List (CellF Arr) → List (CellF Arr)
  | [] => []
  | c :: cs => relC g c :: relCs g cs
def relC (g : Lab → Lab) : CellF Arr → CellF Arr
  | ⟨l, k, n, c, inn⟩ => ⟨g l, k, n, c, relAs g inn⟩
def relAs (g : Lab → Lab) : List Arr → List Arr
  | [] => []
  | a :: as_ => relA g a :: relAs g as_
end
theorem relCs_map (g : Lab → Lab) : ∀ cs, relCs g cs = cs.map (relC g)
  | [] => by simp [relCs]
  | c :: cs => by simp [relCs, relCs_map g cs]
theorem relAs_map (g : Lab → Lab) : ∀ as_, relAs g as_ = as_.map (relA g)
  | [] => by simp [relAs]
  | a :: as_ => by simp [relAs, relAs_map g as_]
theorem relA_eq (g : Lab → Lab) (a : Arr) : relA g a = .mk (g a.s) a.shape (a.cells.map (relC g)) := by cases a; simp [relA, relCs_map]
theorem relC_eq (g : Lab → Lab) (c : Cell) : relC g c = ⟨g c.l, c.kind, c.n, c.c, c.inn.map (relA g)⟩ := by cases c; simp [relC, relAs_map]
theorem relC_id_of (g : Lab → Lab) (hg : ∀ l, g l = l) (c : Cell) (h : ∀ x ∈ c.inn, relA g x = x) : relC g c = c := by
  rw [relC_eq, hg]
  have : c.inn.map (relA g) = c.inn := by conv => rhs; rw [← List.map_id c.inn]
                                          exact List.map_congr_left h
  rw [this]
theorem relA_id (g : Lab → Lab) (hg : ∀ l, g l = l) (a : Arr) : relA g a = a := by
  induction a using Arr.ind with
  | h s sh cs IH =>
    rw [relA_eq, hg]
    have : cs.map (relC g) = cs := by
      conv => rhs; rw [← List.map_id cs]
      exact List.map_congr_left (fun c hc => relC_id_of g hg c (IH c hc))
    show Arr.mk s sh (cs.map (relC g)) = _
    rw [this]
theorem relA_sml {g : Lab → Lab} : ∀ {d : Nat} {a : Arr}, Sml d a → Sml d (relA g a)
  | 0, _, h => h.elim
  | d + 1, a, ⟨h1, h2, h3, h4⟩ => by
    rw [relA_eq]
    refine ⟨h1, by simpa using h2, h3, fun c hc => ?_⟩
    obtain ⟨c', hc', rfl⟩ := List.mem_map.1 hc
    obtain ⟨g1, g2, g3, g4⟩ := h4 c' hc'
    rw [relC_eq]
    refine ⟨g1, g2, by simpa using g3, fun x hx => ?_⟩
    obtain ⟨y, hy, rfl⟩ := List.mem_map.1 hx
    exact relA_sml (g4 y hy)
theorem relC_sml {g : Lab → Lab} {d : Nat} {c : Cell} (h : SmlC d c) : SmlC d (relC g c) := by
  rw [relC_eq]
  refine ⟨h.1, h.2.1, by simpa using h.2.2.1, fun x hx => ?_⟩
  obtain ⟨y, hy, rfl⟩ := List.mem_map.1 hx
  exact relA_sml (h.2.2.2 y hy)
def cvr (l : Lab) (er : Bool) (x : Lab) : Lab := if er then l else x ||| l
def eraA (a : Arr) : Arr := relA (fun _ => 0) a
theorem ref08_Cover_sp (l : Lab) (er : Bool) : ∀ (d : Nat) (a : Arr), Sml d a → Sp 152 [dA a, dB l, .bool er] [dA (relA (cvr l er) a)]
  | 0, _, h => h.elim
  | d + 1, a, h => by
    have hl := h.2.1
    have rest : ∀ s' : Lab, Tw (ref08_Cover_l5 1048577 1048577 (l.toNat : Int) er 0 (dA a) 0 (s'.toNat : Int) (dI a.shape) []) [dA (.mk s' a.shape (a.cells.map (relC (cvr l er))))] := fun s' => by
      have key := loop_list (P := Try.prog) (md := md) a.cells (fun m k (out : List Cell) => ref08_Cover_l5 1048577 m (l.toNat : Int) er (k : Int) (dA a) 0 (s'.toNat : Int) (dI a.shape) (out.map dC)) (fun rest out => [dA (.mk s' a.shape (out ++ rest.map (relC (cvr l er))))]) (fun rest out => out.length + rest.length ≤ 1048576)
        (fun m k out hk _ => by
          simp only [ref08_Cover_l5_succ, dA_0, dA_1, dA_2, dC_0, dC_1, dC_2, dC_3, dC_4, dN_0, dN_1, dN_2, els_sl, els_dI, els_dL, List.length_map, Int.toNat_natCast, toInt_int, toInt_dB, toBool_bool, getD_c0, getD_c1, int_beq, int_bne, not_dec, dInt_dB, Int.toNat_zero]
          refine wp_ndec (by omega) (wp_ret ?_)
          rw [dA_eq]; simp)
        (fun m k out c rest hdr hI ih => by
          obtain ⟨h1, h2, h3⟩ := drop_cons hdr
          have hc := h.cell c (List.mem_of_getElem? h2)
          have hlc := hc.2.2.1
          simp only [ref08_Cover_l5_succ, dA_0, dA_1, dA_2, dC_0, dC_1, dC_2, dC_3, dC_4, dN_0, dN_1, dN_2, els_sl, els_dI, els_dL, List.length_map, Int.toNat_natCast, toInt_int, toInt_dB, toBool_bool, getD_c0, getD_c1, int_beq, int_bne, not_dec, dInt_dB, Int.toNat_zero, getD_map h2]
          have inner : ∀ l' : Lab, l' = cvr l er c.l → Tw (ref08_Cover_l13 1048577 m 1048577 (l.toNat : Int) er (k : Int) [] 0 (dA a) 0 (s'.toNat : Int) (dI a.shape) (out.map dC) (l'.toNat : Int) c.kind (dN c.n) c.c (.sl (c.inn.map dA))) [dA (.mk s' a.shape (out ++ (c :: rest).map (relC (cvr l er))))] := fun l' hl' => by
            have key := loop_list (P := Try.prog) (md := md) c.inn (fun m' j (inn : List Arr) => ref08_Cover_l13 1048577 m m' (l.toNat : Int) er (k : Int) (inn.map dA) (j : Int) (dA a) 0 (s'.toNat : Int) (dI a.shape) (out.map dC) (l'.toNat : Int) c.kind (dN c.n) c.c (.sl (c.inn.map dA))) (fun _ _ => [dA (.mk s' a.shape (out ++ (c :: rest).map (relC (cvr l er))))]) (fun rest' inn => inn.length + rest'.length ≤ 1048576 ∧ inn ++ rest'.map (relA (cvr l er)) = c.inn.map (relA (cvr l er)))
              (fun m' j inn hj hI' => by
                simp only [ref08_Cover_l13_succ, dA_0, dA_1, dA_2, dC_0, dC_1, dC_2, dC_3, dC_4, dN_0, dN_1, dN_2, els_sl, els_dI, els_dL, List.length_map, Int.toNat_natCast, toInt_int, toInt_dB, toBool_bool, getD_c0, getD_c1, int_beq, int_bne, not_dec, dInt_dB, Int.toNat_zero, wrap_succ (show k < 9223372036854775807 by omega)]
                refine wp_ndec (by omega) (wp_dec (by simp only [List.length_cons, List.length_nil, bigN] at hI ⊢; omega) ?_)
                have e1 : inn = c.inn.map (relA (cvr l er)) := by simpa using hI'.2
                have e2 : D.agg [dB l', D.int c.kind, dN c.n, D.int c.c, D.sl (inn.map dA)] = dC (relC (cvr l er) c) := by rw [relC_eq, dC_eq, hl', e1]
                rw [e2]
                have := ih (out ++ [relC (cvr l er) c]) (by simp only [List.length_append, List.length_cons, List.length_nil] at hI ⊢; omega)
                rw [List.map_append] at this
                refine Tree.wp_mono this (fun ys hy => hy.trans ?_)
                simp)
              (fun m' j inn x rest' hdr' hI' ih' => by
                obtain ⟨g1, g2, g3⟩ := drop_cons hdr'
                simp only [ref08_Cover_l13_succ, dA_0, dA_1, dA_2, dC_0, dC_1, dC_2, dC_3, dC_4, dN_0, dN_1, dN_2, els_sl, els_dI, els_dL, List.length_map, Int.toNat_natCast, toInt_int, toInt_dB, toBool_bool, getD_c0, getD_c1, int_beq, int_bne, not_dec, dInt_dB, Int.toNat_zero, getD_map g2, wrap_succ (show j < 9223372036854775807 by omega)]
                repeat (refine wp_dec (by omega) ?_)
                refine wp_call (ref08_Cover_sp l er d x (hc.2.2.2 x (List.mem_of_getElem? g2))) (wp_dec (by have := hI'.1; simp only [List.length_cons, List.length_nil, bigN, List.length_map] at this ⊢; omega) ?_)
                have := ih' (inn ++ [relA (cvr l er) x]) ⟨by have := hI'.1; simp only [List.length_append, List.length_cons, List.length_nil] at this ⊢; omega, by rw [← hI'.2]; simp⟩
                rw [List.map_append] at this
                exact this)
              1048577 0 [] (by omega) (by omega) ⟨by simpa using hlc, by simp⟩
            exact key
          refine wp_dec (by omega) (wp_dec (by omega) (wp_dec (by omega) (wp_br (fun he => ?_) (fun he => ?_))))
          · exact inner l (by simp [cvr, he])
          · refine wp_call (ref01_Join_sp c.l l) ?_
            exact inner (c.l ||| l) (by simp [cvr, he]))
        1048577 0 [] (by omega) (by omega) (by simpa using hl)
      exact key
    refine sound_ 1048577 (ref08_Cover_tree _ _ _ _) ?_
    simp only [dA_0, dA_1, dA_2, dC_0, dC_1, dC_2, dC_3, dC_4, dN_0, dN_1, dN_2, els_sl, els_dI, els_dL, List.length_map, Int.toNat_natCast, toInt_int, toInt_dB, toBool_bool, getD_c0, getD_c1, int_beq, int_bne, not_dec, dInt_dB, Int.toNat_zero]
    rw [relA_eq]
    refine wp_br (fun he => wp_call (ref01_Join_sp a.s l) ?_) (fun he => ?_)
    · have : cvr l er a.s = a.s ||| l := by simp at he; simp [cvr, he]
      rw [this]; exact rest _
    · have : cvr l er a.s = l := by simp at he; simp [cvr, he]
      rw [this]; exact rest _
theorem cvr_zero : cvr 0 true = fun _ => 0 := rfl
theorem ref08_Erase_sp {d : Nat} (a : Arr) (h : Sml d a) : Sp 143 [dA a] [dA (eraA a)] := sound_ 0 (ref08_Erase_tree _ _) (wp_call (ref08_Cover_sp 0 true d a h) (wp_ret rfl))
noncomputable def matA (a b : Arr) : Bool := eqA (eraA a) (eraA b)
theorem ref08_Match_sp {d e : Nat} (a b : Arr) (ha : Sml d a) (hb : Sml e b) : Sp 123 [dA a, dA b] [.bool (matA a b)] :=
  sound_ 0 (ref08_Match_tree _ _ _) (wp_call (ref08_Erase_sp a ha) (wp_call (ref08_Erase_sp b hb) (wp_call (ref08_Same_sp _ (relA_sml ha).fits _) (wp_ret rfl))))
end Go.Proofs.Ytcgfpibkajagjaa
set_option maxRecDepth 100000
namespace Go.Proofs.Ytcgfpibkajagjaa

/-- A loop that asks whether two lists are the same, as they are seen. -/
theorem same_loopF {α β : Type} {P : Program} {md : Nat → FMode} (φ : α → β) (a b : List α) (e : α → α → Bool) (he : ∀ x ∈ a, ∀ y, e x y = true ↔ φ x = φ y) (hlen : a.length = b.length) (r : Bool) (hr : r = true ↔ a.map φ = b.map φ) (L : Nat → Nat → Tree)
    (hend : ∀ m, ∀ Q : List D → Prop, Q [.bool true] → (L (m + 1) a.length).wp P md Q)
    (hstep : ∀ m k x y, ∀ Q : List D → Prop, a[k]? = some x → b[k]? = some y → (e x y = false → Q [.bool false]) → (e x y = true → (L m (k + 1)).wp P md Q) → (L (m + 1) k).wp P md Q) (N : Nat) (hN : a.length < N) : (L N 0).wp P md (fun zs => zs = [.bool r]) := by
  have key := loop_up (P := P) (md := md) a.length (fun m k (_ : Unit) => L m k) (fun _ _ => [.bool r]) (fun k _ => (a.take k).map φ = (b.take k).map φ)
    (fun m s h => by
      refine hend m _ ?_
      rw [List.take_of_length_le (Nat.le_refl _), List.take_of_length_le (by omega)] at h
      rw [hr.2 h])
    (fun m k s hk h ih => by
      have ha : a[k]? = some a[k] := List.getElem?_eq_getElem _
      have hb : b[k]? = some (b[k]'(by omega)) := List.getElem?_eq_getElem _
      refine hstep m k _ _ _ ha hb (fun hf => ?_) (fun ht => ih () ?_)
      · have : r = false := by
          cases hrr : r with
          | false => rfl
          | true =>
            have h2 := hr.1 hrr
            have h3 : (a.map φ)[k]? = (b.map φ)[k]? := by rw [h2]
            rw [List.getElem?_map, List.getElem?_map, ha, hb] at h3
            have h4 : φ a[k] = φ b[k] := by simpa using h3
            rw [(he a[k] (List.getElem_mem _) _).2 h4] at hf; cases hf
        rw [this]
      · have : φ a[k] = φ b[k] := (he a[k] (List.getElem_mem _) _).1 ht
        rw [List.take_succ_eq_append_getElem hk, List.take_succ_eq_append_getElem (by omega), List.map_append, List.map_append, h]
        simp [this])
    N 0 () (by omega) (by omega) (by simp)
  exact key
/-- As an array is seen: with labels, or without. -/
def gl (lb : Bool) (l : Lab) : Lab := if lb then l else 0
noncomputable def eqL (lb : Bool) (a b : Arr) : Bool := eqA (relA (gl lb) a) (relA (gl lb) b)
noncomputable def eqLC (lb : Bool) (a b : Cell) : Bool := eqC (relC (gl lb) a) (relC (gl lb) b)
theorem eqL_true (a b : Arr) : eqL true a b = eqA a b := by unfold eqL; rw [relA_id (gl true) (fun _ => rfl) a, relA_id (gl true) (fun _ => rfl) b]
noncomputable def pd (p : Prop) : Bool := @decide p (Classical.propDecidable _)
theorem pd_iff {p : Prop} : pd p = true ↔ p := @decide_eq_true_iff _ (Classical.propDecidable _)
theorem pd_not {p : Prop} (h : ¬ p) : pd p = false := @decide_eq_false _ (Classical.propDecidable _) h
theorem ite_max {o x : Nat} {z : Int} (h : z = (x : Int)) : (if (o : Int) < z then z else (o : Int)) = ((max o x : Nat) : Int) := by subst h; split <;> omega
theorem eqL_false (a b : Arr) : eqL false a b = matA a b := rfl
theorem eqL_iff {lb : Bool} {a b : Arr} : eqL lb a b = true ↔ relA (gl lb) a = relA (gl lb) b := eqA_iff
theorem eqLC_iff {lb : Bool} {a b : Cell} : eqLC lb a b = true ↔ relC (gl lb) a = relC (gl lb) b := eqC_iff
theorem eqLC_iff' {lb : Bool} {a b : Cell} : eqLC lb a b = true ↔ (gl lb a.l = gl lb b.l ∧ a.kind = b.kind ∧ a.c = b.c ∧ a.n = b.n ∧ a.inn.map (relA (gl lb)) = b.inn.map (relA (gl lb))) := by rw [eqLC_iff, relC_eq, relC_eq, cell_eq]
theorem eqL_iff' {lb : Bool} {a b : Arr} : eqL lb a b = true ↔ (gl lb a.s = gl lb b.s ∧ a.shape = b.shape ∧ a.cells.map (relC (gl lb)) = b.cells.map (relC (gl lb))) := by rw [eqL_iff, relA_eq, relA_eq, arr_eq]; simp
theorem bool_false {b : Bool} (h : ¬ b = true) : b = false := by cases b with | false => rfl | true => exact absurd rfl h
theorem array_equal_all (lb : Bool) : ∀ (d : Nat) (a b : Arr), Sml d a → Sp 73 [dA a, dA b, .bool lb] [.bool (eqL lb a b)]
  | 0, _, _, h => h.elim
  | d + 1, a, b, h => by
    have hcell : ∀ (x y : Cell), SmlC d x → Spec Try.prog md 108 [.ref 4] [dC x, dC y, D.ref (.bool lb)] [.bool (eqLC lb x y)] := fun x y hx => by
      have hlx := hx.2.2.1
      have hinn : Sp 110 [.sl (x.inn.map dA), .sl (y.inn.map dA), D.fn 111 [.ref 4] [D.ref (.bool lb)]] [.bool (pd (x.inn.map (relA (gl lb)) = y.inn.map (relA (gl lb))))] := by
        refine sound_ (x.inn.length + 1) (slices_EqualFunc_api_Array_api_Array_api_Array_api_Array_tree_array_equal_1_1 _ _ _ _) ?_
        simp only [dA_0, dA_1, dA_2, dC_0, dC_1, dC_2, dC_3, dC_4, dN_0, dN_1, dN_2, els_sl, els_dI, els_dL, List.length_map, Int.toNat_natCast, toInt_int, toInt_dB, toBool_bool, getD_c0, getD_c1, int_beq, int_bne, not_dec, dInt_dB, Int.toNat_zero]
        refine wp_decs (fun h => wp_ret ?_) (fun h => ?_)
        · rw [pd_not]
          intro hh; have := congrArg List.length hh; simp at this; omega
        · refine same_loopF (P := Try.prog) (md := md) (relA (gl lb)) x.inn y.inn (eqL lb) (fun p _ q => eqL_iff) (by omega) _ pd_iff (fun m k => slices_EqualFunc_api_Array_api_Array_api_Array_api_Array_l4 (x.inn.length + 1) m (.sl (y.inn.map dA)) (D.fn 111 [.ref 4] [D.ref (.bool lb)]) (.sl (x.inn.map dA)) (x.inn.length : Int) (k : Int)) ?_ ?_ (x.inn.length + 1) (by omega)
          · intro m Q hQ
            simp only [slices_EqualFunc_api_Array_api_Array_api_Array_api_Array_l4_succ_array_equal_1_1, dA_0, dA_1, dA_2, dC_0, dC_1, dC_2, dC_3, dC_4, dN_0, dN_1, dN_2, els_sl, els_dI, els_dL, List.length_map, Int.toNat_natCast, toInt_int, toInt_dB, toBool_bool, getD_c0, getD_c1, int_beq, int_bne, not_dec, dInt_dB, Int.toNat_zero]
            exact wp_ndec (by omega) (wp_ret hQ)
          · intro m k p q Q hp hq hF hT
            have hk : k < x.inn.length := (List.getElem?_eq_some_iff.1 hp).1
            have hk' : k < y.inn.length := (List.getElem?_eq_some_iff.1 hq).1
            simp only [slices_EqualFunc_api_Array_api_Array_api_Array_api_Array_l4_succ_array_equal_1_1, dA_0, dA_1, dA_2, dC_0, dC_1, dC_2, dC_3, dC_4, dN_0, dN_1, dN_2, els_sl, els_dI, els_dL, List.length_map, Int.toNat_natCast, toInt_int, toInt_dB, toBool_bool, getD_c0, getD_c1, int_beq, int_bne, not_dec, dInt_dB, Int.toNat_zero, getD_map hp, getD_map hq, wrap_succ (show k < 9223372036854775807 by omega), fnId_fn, fnCts_fn, fnDs_fn, List.cons_append, List.nil_append]
            repeat (refine wp_dec (by omega) ?_)
            refine wp_call (ys := [.bool (eqL lb p q)]) (sound_ 0 (array_equal_1_1_tree _ _ _ _) (wp_call (array_equal_all lb d p q (hx.2.2.2 p (List.mem_of_getElem? hp))) (wp_ret rfl))) ?_
            simp only [getD_c0, toBool_bool]
            exact wp_br (fun h => wp_ret (hF (by simpa using h))) (fun h => hT (by simpa using h))
      have fin : ∀ (hl : gl lb x.l = gl lb y.l), Tw (.br (decide (¬ x.kind = y.kind)) (.ret [D.bool false]) (.br (decide (¬ x.c = y.c)) (.ret [D.bool false]) (.call 109 [] [dN x.n, dN y.n] fun yy1 => .br (!((yy1.getD 0 D.nil).toBool)) (.ret [D.bool false]) (.call 110 [] [.sl (x.inn.map dA), .sl (y.inn.map dA), D.fn 111 [.ref 4] [D.ref (.bool lb)]] fun yy2 => .ret [D.bool ((yy2.getD 0 D.nil).toBool)])))) [.bool (eqLC lb x y)] := fun hl => by
        refine wp_decs (fun h => wp_ret ?_) (fun h2 => wp_decs (fun h => wp_ret ?_) (fun h3 => wp_call (ratio_Same_sp x.n y.n hx.fits.1 hx.fits.2.1) ?_))
        · rw [bool_false (fun hh => h (eqLC_iff'.1 hh).2.1)]
        · rw [bool_false (fun hh => h (eqLC_iff'.1 hh).2.2.1)]
        simp only [getD_c0, toBool_bool, not_dec]
        refine wp_decs (fun h => wp_ret ?_) (fun h4 => wp_call hinn (wp_ret ?_))
        · rw [bool_false (fun hh => h (eqLC_iff'.1 hh).2.2.2.1)]
        · simp only [getD_c0, toBool_bool]
          congr 2
          rw [Bool.eq_iff_iff, eqLC_iff', pd_iff]
          exact ⟨fun hh => ⟨hl, Classical.not_not.1 h2, Classical.not_not.1 h3, Classical.not_not.1 h4, hh⟩, fun hh => hh.2.2.2.2⟩
      refine sound_ 0 (array_equal_1_tree _ _ _ _) ?_
      simp only [dA_0, dA_1, dA_2, dC_0, dC_1, dC_2, dC_3, dC_4, dN_0, dN_1, dN_2, els_sl, els_dI, els_dL, List.length_map, Int.toNat_natCast, toInt_int, toInt_dB, toBool_bool, getD_c0, getD_c1, int_beq, int_bne, not_dec, dInt_dB, Int.toNat_zero, unref_ref]
      refine wp_br (fun hb => wp_decs (fun h => wp_ret ?_) (fun h1 => fin ?_)) (fun hb => fin ?_)
      · have hf : eqLC lb x y = false := bool_false (fun hh => h (by
          have := (eqLC_iff'.1 hh).1
          simp only [gl, hb, if_true] at this
          rw [this]))
        rw [hf]
      · simp only [gl, hb, if_true]; exact BitVec.eq_of_toNat_eq (by omega)
      · simp [gl, hb]
    have hcells : Sp 107 [.sl (a.cells.map dC), .sl (b.cells.map dC), D.fn 108 [.ref 4] [D.ref (.bool lb)]] [.bool (pd (a.cells.map (relC (gl lb)) = b.cells.map (relC (gl lb))))] := by
      have hla := h.2.1
      refine sound_ (a.cells.length + 1) (slices_EqualFunc_api_Cell_api_Cell_api_Cell_api_Cell_tree_array_equal_1 _ _ _ _) ?_
      simp only [dA_0, dA_1, dA_2, dC_0, dC_1, dC_2, dC_3, dC_4, dN_0, dN_1, dN_2, els_sl, els_dI, els_dL, List.length_map, Int.toNat_natCast, toInt_int, toInt_dB, toBool_bool, getD_c0, getD_c1, int_beq, int_bne, not_dec, dInt_dB, Int.toNat_zero]
      refine wp_decs (fun h => wp_ret ?_) (fun h' => ?_)
      · rw [pd_not]
        intro hh; have := congrArg List.length hh; simp at this; omega
      · refine same_loopF (P := Try.prog) (md := md) (relC (gl lb)) a.cells b.cells (eqLC lb) (fun p _ q => eqLC_iff) (by omega) _ pd_iff (fun m k => slices_EqualFunc_api_Cell_api_Cell_api_Cell_api_Cell_l4 (a.cells.length + 1) m (.sl (b.cells.map dC)) (D.fn 108 [.ref 4] [D.ref (.bool lb)]) (.sl (a.cells.map dC)) (a.cells.length : Int) (k : Int)) ?_ ?_ (a.cells.length + 1) (by omega)
        · intro m Q hQ
          simp only [slices_EqualFunc_api_Cell_api_Cell_api_Cell_api_Cell_l4_succ_array_equal_1, dA_0, dA_1, dA_2, dC_0, dC_1, dC_2, dC_3, dC_4, dN_0, dN_1, dN_2, els_sl, els_dI, els_dL, List.length_map, Int.toNat_natCast, toInt_int, toInt_dB, toBool_bool, getD_c0, getD_c1, int_beq, int_bne, not_dec, dInt_dB, Int.toNat_zero]
          exact wp_ndec (by omega) (wp_ret hQ)
        · intro m k p q Q hp hq hF hT
          have hk : k < a.cells.length := (List.getElem?_eq_some_iff.1 hp).1
          have hk' : k < b.cells.length := (List.getElem?_eq_some_iff.1 hq).1
          simp only [slices_EqualFunc_api_Cell_api_Cell_api_Cell_api_Cell_l4_succ_array_equal_1, dA_0, dA_1, dA_2, dC_0, dC_1, dC_2, dC_3, dC_4, dN_0, dN_1, dN_2, els_sl, els_dI, els_dL, List.length_map, Int.toNat_natCast, toInt_int, toInt_dB, toBool_bool, getD_c0, getD_c1, int_beq, int_bne, not_dec, dInt_dB, Int.toNat_zero, getD_map hp, getD_map hq, wrap_succ (show k < 9223372036854775807 by omega), fnId_fn, fnCts_fn, fnDs_fn, List.cons_append, List.nil_append]
          repeat (refine wp_dec (by omega) ?_)
          refine wp_call (hcell p q (h.cell p (List.mem_of_getElem? hp))) ?_
          simp only [getD_c0, toBool_bool]
          exact wp_br (fun h => wp_ret (hF (by simpa using h))) (fun h => hT (by simpa using h))
    have fin : ∀ (hl : gl lb a.s = gl lb b.s), Tw (.call 106 [] [dI a.shape, dI b.shape] fun yy1 => .br (!((yy1.getD 0 D.nil).toBool)) (.ret [D.bool false]) (.call 107 [] [.sl (a.cells.map dC), .sl (b.cells.map dC), D.fn 108 [.ref 4] [D.ref (.bool lb)]] fun yy2 => .ret [D.bool ((yy2.getD 0 D.nil).toBool)])) [.bool (eqL lb a b)] := fun hl => by
      refine wp_call (slices_EqualI_sp a.shape b.shape (by have := h.1; omega)) ?_
      simp only [getD_c0, toBool_bool, not_dec]
      refine wp_decs (fun h => wp_ret ?_) (fun h1 => wp_call hcells (wp_ret ?_))
      · rw [bool_false (fun hh => h (eqL_iff'.1 hh).2.1)]
      · simp only [getD_c0, toBool_bool]
        congr 2
        rw [Bool.eq_iff_iff, eqL_iff', pd_iff]
        exact ⟨fun hh => ⟨hl, Classical.not_not.1 h1, hh⟩, fun hh => hh.2.2⟩
    refine sound_ 0 (array_equal_tree _ _ _ _) ?_
    simp only [dA_0, dA_1, dA_2, dC_0, dC_1, dC_2, dC_3, dC_4, dN_0, dN_1, dN_2, els_sl, els_dI, els_dL, List.length_map, Int.toNat_natCast, toInt_int, toInt_dB, toBool_bool, getD_c0, getD_c1, int_beq, int_bne, not_dec, dInt_dB, Int.toNat_zero]
    refine wp_br (fun hb => wp_decs (fun h => wp_ret ?_) (fun h1 => fin ?_)) (fun hb => fin ?_)
    · have hf : eqL lb a b = false := bool_false (fun hh => h (by
        have := (eqL_iff'.1 hh).1
        simp only [gl, hb, if_true] at this
        rw [this]))
      rw [hf]
    · simp only [gl, hb, if_true]; exact BitVec.eq_of_toNat_eq (by omega)
    · simp [gl, hb]
theorem array_Match_sp {d : Nat} (a b : Arr) (h : Sml d a) : Sp 33 [dA a, dA b] [.bool (matA a b)] := sound_ 0 (array_Match_tree _ _ _) (wp_call (array_equal_all false d a b h) (wp_ret rfl))
mutual
def depA : Arr → Nat
  | .mk s sh cs => if simpleA (.mk s sh cs) then 0 else depCs cs + 1
def depCs : List (CellF Arr) → Nat
  | [] => 0
  | c :: cs => max (depC c) (depCs cs)
def depC : CellF Arr → Nat
  | ⟨_, _, _, _, inn⟩ => depAs inn
def depAs : List Arr → Nat
  | [] => 0
  | a :: as_ => max (depA a) (depAs as_)
end
theorem depA_eq (a : Arr) : depA a = if simpleA a then 0 else depCs a.cells + 1 := by cases a; rw [depA]; rfl
theorem depC_eq (c : Cell) : depC c = depAs c.inn := by cases c; rw [depC]
theorem depCs_le {k : Nat} : ∀ {cs : List Cell}, (∀ c ∈ cs, depC c ≤ k) → depCs cs ≤ k
  | [], _ => by rw [depCs]; omega
  | c :: cs, h => by
    have h1 := h c (by simp)
    have h2 := depCs_le (fun x hx => h x (List.mem_cons_of_mem _ hx))
    rw [depCs]; omega
theorem depAs_le {k : Nat} : ∀ {as_ : List Arr}, (∀ a ∈ as_, depA a ≤ k) → depAs as_ ≤ k
  | [], _ => by rw [depAs]; omega
  | a :: as_, h => by
    have h1 := h a (by simp)
    have h2 := depAs_le (fun x hx => h x (List.mem_cons_of_mem _ hx))
    rw [depAs]; omega
theorem depC_mem : ∀ {cs : List Cell} {c : Cell}, c ∈ cs → depC c ≤ depCs cs
  | d :: cs, c, h => by
    rw [depCs]
    rcases List.mem_cons.1 h with rfl | h
    · omega
    · have := depC_mem h; omega
theorem depA_mem : ∀ {as_ : List Arr} {a : Arr}, a ∈ as_ → depA a ≤ depAs as_
  | d :: as_, a, h => by
    rw [depAs]
    rcases List.mem_cons.1 h with rfl | h
    · omega
    · have := depA_mem h; omega
theorem depA_sml : ∀ {d : Nat} {a : Arr}, Sml d a → depA a ≤ d
  | 0, _, h => h.elim
  | d + 1, a, h => by
    rw [depA_eq]
    have : depCs a.cells ≤ d := depCs_le (fun c hc => by rw [depC_eq]; exact depAs_le (fun x hx => depA_sml ((h.cell c hc).2.2.2 x hx)))
    split <;> omega
end Go.Proofs.Ytcgfpibkajagjaa
set_option maxRecDepth 100000
namespace Go.Proofs.Ytcgfpibkajagjaa
/-! scrim/scrimref11.Alone -/
def ref11_Alone_orc : List (Nat × Orc) := []
theorem ref11_Alone_tree (n : Nat) (nn0 : D) (s1 : D) : evFun Try.prog md ref11_Alone_orc n 35 [] [nn0, s1] =
 .call 46 [] [D.int nn0.toInt] fun yy1 =>
 .ret [D.agg [D.int s1.toInt, D.sl [], D.sl [yy1.getD 0 D.nil]]] := by kernel_rfl

/-! scrim/scrimref11.Vector -/
def ref11_Vector_orc : List (Nat × Orc) := [(3, ⟨[(0, some 23), (4, none), (5, none), (6, none)], [(4, false), (5, false)], [(.fld 5 [1], 1030, 3), (.fld 5 [2], 1031, 52)]⟩)]
def ref11_Vector_ps : List Nat := [23, 22]
def ref11_Vector_rs : List ResultVar := [.cell 4 26]
def ref11_Vector_ts : List Nat := [26]
noncomputable def ref11_Vector_l3 (n m3 : Nat) (l0 : D) (i6 : Int) (t4_0 : Int) (out5_0 : Int) (out5_1 : List D) (out5_2 : List D) : Tree :=
  evLoop Try.prog md (ev Try.prog md n ref11_Vector_orc (cAt (bodyOf Try.prog 38) [1, 1, 0, 1, 0, 0])) (orcAt ref11_Vector_orc 3) m3 ⟨[.d 23 l0, .undef, .undef, .undef, .ptr 4 [], .ptr 5 [], .i .i64 i6, .undef, .undef, .undef, .undef, .undef, .undef, .undef, .undef, .undef, .undef, .undef, .undef, .undef, .undef, .undef, .undef, .undef, .undef, .undef, .undef, .undef, .undef], [(4, .var 26 (.agg 26 [.i .u64 t4_0, .mt, .mt]) true), (5, .var 26 (.agg 26 [.i .u64 out5_0, .row 1030, .row 1031]) true), (1030, .row 3 out5_1 true), (1031, .row 52 out5_2 true)], [4, 5, 1030, 1031], [], []⟩
   (blockK 0 (seqK (joinE Try.prog md (joinAt ref11_Vector_orc (cAt (bodyOf Try.prog 38) [1, 1, 1])) (ev Try.prog md n ref11_Vector_orc (cAt (bodyOf Try.prog 38) [1, 1, 1]))) (retK Try.prog md (md 38) ref11_Vector_ps ref11_Vector_rs ref11_Vector_ts)))
theorem ref11_Vector_l3_succ (n m3 : Nat) (l0 : D) (i6 : Int) (t4_0 : Int) (out5_0 : Int) (out5_1 : List D) (out5_2 : List D) : ref11_Vector_l3 n (m3 + 1) l0 i6 t4_0 out5_0 out5_1 out5_2 =
 .br (decide (i6 < (l0.els.length : Int))) (.br (decide (0 ≤ i6)) (.br (decide (i6 < (l0.els.length : Int))) (.call 46 [] [D.int ((l0.els.getD (Int.toNat i6) D.nil).toInt)] fun yy1 =>
 .br (decide (out5_2.length + [yy1.getD 0 D.nil].length ≤ bigN)) (ref11_Vector_l3 n m3 l0 (IntKind.wrap .i64 (i6 + 1)) t4_0 out5_0 out5_1 (out5_2 ++ [yy1.getD 0 D.nil])) .fail) .fail) .fail)
 (.ret [D.agg [D.int out5_0, D.sl out5_1, D.sl out5_2]]) := by kernel_rfl
theorem ref11_Vector_tree (n : Nat) (l0 : D) (s1 : D) : evFun Try.prog md ref11_Vector_orc n 38 [] [l0, s1] =
 ref11_Vector_l3 n n l0 0 0 s1.toInt [D.int (l0.els.length : Int)] [] := by kernel_rfl

end Go.Proofs.Ytcgfpibkajagjaa
set_option maxRecDepth 100000
namespace Go.Proofs.Ytcgfpibkajagjaa
/-! scrim/scrimref10.Same -/
def ref10_Same_orc : List (Nat × Orc) := []
theorem ref10_Same_tree (n : Nat) (a0 : D) (e1 : D) (b2 : D) (f3 : D) : evFun Try.prog md ref10_Same_orc n 14 [] [a0, e1, b2, f3] =
 .br (e1.toInt == f3.toInt) (.call 15 [] [a0, b2] fun yy1 =>
 .ret [D.bool ((yy1.getD 0 D.nil).toBool)])
 (.ret [D.bool false]) := by kernel_rfl

end Go.Proofs.Ytcgfpibkajagjaa
set_option maxRecDepth 100000
namespace Go.Proofs.Ytcgfpibkajagjaa

/-- Numbers along one axis. -/
def vecA (l : List Int) (s : Lab) : Arr := .mk s [(l.length : Int)] (l.map intC)
def aloneA (n : Int) (s : Lab) : Arr := .mk s [] [intC n]
theorem ref11_Vector_sp (l : List Int) (s : Lab) (hl : l.length ≤ 100000) (hr : ∀ x ∈ l, inR x) : Sp 38 [dI l, dB s] [dA (vecA l s)] := by
  refine sound_ (l.length + 1) (ref11_Vector_tree _ _ _) ?_
  simp only [dA_0, dA_1, dA_2, dC_0, dC_1, dC_2, dC_3, dC_4, dN_0, dN_1, dN_2, els_sl, els_dI, els_dL, List.length_map, Int.toNat_natCast, toInt_int, toInt_dB, toBool_bool, getD_c0, getD_c1, int_beq, int_bne, not_dec, dInt_dB, Int.toNat_zero]
  have key := loop_list (P := Try.prog) (md := md) l (fun m k (out : List Cell) => ref11_Vector_l3 (l.length + 1) m (dI l) (k : Int) 0 (s.toNat : Int) [D.int (l.length : Int)] (out.map dC)) (fun rest out => [dA (.mk s [(l.length : Int)] (out ++ rest.map intC))]) (fun rest out => out.length + rest.length ≤ 100000)
    (fun m k out hk _ => by
      simp only [ref11_Vector_l3_succ, dA_0, dA_1, dA_2, dC_0, dC_1, dC_2, dC_3, dC_4, dN_0, dN_1, dN_2, els_sl, els_dI, els_dL, List.length_map, Int.toNat_natCast, toInt_int, toInt_dB, toBool_bool, getD_c0, getD_c1, int_beq, int_bne, not_dec, dInt_dB, Int.toNat_zero]
      refine wp_ndec (by omega) (wp_ret ?_)
      rw [dA_eq]; simp; rfl)
    (fun m k out x rest hdr hI ih => by
      obtain ⟨h1, h2, h3⟩ := drop_cons hdr
      have hm := List.mem_of_getElem? h2
      simp only [ref11_Vector_l3_succ, dA_0, dA_1, dA_2, dC_0, dC_1, dC_2, dC_3, dC_4, dN_0, dN_1, dN_2, els_sl, els_dI, els_dL, List.length_map, Int.toNat_natCast, toInt_int, toInt_dB, toBool_bool, getD_c0, getD_c1, int_beq, int_bne, not_dec, dInt_dB, Int.toNat_zero, getD_map h2, wrap_succ (show k < 9223372036854775807 by omega)]
      repeat (refine wp_dec (by omega) ?_)
      refine wp_call (ref08_Int_sp x (hr x hm)) (wp_dec ?_ ?_)
      · simp only [List.length_cons, List.length_nil, bigN, List.length_map] at hI ⊢; omega
      · have := ih (out ++ [intC x]) (by simp only [List.length_append, List.length_cons, List.length_nil] at hI ⊢; omega)
        rw [List.map_append] at this
        refine Tree.wp_mono this (fun ys hy => hy.trans ?_)
        simp)
    (l.length + 1) 0 [] (by omega) (by omega) (by simpa using hl)
  exact key
theorem ref11_Alone_sp (n : Int) (s : Lab) (hr : inR n) : Sp 35 [.int n, dB s] [dA (aloneA n s)] := by
  refine sound_ 0 (ref11_Alone_tree _ _ _) (wp_call (ref08_Int_sp n hr) (wp_ret ?_))
  rw [dA_eq]; rfl
/-- The cells of an array, from the first one on again. -/
def cyc (fr : List Cell) (k : Nat) : List Cell := (List.range k).map (fun i => fr.getD (i % fr.length) (intC 0))
def reshA (n a : Arr) : Arr × Int :=
  if (intsA n).2 = 0 then (if (countS (intsA n).1).2 = 0 then (.mk (a.s ||| totA n) (intsA n).1 (cyc a.cells (countS (intsA n).1).1.toNat), 0) else (.none, (countS (intsA n).1).2)) else (.none, (intsA n).2)
theorem cyc_succ (fr : List Cell) (k : Nat) : cyc fr (k + 1) = cyc fr k ++ [fr.getD (k % fr.length) (intC 0)] := by simp [cyc, List.range_succ]
theorem cyc_len (fr : List Cell) (k : Nat) : (cyc fr k).length = k := by simp [cyc]
theorem cyc_mem {fr : List Cell} {k : Nat} {c : Cell} (h : c ∈ cyc fr k) : c ∈ fr ∨ c = intC 0 := by
  simp only [cyc, List.mem_map] at h
  obtain ⟨i, _, rfl⟩ := h
  rw [List.getD_eq_getElem?_getD]
  cases hg : fr[i % fr.length]? with
  | none => right; rfl
  | some x => left; exact List.mem_of_getElem? hg
theorem getD_mapC {fr : List Cell} {i : Nat} (h : i < fr.length) : (fr.map dC).getD i D.nil = dC (fr.getD i (intC 0)) := by
  rw [getD_map (List.getElem?_eq_getElem h), List.getD_eq_getElem?_getD, List.getElem?_eq_getElem h]; rfl
theorem mod_next {i n : Nat} (h : 0 < n) : (if i % n + 1 = n then 0 else i % n + 1) = (i + 1) % n := by
  have h1 := Nat.mod_lt i h
  rw [Nat.add_mod]
  by_cases hn : n = 1
  · subst hn; simp [Nat.mod_one]
  · rw [Nat.mod_eq_of_lt (show 1 < n by omega)]
    split
    · rename_i he; rw [he, Nat.mod_self]
    · rw [Nat.mod_eq_of_lt (show i % n + 1 < n by omega)]
theorem ref10_Same_sp (x y : Arr) (e f : Int) (hx : Fits x) : Sp 14 [dA x, .int e, dA y, .int f] [.bool (decide (e = f) && eqA x y)] := by
  refine sound_ 0 (ref10_Same_tree _ _ _ _ _) ?_
  simp only [toInt_int, int_beq]
  refine wp_decs (fun h => wp_call (ref08_Same_sp x hx y) (wp_ret ?_)) (fun h => wp_ret ?_)
  · rw [decide_eq_true h]; rfl
  · rw [decide_eq_false h]; rfl
end Go.Proofs.Ytcgfpibkajagjaa
set_option maxRecDepth 100000
namespace Go.Proofs.Ytcgfpibkajagjaa

theorem number_alone (n : Int) (s : Lab) : raiseA (oneA (intC n)) s = aloneA n s := by simp [raiseA, oneA, aloneA]
theorem smlC_int {z : Int} (h : inR z) (d : Nat) : SmlC d (intC z) := by
  have := lb_inR h
  refine ⟨?_, ?_, ?_, ?_⟩
  · simp only [intC, ofZ]; omega
  · simp [intC, ofZ]
  · simp [intC]
  · simp [intC]
def shapeA (a : Arr) : Arr := vecA a.shape a.s
def ravA (a : Arr) : Arr := .mk a.s [(a.cells.length : Int)] a.cells
def tallyA (a : Arr) : Arr := aloneA (a.shape.headD 1) a.s
def mdepA (a : Arr) : Arr := aloneA (depA a : Int) (totA a)
noncomputable def mmatA (a b : Arr) (same : Bool) : Arr := aloneA (if matA a b = same then 1 else 0) (totA a ||| totA b)
/-- An array in a box. -/
def boxL (a : Arr) : Lab := match a.shape, a.cells with
  | [], c :: _ => c.l
  | _, _ => 0
def boxA (a : Arr) : Arr := .mk a.s [] [⟨boxL a, 2, .zero, 0, [a]⟩]
def enclA (a : Arr) : Arr × Int := if simpleA a then (a, 0) else if 8 < depA a then (.none, 7) else (boxA a, 0)
theorem dA_box (a : Arr) (l : Lab) (h : l = boxL a) : D.agg [dB a.s, D.sl [], D.sl [D.agg [dB l, D.int 2, D.agg [D.bool false, D.sl [], D.sl []], D.int 0, D.sl [dA a]]]] = dA (boxA a) := by subst h; rw [dC_box, dA_eq]; rfl
/-- What is in the first cell. -/
def firstA (a : Arr) : Arr := match a.cells with
  | [] => aloneA 0 a.s
  | c :: _ => raiseA (unpC c) a.s
mutual
def flatA : Arr → List (CellF Arr)
  | .mk _ _ cs => flatCs cs
def flatCs : List (CellF Arr) → List (CellF Arr)
  | [] => []
  | c :: cs => flatC c ++ flatCs cs
def flatC : CellF Arr → List (CellF Arr)
  | ⟨l, k, n, c, inn⟩ => if k = 2 then flatAs inn else [⟨l, k, n, c, inn⟩]
def flatAs : List Arr → List (CellF Arr)
  | [] => []
  | a :: as_ => flatA a ++ flatAs as_
end
theorem flatA_eq (a : Arr) : flatA a = flatCs a.cells := by cases a; rw [flatA]; rfl
theorem flatC_eq (c : Cell) : flatC c = if c.kind = 2 then flatAs c.inn else [c] := by cases c; rw [flatC]
/-- Few parts: few cells. -/
theorem leftCs_pos {r : Arr → Int → Int} : ∀ {cs : List Cell} {n : Int}, 0 ≤ leftCs r cs n → 0 ≤ n
  | [], n, h => h
  | c :: cs, n, h => by
    simp only [leftCs] at h
    split at h
    · assumption
    · exact h
theorem leftAs_pos {r : Arr → Int → Int} : ∀ {as_ : List Arr} {n : Int}, 0 ≤ leftAs r as_ n → 0 ≤ n
  | [], n, h => h
  | a :: as_, n, h => by
    simp only [leftAs] at h
    split at h
    · assumption
    · exact h
theorem leftAs_flat {r : Arr → Int → Int} : ∀ {as_ : List Arr} {n : Int}, (∀ a ∈ as_, ∀ m, 0 ≤ m → m ≤ 4000 → 0 ≤ r a m → r a m + ((flatA a).length : Int) ≤ m) → n ≤ 4000 → 0 ≤ leftAs r as_ n → leftAs r as_ n + ((flatAs as_).length : Int) ≤ n
  | [], n, _, _, _ => by simp [leftAs, flatAs]
  | a :: as_, n, hr, hn, h => by
    have h0 := leftAs_pos h
    simp only [leftAs] at h ⊢
    rw [if_pos h0] at h ⊢
    have h1 := leftAs_pos h
    have h2 := hr a (by simp) n h0 hn h1
    have h3 := leftAs_flat (fun x hx => hr x (List.mem_cons_of_mem _ hx)) (by omega) h
    rw [flatAs, List.length_append]; omega
theorem leftCs_flat {r : Arr → Int → Int} {d : Nat} : ∀ {cs : List Cell} {n : Int}, (∀ c ∈ cs, SmlC d c) → (∀ c ∈ cs, ∀ a ∈ c.inn, ∀ m, 0 ≤ m → m ≤ 4000 → 0 ≤ r a m → r a m + ((flatA a).length : Int) ≤ m) → n ≤ 4000 → 0 ≤ leftCs r cs n → leftCs r cs n + ((flatCs cs).length : Int) ≤ n
  | [], n, _, _, _, _ => by simp [leftCs, flatCs]
  | c :: cs, n, hs, hr, hn, h => by
    have h0 := leftCs_pos h
    have hc := hs c (by simp)
    have hc1 := hc.1
    have hc2 := hc.2.1
    have e : w64 (w64 (w64 (n - 1) - (c.n.top.length : Int)) - (c.n.bot.length : Int)) = n - 1 - (c.n.top.length : Int) - (c.n.bot.length : Int) := by
      unfold w64
      rw [wrap64 (x := n - 1) (by omega) (by omega), wrap64 (x := n - 1 - (c.n.top.length : Int)) (by omega) (by omega), wrap64 (by omega) (by omega)]
    simp only [leftCs] at h ⊢
    rw [if_pos h0, e] at h ⊢
    have h1 := leftCs_pos h
    have h2 := leftAs_flat (hr c (by simp)) (by omega) h1
    have h3 := leftCs_flat (fun x hx => hs x (List.mem_cons_of_mem _ hx)) (fun x hx => hr x (List.mem_cons_of_mem _ hx)) (by omega) h
    have h4 : ((flatC c).length : Int) ≤ ((flatAs c.inn).length : Int) + 1 := by
      rw [flatC_eq]; split
      · omega
      · simp only [List.length_cons, List.length_nil]; omega
    rw [flatCs, List.length_append]; omega
theorem leftA_flat : ∀ {e d : Nat} {a : Arr} {n : Int}, Sml d a → 0 ≤ n → n ≤ 4000 → 0 ≤ leftA e a n → leftA e a n + ((flatA a).length : Int) ≤ n
  | 0, _, _, _, _, _, _, h => by simp [leftA] at h
  | e + 1, 0, _, _, hs, _, _, _ => hs.elim
  | e + 1, d + 1, a, n, hs, h0, hn, h => by
    rw [leftA] at h ⊢
    have h1 := hs.1
    have e1 : w64 (w64 (n - 1) - (a.shape.length : Int)) = n - 1 - (a.shape.length : Int) := by
      unfold w64
      rw [wrap64 (x := n - 1) (by omega) (by omega), wrap64 (by omega) (by omega)]
    rw [e1] at h ⊢
    have key : leftCs (leftA e) a.cells (n - 1 - (a.shape.length : Int)) + ((flatCs a.cells).length : Int) ≤ n - 1 - (a.shape.length : Int) := leftCs_flat hs.cell (fun c hc x hx m hm0 hm h0 => leftA_flat ((hs.cell c hc).2.2.2 x hx) hm0 hm h0) (by omega) h
    rw [flatA_eq]; clear h; omega
theorem few_flat {d : Nat} {a : Arr} (h : Sml d a) (hf : fewA a = true) : (flatA a).length ≤ 4000 := by
  have h1 : 0 ≤ leftA 12 a 4000 := of_decide_eq_true hf
  have := leftA_flat h (by omega) (by omega) h1
  omega
/-- Cells, and behind them those of an array that are no boxes. -/
def enR (out fl : List Cell) : List D := if out.length + fl.length ≤ 2048 then [.sl ((out ++ fl).map dC), .bool true] else [.sl [], .bool false]
def enlA (a : Arr) : Arr × Int := if (flatA a).length ≤ 2048 then (.mk (totA a) [((flatA a).length : Int)] (flatA a), 0) else (.none, 7)
end Go.Proofs.Ytcgfpibkajagjaa
set_option maxRecDepth 100000
namespace Go.Proofs.Ytcgfpibkajagjaa
open Go.RowKit

section
variable {P : Program} {md : Nat → FMode}
/-- A result, as data. -/
def ResV (P : Program) (md : Nat → FMode) (w : World) (M : Nat → Prop) (t : Nat) (y : D) (u : Value) : Prop := ∃ look β, VL P md w (Mof M look β) look β (ofD P t y) u
theorem ResV.int {w : World} {M : Nat → Prop} {t : Nat} {k : IntKind} {n : Int} {u : Value} (h : ResV P md w M t (.int n) u) (ht : P.underlying t = some (.int k)) : u = .int k n ∧ k.min ≤ n ∧ n ≤ k.max := by
  obtain ⟨look, β, h⟩ := h
  unfold ofD at h
  rw [ht] at h
  exact vl_i h
theorem ResV.bool {w : World} {M : Nat → Prop} {t : Nat} {b : Bool} {u : Value} (h : ResV P md w M t (.bool b) u) (ht : P.underlying t = some .bool) : u = .bool b := by
  obtain ⟨look, β, h⟩ := h
  unfold ofD at h
  rw [ht] at h
  exact vl_b h
theorem ResV.rd {w : World} {M : Nat → Prop} {t : Nat} {y : D} {u : Value} (h : ResV P md w M t y u) (ht : ofD P t y = .d t y) : Rd P md w M (.ty t) y u := by
  obtain ⟨look, β, h⟩ := h
  rw [ht] at h
  obtain ⟨h1, h2⟩ := vl_ne h (by simp) (by simp) (by simp)
  cases h1 with
  | d h1 => exact ⟨h1.mono (Nat.le_refl _) (fun _ _ _ => rfl) (fun b hb _ => .inl hb), h2.size, h2.agg⟩
theorem rd_weak {w w' : World} {M M' : Nat → Prop} {t : CT} {x : D} {v : Value} (h : Rd P md w M t x v) (hx : Ext w w') (hM : ∀ b, M' b → b < w.heap.size → M b) : Rd P md w' M' t x v :=
  ⟨h.rd.mono hx.size (fun b _ hb => hx.block b hb) hM, h.size, h.agg⟩
/-- ████ A call of a function that lends nothing, and tells no row of its own. -/
theorem sp_calls {F : Nat} {fn : Func} {xs ys : List D} {vs : List Value} {W : World} {M : Nat → Prop} (hs : Spec P md F [] xs ys) (hfn : P.funcs[F]? = some fn) (hm : md F = {}) (hM : ∀ b, M b → b < W.heap.size)
    (hlx : xs.length = fn.params.size) (hlv : vs.length = fn.params.size) (hrd : ∀ (i t : Nat) (x : D) (v : Value), fn.params.toList[i]? = some t → xs[i]? = some x → vs[i]? = some v → Rd P md W M (.ty t) x v) :
    Calls P F vs.toArray W (fun e w' => ∃ us, e = .returned (retV us) ∧ us.length = fn.resultTypes.size ∧ (∀ (i t : Nat) (u : Value), fn.resultTypes.toList[i]? = some t → us[i]? = some u → ResV P md w' M t (ys.getD i .nil) u) ∧ Ext W w') := by
  obtain ⟨fn', h1, _, _, h⟩ := hs
  rw [hfn] at h1
  injection h1 with h1
  subst h1
  have nol : ∀ b, ¬ lentN (md F) vs b := fun b ⟨p, v, h1, _⟩ => by rw [hm] at h1; cases h1
  refine (h W M vs 0 1 (fun k hk => by rw [hm] at hk; cases hk) ⟨by simp [hlx], by simp [hlv], fun b hb => ⟨hM b hb, nol b⟩, ?_, fun p hp => by rw [hm] at hp; cases hp⟩).mono ?_
  · intro i ct x v hc hx hv _
    simp only [List.append_nil, List.getElem?_map, Option.map_eq_some_iff] at hc
    obtain ⟨t, ht, rfl⟩ := hc
    have := hrd i t x v ht hx hv
    exact ⟨this.rd.mono (Nat.le_refl _) (fun _ _ _ => rfl) (fun b hb _ => hb.elim id (fun h => (nol b h).elim)), this.size, this.agg⟩
  · rintro e w' ⟨us, β', hp⟩
    refine ⟨us, hp.ending, by simpa using hp.len, fun i t u ht hu => ?_, ?_⟩
    · have := hp.vl (resL P fn.resultTypes.toList ys 0) (by rw [hm]; rfl) i _ u (resL_at ht) hu
      rw [Nat.zero_add] at this
      exact ⟨_, _, this⟩
    · exact Stp.ext (hp.stp.weak fun b hb => (nol b hb).elim)
theorem one_of {us : List Value} {n : Nat} (h : us.length = n) (hn : n = 1) : ∃ u, us = [u] := by
  subst hn
  match us, h with
  | [u], _ => exact ⟨u, rfl⟩
theorem sp_int {F : Nat} {fn : Func} {xs : List D} {n : Int} {vs : List Value} {W : World} {M : Nat → Prop} {t : Nat} {k : IntKind} (hs : Spec P md F [] xs [.int n]) (hfn : P.funcs[F]? = some fn) (hm : md F = {}) (hM : ∀ b, M b → b < W.heap.size)
    (hlx : xs.length = fn.params.size) (hlv : vs.length = fn.params.size) (hrd : ∀ (i t : Nat) (x : D) (v : Value), fn.params.toList[i]? = some t → xs[i]? = some x → vs[i]? = some v → Rd P md W M (.ty t) x v)
    (hrt : fn.resultTypes = #[t]) (ht : P.underlying t = some (.int k)) : Calls P F vs.toArray W (fun e w' => e = .returned (.int k n) ∧ (k.min ≤ n ∧ n ≤ k.max) ∧ Ext W w') := by
  refine (sp_calls hs hfn hm hM hlx hlv hrd).mono ?_
  rintro e w' ⟨us, rfl, hl, hh, hx⟩
  obtain ⟨u, rfl⟩ := one_of hl (by rw [hrt]; rfl)
  obtain ⟨rfl, h2⟩ := (hh 0 t u (by rw [hrt]; rfl) rfl).int ht
  exact ⟨rfl, h2, hx⟩
theorem sp_sl {F : Nat} {fn : Func} {xs : List D} {y : D} {vs : List Value} {W : World} {M : Nat → Prop} {t : Nat} (hs : Spec P md F [] xs [y]) (hfn : P.funcs[F]? = some fn) (hm : md F = {}) (hM : ∀ b, M b → b < W.heap.size)
    (hlx : xs.length = fn.params.size) (hlv : vs.length = fn.params.size) (hrd : ∀ (i t : Nat) (x : D) (v : Value), fn.params.toList[i]? = some t → xs[i]? = some x → vs[i]? = some v → Rd P md W M (.ty t) x v)
    (hrt : fn.resultTypes = #[t]) (ht : ofD P t y = .d t y) : Calls P F vs.toArray W (fun e w' => ∃ u, e = .returned u ∧ Rd P md w' M (.ty t) y u ∧ Ext W w') := by
  refine (sp_calls hs hfn hm hM hlx hlv hrd).mono ?_
  rintro e w' ⟨us, rfl, hl, hh, hx⟩
  obtain ⟨u, rfl⟩ := one_of hl (by rw [hrt]; rfl)
  exact ⟨u, rfl, (hh 0 t u (by rw [hrt]; rfl) rfl).rd ht, hx⟩
/-- ████ A call of a function that tells one row of its own, not empty. -/
theorem own_calls {F : Nat} {fn : Func} {xs es : List D} {vs : List Value} {W : World} {M : Nat → Prop} {t e : Nat} (hs : Spec P md F [] xs [.sl es]) (hfn : P.funcs[F]? = some fn) (hm : md F = { own := [(0, [])] }) (hM : ∀ b, M b → b < W.heap.size)
    (hlx : xs.length = fn.params.size) (hlv : vs.length = fn.params.size) (hrd : ∀ (i t : Nat) (x : D) (v : Value), fn.params.toList[i]? = some t → xs[i]? = some x → vs[i]? = some v → Rd P md W M (.ty t) x v)
    (hrt : fn.resultTypes = #[t]) (ht : tElem P t = some e) (h1 : one P t = true) (hne : es ≠ []) :
    Calls P F vs.toArray W (fun en w' => ∃ G cap cur, en = .returned (.slice (some ⟨G, 0, none⟩) es.length cap) ∧ W.heap.size ≤ G ∧ G < w'.heap.size ∧ w'.heap[G]? = some (.cells cur e (0, 0)) ∧ es.length ≤ cap ∧ cap ≤ maxLen ∧ cur.size = cap * P.cellsOf e ∧
      (∀ (i : Nat) (x : D), es[i]? = some x → ∃ M', RdC P md w' M' (.ty e) x (fun j => cur[i * P.cellsOf e + j]?)) ∧ Ext W w') := by
  obtain ⟨fn', g1, _, _, h⟩ := hs
  rw [hfn] at g1
  injection g1 with g1
  subst g1
  have nol : ∀ b, ¬ lentN (md F) vs b := fun b ⟨p, v, h1, _⟩ => by rw [hm] at h1; cases h1
  refine (h W M vs 0 1 (fun k hk => by rw [hm] at hk; simp at hk; omega) ⟨by simp [hlx], by simp [hlv], fun b hb => ⟨hM b hb, nol b⟩, ?_, fun p hp => by rw [hm] at hp; cases hp⟩).mono ?_
  · intro i ct x v hc hx hv _
    simp only [List.append_nil, List.getElem?_map, Option.map_eq_some_iff] at hc
    obtain ⟨t, ht, rfl⟩ := hc
    have := hrd i t x v ht hx hv
    exact ⟨this.rd.mono (Nat.le_refl _) (fun _ _ _ => rfl) (fun b hb _ => hb.elim id (fun h => (nol b h).elim)), this.size, this.agg⟩
  · rintro en w' ⟨us, β', hp⟩
    have hl := hp.len
    rw [hrt] at hl
    obtain ⟨u, rfl⟩ := one_of hl rfl
    have hot : ownT P [t] (0, []) = some e := by simp [ownT, typeAt, h1, ht]
    have hlook : postLook P (md F) fn.params.toList fn.resultTypes.toList [.sl es] 0 1 0 = some (.row e es true) := by
      rw [hm, hrt]
      simp [postLook, backEff, ownEff, effF, updN, hot, D.path, D.els, List.getD]
    have hv := hp.vl [.row 0] (by rw [hm, hrt]; simp [resL, setOwn, setL]) 0 (.row 0) u rfl rfl
    have hu := vl_row hv hlook
    have hb := hp.blks 0 _ hlook
    have ho := fun B => hp.own 0 _ B hlook
    obtain ⟨A, cap, hA, hb⟩ := hb
    rcases hb with ⟨hn, _⟩ | ⟨B, cur, rfl, hc0, hB, hlen, hcap, hsz, hpos, hrd'⟩
    · exact absurd hn hne
    · have hob := ho B (by rw [hA]; simp [ownB]; omega)
      have hG := hob.1.resolve_right (nol B)
      refine ⟨B, cap, cur, ?_, hG, hob.2, hB, hlen, hcap, hsz, fun i x hx => ⟨_, hrd' i x hx⟩, Stp.ext (hp.stp.weak fun b hb => (nol b hb).elim)⟩
      rw [hp.ending, hu, hA]; rfl
theorem rd_all1 {w : World} {M : Nat → Prop} {ps : List Nat} {t : Nat} {x : D} {v : Value} (hp : ps = [t]) (h : Rd P md w M (.ty t) x v) : ∀ (i t' : Nat) (x' : D) (v' : Value), ps[i]? = some t' → [x][i]? = some x' → [v][i]? = some v' → Rd P md w M (.ty t') x' v' := by
  intro i t' x' v' h1 h2 h3
  subst hp
  match i with
  | 0 => cases h1; cases h2; cases h3; exact h
  | i + 1 => simp at h1
theorem rd_all2 {w : World} {M : Nat → Prop} {ps : List Nat} {t u : Nat} {x y : D} {v z : Value} (hp : ps = [t, u]) (h : Rd P md w M (.ty t) x v) (h' : Rd P md w M (.ty u) y z) : ∀ (i t' : Nat) (x' : D) (v' : Value), ps[i]? = some t' → [x, y][i]? = some x' → [v, z][i]? = some v' → Rd P md w M (.ty t') x' v' := by
  intro i t' x' v' h1 h2 h3
  subst hp
  match i with
  | 0 => cases h1; cases h2; cases h3; exact h
  | 1 => cases h1; cases h2; cases h3; exact h'
  | i + 2 => simp at h1
theorem rd_num_ {w : World} {M : Nat → Prop} {t : Nat} {k : IntKind} {n : Int} (ht : P.underlying t = some (.int k)) (hs : P.cellsOf t = 1) (ha : isAggT P t = false) (h1 : k.min ≤ n) (h2 : n ≤ k.max) : Rd P md w M (.ty t) (.int n) (.int k n) :=
  ⟨.int ht h1 h2 rfl, hs.symm, ha.symm⟩
/-- ████ What is said of a function, by a walk of it. -/
theorem spec_of (hP : WfP P) {F : Nat} {fn : Func} {cts : List CT} {xs ys : List D} (hfn : P.funcs[F]? = some fn) (hb : fn.body.isSome = true) (hn : (fn.name == "runtime.NumGoroutine") = false) (hm : md F = {})
    (h : ∀ (w : World) (M : Nat → Prop) (vs : List Value), (∀ b, M b → b < w.heap.size) → xs.length = fn.params.size + cts.length → vs.length = fn.params.size + cts.length → (∀ (i : Nat) (t : CT) (x : D) (v : Value), (fn.params.toList.map CT.ty ++ cts)[i]? = some t → xs[i]? = some x → vs[i]? = some v → Rd P md w M t x v) →
      Calls P F vs.toArray w (fun e w' => ∃ us, e = .returned (retV us) ∧ us.length = fn.resultTypes.size ∧ (∀ (i t : Nat) (u : Value), fn.resultTypes.toList[i]? = some t → us[i]? = some u → Rd P md w' M (.ty t) (ys.getD i .nil) u) ∧ Ext w w')) : Spec P md F cts xs ys := by
  refine ⟨fn, hfn, hb, hn, fun w M vs d bid _ hp => ?_⟩
  have nol : ∀ b, ¬ lentN (md F) vs b := fun b ⟨p, v, h1, _⟩ => by rw [hm] at h1; cases h1
  have hlook : postLook P (md F) fn.params.toList fn.resultTypes.toList ys d bid = fun _ => none := by rw [hm]; rfl
  refine (h w M vs (fun b hb => (hp.m b hb).1) (by simpa using hp.lenx) (by simpa using hp.lenv) (fun i t x v h1 h2 h3 => ?_)).mono ?_
  · have := hp.rd i t x v h1 h2 h3 (by rw [hm]; simp)
    exact ⟨this.rd.mono (Nat.le_refl _) (fun _ _ _ => rfl) (fun b hb _ => .inl hb), this.size, this.agg⟩
  · rintro e w' ⟨us, rfl, hl, hh, hx⟩
    refine ⟨us, fun _ => undef, rfl, by simpa using hl, (Stp.of_ext hx).weak (fun _ h => h), ?_, ?_, ?_, ?_, ?_⟩
    · intro ls hls i l u hi hu
      rw [hm] at hls
      simp only [setOwn, Option.some.injEq] at hls
      subst hls
      obtain ⟨t, ht⟩ : ∃ t, fn.resultTypes.toList[i]? = some t := by
        have := (List.getElem?_eq_some_iff.1 hi).1
        rw [resL_len] at this
        exact ⟨_, List.getElem?_eq_getElem this⟩
      have hr := hh i t u ht hu
      rw [resL_at ht, Nat.zero_add] at hi
      injection hi with hi
      subst hi
      have hr' : Rd P md w' (Mof M (postLook P (md F) fn.params.toList fn.resultTypes.toList ys d bid) (fun _ => undef)) (.ty t) (ys.getD i .nil) u := by
        refine rd_weak hr (Ext.refl _) (fun b hb _ => ?_)
        rcases hb with hb | ⟨r, k, hk, _⟩
        · exact hb
        · rw [hlook] at hk; cases hk
      exact (rd_vl' hP hr').1
    · intro r b hb; rw [hlook] at hb; cases hb
    · intro r b B hb; rw [hlook] at hb; cases hb
    · intro r q b c B hb; rw [hlook] at hb; cases hb
    · intro hb; rw [hm] at hb; cases hb
end
end Go.Proofs.Ytcgfpibkajagjaa
set_option maxRecDepth 100000
namespace Go.Proofs.Ytcgfpibkajagjaa

theorem can_len {x k : Nat} (h : (lb x).length = k + 1) : B ^ k ≤ x := by
  rcases Nat.lt_or_ge x (B ^ k) with h1 | h1
  · have := lb_len.2 h1; omega
  · exact h1
theorem lb_of {r : List Limb} (h : ∀ k, r.length = k + 1 → B ^ k ≤ nv r) : lb (nv r) = r := by
  refine lb_can (fun hne hz => ?_)
  have hd := List.dropLast_concat_getLast hne
  have hl : 0 < r.length := List.length_pos_iff.2 hne
  have h1 := h (r.length - 1) (by omega)
  have e : nv r = nv r.dropLast := by
    have e2 := nv_snoc r.dropLast (r.getLast hne)
    rw [hd, hz, show (0 : Limb).toNat = 0 from rfl, Nat.mul_zero, Nat.add_zero] at e2
    exact e2
  have h2 := nv_lt r.dropLast
  rw [List.length_dropLast] at h2
  omega
theorem pre_get {α : Type} {pre l : List α} {k : Nat} (hp : pre.length = k) (hk : k < l.length) : (pre ++ l.drop k)[k]? = some l[k] := by
  rw [List.getElem?_append_right (by omega), hp, Nat.sub_self, List.getElem?_drop, Nat.add_zero, List.getElem?_eq_getElem hk]
theorem pre_set {α : Type} {pre l : List α} {k : Nat} (v : α) (hp : pre.length = k) (hk : k < l.length) : (pre ++ l.drop k).set k v = (pre ++ [v]) ++ l.drop (k + 1) := by
  rw [List.set_append_right _ _ (by omega), hp, Nat.sub_self, List.drop_eq_getElem_cons hk, List.set_cons_zero]; simp
theorem map_set {α : Type} {f : α → D} {l : List α} {k : Nat} {v : α} : (l.map f).set k (f v) = (l.set k v).map f := by rw [List.map_set]
theorem nv_set (l : List Limb) (i : Nat) (hi : i < l.length) (v : Limb) : nv (l.set i v) + B ^ i * (l[i]).toNat = nv l + B ^ i * v.toNat := by
  induction l generalizing i with
  | nil => simp at hi
  | cons y l ih =>
    cases i with
    | zero => simp [nv]; omega
    | succ i =>
      have hi' : i < l.length := by simpa using hi
      have := ih i hi'
      simp only [List.set_cons_succ, nv, List.getElem_cons_succ, Nat.pow_succ]
      have h2 := congrArg (fun n => B * n) this
      simp only [Nat.mul_add] at h2
      rw [show B ^ i * B * (l[i]).toNat = B * (B ^ i * (l[i]).toNat) by rw [Nat.mul_comm (B ^ i) B, Nat.mul_assoc], show B ^ i * B * v.toNat = B * (B ^ i * v.toNat) by rw [Nat.mul_comm (B ^ i) B, Nat.mul_assoc]]
      omega
theorem bits32 {X Y : Nat} (hX : X < 4294967296) (hY : Y < 4294967296) : bits_ .xor .u32 (X : Int) (Y : Int) = ((X ^^^ Y : Nat) : Int) ∧ bits_ .and .u32 (X : Int) (Y : Int) = ((X &&& Y : Nat) : Int) ∧ bits_ .or .u32 (X : Int) (Y : Int) = ((X ||| Y : Nat) : Int) := by
  have b : IntKind.bits .u32 = 32 := rfl
  have e1 : (X ^^^ Y) < 2 ^ 32 := Nat.xor_lt_two_pow (by omega) (by omega)
  have e2 : (X &&& Y) < 2 ^ 32 := Nat.and_lt_two_pow _ (by omega)
  have e3 : (X ||| Y) < 2 ^ 32 := Nat.or_lt_two_pow (by omega) (by omega)
  simp only [bits_, b, BitVec.ofInt_natCast, BitVec.toNat_xor, BitVec.toNat_and, BitVec.toNat_or, BitVec.toNat_ofNat, Nat.mod_eq_of_lt (show X < 2 ^ 32 by omega), Nat.mod_eq_of_lt (show Y < 2 ^ 32 by omega)]
  exact ⟨wrapU32 (by omega) (by omega), wrapU32 (by omega) (by omega), wrapU32 (by omega) (by omega)⟩
theorem top_bit (n : Nat) (h : n < 4294967296) : n.testBit 31 = decide (2147483648 ≤ n) := by
  rw [Nat.testBit_eq_decide_div_mod_eq]
  have : n / 2 ^ 31 % 2 = 1 ↔ 2147483648 ≤ n := by omega
  simp only [this]
theorem sub_nat (X Y D c : Nat) (hX : X < 4294967296) (hY : Y < 4294967296) (hc : c ≤ 1) (hD : (D : Int) = ((X : Int) - Y - c) % 4294967296) :
    ((((4294967295 ^^^ X) &&& Y) ||| ((4294967295 ^^^ (X ^^^ Y)) &&& D) : Nat) : Int) / 2147483648 = if X < Y + c then 1 else 0 := by
  have hDl : D < 4294967296 := by omega
  have hN : (((4294967295 ^^^ X) &&& Y) ||| ((4294967295 ^^^ (X ^^^ Y)) &&& D)) < 2 ^ 32 :=
    Nat.or_lt_two_pow (Nat.and_lt_two_pow _ (by omega)) (Nat.and_lt_two_pow _ (by omega))
  have ht := top_bit _ (show _ < 4294967296 from hN)
  rw [Nat.testBit_or, Nat.testBit_and, Nat.testBit_and, Nat.testBit_xor, Nat.testBit_xor, Nat.testBit_xor, top_bit X hX, top_bit Y hY, top_bit D hDl, show Nat.testBit 4294967295 31 = true by decide] at ht
  generalize (((4294967295 ^^^ X) &&& Y) ||| ((4294967295 ^^^ (X ^^^ Y)) &&& D)) = N at *
  by_cases h1 : 2147483648 ≤ X <;> by_cases h2 : 2147483648 ≤ Y <;> by_cases h3 : 2147483648 ≤ D <;> simp [h1, h2, h3] at ht <;> split <;> omega
end Go.Proofs.Ytcgfpibkajagjaa
set_option maxRecDepth 100000
namespace Go.Proofs.Ytcgfpibkajagjaa

theorem mul_bound {x y o c : Nat} (hx : x < B) (hy : y < B) (ho : o < B) (hc : c < B) : x * y + o + c < 18446744073709551616 ∧ x * y < 18446744073709551616 ∧ x * y + o < 18446744073709551616 := by
  have h1 : x * y ≤ (B - 1) * (B - 1) := Nat.mul_le_mul (by omega) (by omega)
  rw [B_eq] at *
  omega
theorem lb_two (z : Nat) : (lb (2 * z)).length ≤ (lb z).length + 1 := by
  refine lb_len.2 ?_
  have h : z < B ^ (lb z).length := lb_len.1 (Nat.le_refl _)
  rw [Nat.pow_succ]
  generalize B ^ (lb z).length = q at *
  rw [B_eq]; omega
end Go.Proofs.Ytcgfpibkajagjaa
set_option maxRecDepth 100000
namespace Go.Proofs.Ytcgfpibkajagjaa

theorem zv_mk (b : Bool) (l : List Limb) : zv ⟨b, l⟩ = if b then -(nv l : Int) else (nv l : Int) := rfl
theorem sgn_cases (z : Int) : (sgnZ z = -1 ∧ z < 0) ∨ (sgnZ z = 0 ∧ z = 0) ∨ (sgnZ z = 1 ∧ 0 < z) := by
  unfold sgnZ
  by_cases h1 : z < 0
  · exact .inl ⟨if_pos h1, h1⟩
  · by_cases h2 : z = 0
    · exact .inr (.inl ⟨by rw [if_neg h1, if_pos h2], h2⟩)
    · exact .inr (.inr ⟨by rw [if_neg h1, if_neg h2], by omega⟩)
theorem zv_flip (b : Wh) : zv ⟨!b.neg, b.mag⟩ = -zv b := by unfold zv; cases b.neg <;> simp
theorem zv_mul (a b : Wh) : (if (!(a.neg == b.neg)) = true then -((nv a.mag * nv b.mag : Nat) : Int) else ((nv a.mag * nv b.mag : Nat) : Int)) = zv a * zv b := by
  unfold zv; cases a.neg <;> cases b.neg <;> simp [Int.neg_mul, Int.mul_neg, Int.natCast_mul]
/-- A quotient, rounded down, and the rest. -/
def dmZ (x y : Int) : Int × Int :=
  if (x < 0) = (y < 0) then (((x.natAbs / y.natAbs : Nat) : Int), if x < 0 then -((x.natAbs % y.natAbs : Nat) : Int) else ((x.natAbs % y.natAbs : Nat) : Int))
  else if x.natAbs % y.natAbs = 0 then (-((x.natAbs / y.natAbs : Nat) : Int), 0)
  else (-((x.natAbs / y.natAbs : Nat) : Int) - 1, (if x < 0 then -((x.natAbs % y.natAbs : Nat) : Int) else ((x.natAbs % y.natAbs : Nat) : Int)) + y)
def dmD (x y : Int) : List D := if y = 0 then [dW (wz 0), dW (wz 0), .bool false] else [dW (wz (dmZ x y).1), dW (wz (dmZ x y).2), .bool true]
theorem zv_neg {w : Wh} (h : nv w.mag ≠ 0) : (zv w < 0) ↔ w.neg = true := by unfold zv; cases w.neg <;> simp <;> omega
theorem zv_zero {w : Wh} : zv w = 0 ↔ nv w.mag = 0 := by unfold zv; cases w.neg <;> simp
theorem dmZ_neg {a b : Wh} (hb : nv b.mag ≠ 0) (hr : nv a.mag % nv b.mag ≠ 0) (hs : a.neg ≠ b.neg) : dmZ (zv a) (zv b) = ((if (!(a.neg == b.neg)) = true then -((nv a.mag / nv b.mag : Nat) : Int) else ((nv a.mag / nv b.mag : Nat) : Int)) - 1, (if a.neg = true then -((nv a.mag % nv b.mag : Nat) : Int) else ((nv a.mag % nv b.mag : Nat) : Int)) + zv b) := by
  have ha : nv a.mag ≠ 0 := fun h => hr (by rw [h]; simp)
  have h1 := zv_neg ha
  have h2 := zv_neg hb
  unfold dmZ
  rw [zv_abs, zv_abs, if_neg (by rw [eq_iff_iff, h1, h2]; cases ea : a.neg <;> cases eb : b.neg <;> simp [ea, eb] at hs ⊢), if_neg hr]
  have e1 : (!(a.neg == b.neg)) = true := by cases ea : a.neg <;> cases eb : b.neg <;> simp [ea, eb] at hs ⊢
  rw [if_pos e1]
  by_cases h : a.neg = true
  · rw [if_pos (h1.2 h), if_pos h]
  · rw [if_neg (fun hh => h (h1.1 hh)), if_neg h]
theorem dmZ_same {a b : Wh} (hb : nv b.mag ≠ 0) (hr : a.neg = b.neg ∨ nv a.mag % nv b.mag = 0) : dmZ (zv a) (zv b) = (if (!(a.neg == b.neg)) = true then -((nv a.mag / nv b.mag : Nat) : Int) else ((nv a.mag / nv b.mag : Nat) : Int), if a.neg = true then -((nv a.mag % nv b.mag : Nat) : Int) else ((nv a.mag % nv b.mag : Nat) : Int)) := by
  have h2 := zv_neg hb
  unfold dmZ
  rw [zv_abs, zv_abs]
  by_cases ha : nv a.mag = 0
  · have h0 : zv a = 0 := zv_zero.2 ha
    rw [h0, ha]
    simp
  · have h1 := zv_neg ha
    by_cases hs : a.neg = b.neg
    · rw [if_pos (by rw [eq_iff_iff, h1, h2, hs])]
      have e1 : (!(a.neg == b.neg)) = false := by rw [hs]; simp
      rw [e1]
      by_cases h : a.neg = true
      · rw [if_pos (h1.2 h), if_pos h]; simp
      · rw [if_neg (fun hh => h (h1.1 hh)), if_neg h]; simp
    · have h3 := hr.resolve_left hs
      rw [if_neg (by rw [eq_iff_iff, h1, h2]; cases ea : a.neg <;> cases eb : b.neg <;> simp [ea, eb] at hs ⊢), if_pos h3, h3]
      have e1 : (!(a.neg == b.neg)) = true := by cases ea : a.neg <;> cases eb : b.neg <;> simp [ea, eb] at hs ⊢
      rw [if_pos e1]
      cases a.neg <;> simp
theorem wz_len_le {n : Nat} {z : Int} (h : z.natAbs < B ^ n) : (wz z).mag.length ≤ n := lb_len.2 h
def lenZ (z : Int) : Nat := (lb z.natAbs).length
/-- A power by squares; an error. -/
def powR : Nat → Nat → Int → Int → Int × Int
  | 0, _, out, _ => (out, 0)
  | k + 1, n, out, base => if n = 0 then (out, 0) else if 32 < lenZ base then (0, 7) else
    if 32 < lenZ (if n % 2 = 1 then out * base else out) then (0, 7) else
    if n / 2 = 0 then (if n % 2 = 1 then out * base else out, 0) else powR k (n / 2) (if n % 2 = 1 then out * base else out) (base * base)
def powD (r : Int × Int) : List D := [dW (wz r.1), .int r.2]
theorem lenZ_mul (x y : Int) : lenZ (x * y) ≤ lenZ x + lenZ y := by
  unfold lenZ
  refine lb_len.2 ?_
  rw [Int.natAbs_mul, Nat.pow_add]
  exact Nat.mul_lt_mul'' (lb_len.1 (Nat.le_refl _)) (lb_len.1 (Nat.le_refl _))
theorem and_one (n : Nat) (h : n ≤ 9223372036854775807) : bits_ .and .i64 (n : Int) 1 = ((n % 2 : Nat) : Int) := by
  have b : IntKind.bits .i64 = 64 := rfl
  have h1 : n % 2 < 2 := Nat.mod_lt _ (by decide)
  have e : (BitVec.ofInt 64 (n : Int) &&& BitVec.ofInt 64 1).toNat = n % 2 := by
    rw [BitVec.ofInt_natCast, show BitVec.ofInt 64 1 = BitVec.ofNat 64 1 from rfl, BitVec.toNat_and, BitVec.toNat_ofNat, BitVec.toNat_ofNat, Nat.mod_eq_of_lt (show n < 2 ^ 64 by omega)]
    exact Nat.and_one_is_mod n
  show IntKind.wrap .i64 ((BitVec.ofInt 64 (n : Int) &&& BitVec.ofInt 64 1).toNat : Int) = _
  rw [e]
  exact wrap64 (x := ((n % 2 : Nat) : Int)) (by omega) (by omega)
theorem fdiv_two (n : Nat) : Int.fdiv (n : Int) (2 ^ (min (Int.toNat 1) (IntKind.bits .i64))) = ((n / 2 : Nat) : Int) := by
  rw [show (2 : Int) ^ (min (Int.toNat 1) (IntKind.bits .i64)) = 2 by decide, Int.fdiv_eq_ediv_of_nonneg _ (by omega)]; omega
def powZ (x n : Int) : Int × Int := if n < 0 then (0, 3) else powR 20 n.toNat 1 x
end Go.Proofs.Ytcgfpibkajagjaa
set_option maxRecDepth 100000
namespace Go.Proofs.Ytcgfpibkajagjaa
open Go.RowKit

theorem and_low (n : Nat) (h : n < 4294967296) : bits_ .and .u64 (n : Int) 4294967295 = (n : Int) := by
  have e : (BitVec.ofInt 64 (n : Int) &&& BitVec.ofInt 64 4294967295).toNat = n := by
    rw [BitVec.ofInt_natCast, show BitVec.ofInt 64 4294967295 = BitVec.ofNat 64 4294967295 from rfl, BitVec.toNat_and, BitVec.toNat_ofNat, BitVec.toNat_ofNat, Nat.mod_eq_of_lt (show n < 2 ^ 64 by omega)]
    show n &&& (2 ^ 32 - 1) = n
    rw [Nat.and_two_pow_sub_one_eq_mod]; exact Nat.mod_eq_of_lt h
  show IntKind.wrap .u64 ((BitVec.ofInt 64 (n : Int) &&& BitVec.ofInt 64 4294967295).toNat : Int) = _
  rw [e]
  exact wrapU64 (by omega) (by omega)
theorem mul64_sp (y : Nat) (h : y < 4294967296) : Sp 150 [.int 1, .int (y : Int)] [.int 0, .int (y : Int)] := by
  refine sound_ 0 (bits_Mul64_tree _ _ _) ?_
  have p : (2 : Int) ^ (min (Int.toNat 32) (IntKind.bits .u64)) = 4294967296 := by decide
  have a1 : bits_ .and .u64 1 4294967295 = 1 := and_low 1 (by decide)
  have a2 := and_low y h
  have a3 : bits_ .and .u64 0 4294967295 = 0 := and_low 0 (by decide)
  have d0 : Int.fdiv 0 4294967296 = 0 := by decide
  have d1 : Int.fdiv 1 4294967296 = 0 := by decide
  have d2 : Int.fdiv (y : Int) 4294967296 = 0 := by rw [Int.fdiv_eq_ediv_of_nonneg _ (by decide)]; omega
  have w0 : IntKind.wrap .u64 0 = 0 := by decide
  have w1 : IntKind.wrap .u64 (y : Int) = (y : Int) := wrapU64 (by omega) (by omega)
  simp only [toInt_int, p, a1, a2, a3, d0, d1, d2, w0, w1, Int.zero_mul, Int.mul_zero, Int.one_mul, Int.zero_add, Int.add_zero]
  repeat (refine wp_dec (by omega) ?_)
  exact wp_ret rfl
theorem mul_sp (y : Nat) (h : y < 4294967296) : Sp 135 [.int 1, .int (y : Int)] [.int 0, .int (y : Int)] := by
  refine sound_ 0 (bits_Mul_tree _ _ _) ?_
  simp only [toInt_int]
  refine wp_call (mul64_sp y h) (wp_ret ?_)
  simp only [getD_c0, getD_c1, toInt_int]
theorem mul_calls (y : Nat) (h : y < 4294967296) (w : World) : Calls Try.prog 135 #[.int .u64 1, .int .u64 y] w fun e w' => e = .returned (.tuple #[.int .u64 0, .int .u64 y]) ∧ Ext w w' := by
  have hps : Try.f135.params.toList = [144, 144] := by kernel_rfl
  have hrs : Try.f135.resultTypes.toList = [144, 144] := by kernel_rfl
  have ht : Try.prog.underlying 144 = some (.int .u64) := by kernel_rfl
  have n1 : ∀ k : Nat, k < 4294967296 → Rd Try.prog md w (fun _ => False) (.ty 144) (.int (k : Int)) (.int .u64 (k : Int)) := fun k hk => rd_num_ ht (by kernel_rfl) (by kernel_rfl) (by show (0 : Int) ≤ _; omega) (by show _ ≤ (18446744073709551615 : Int); omega)
  refine (sp_calls (vs := [.int .u64 1, .int .u64 y]) (M := fun _ => False) (mul_sp y h) Try.func135 (by kernel_rfl) (fun b hb => hb.elim) (by kernel_rfl) (by kernel_rfl) (rd_all2 hps (n1 1 (by decide)) (n1 y h))).mono ?_
  rintro e w' ⟨us, rfl, hl, hh, hx⟩
  have hl2 : us.length = 2 := by rw [hl]; rfl
  match us, hl2 with
  | [u1, u2], _ =>
    obtain ⟨rfl, _⟩ := (hh 0 144 u1 (by rw [hrs]; rfl) rfl).int ht
    obtain ⟨rfl, _⟩ := (hh 1 144 u2 (by rw [hrs]; rfl) rfl).int ht
    exact ⟨rfl, hx⟩
/-- make([]T, n), as a row. -/
theorem wpList_mkrow {P : Program} {w : World} {ops : Array Oper} {rest : List Oper} {o : Oper} {a : Act} {Q : Exit → Act → World → Prop} {t e : TypeId} {size bytes : Nat} (hE : Elt P t e size bytes)
    (hg : o.guard = none) (l c : Operand) (hop : o.op = Op.makeSlice t l c) {kl kc : IntKind} (n : Nat) {L C : Int} (hl : a.eval l = .int kl L) (hc : a.eval c = .int kc C) (hL : L = (n : Int)) (hC : C = (n : Int)) (hb : bytes * n ≤ 281474976710656) (hm : n ≤ maxLen)
    (h : ∀ (G : Nat) (w' : World) (X : List Value), w.heap.size ≤ G → Hid (w'.heap[G]? = some (.cells X.toArray e (0, 0))) → X.length = n * size → Ext w w' → wpList P ops Q rest (a.put o.dst (.slice (some ⟨G, 0, none⟩) n n)) w') : wpList P ops Q (o :: rest) a w := by
  subst hL
  subst hC
  obtain ⟨i, z, hi, hz, hsz, hby, hzc⟩ := hE.info
  have hbb : (i.bytes : Int) * (n : Int) ≤ 281474976710656 := by
    have h : ((i.bytes * n : Nat) : Int) ≤ 281474976710656 := by rw [hby]; omega
    rwa [Int.natCast_mul] at h
  have h63 : n ≤ 9223372036854775807 := by unfold maxLen at hm; omega
  have hr := run_make (P := P) w t e i z hE.under hi hz kl kc n n (by omega) (by omega) hbb (by omega)
  simp only [Int.toNat_natCast] at hr
  refine wpList_plain hg fun K hK' => ?_
  unfold Oper.wp
  simp [execOp, hop, hl, hc, hr, Result.andThen]
  have hx : Ext w (w.alloc (.cells (madeCells z.cells (n * i.size)) e)) := (Ext.refl w).alloc _
  refine hK' _ _ (h w.heap.size _ (madeCells z.cells (n * i.size)).toList (Nat.le_refl _) ?_ (by simp [size_madeCells, hsz]) hx)
  show _ = _
  rw [Array.toArray_toList]
  exact heap_alloc_new w _
theorem splice_rep {x : Value} {cur : List Value} {k m : Nat} (h : cur.take k = List.replicate k x) (hk : k + m ≤ cur.length) : (splice cur k (List.replicate m x)).take (k + m) = List.replicate (k + m) x ∧ (splice cur k (List.replicate m x)).length = cur.length := by
  refine ⟨?_, length_splice _ _ _ (by simpa using hk)⟩
  unfold splice
  rw [h, ← List.append_assoc, List.replicate_append_replicate, List.take_append_of_le_length (by simp), List.take_of_length_le (by simp)]
theorem src_one {w w2 : World} {A : Option Addr} {c : Nat} {z : Int} (h : SlI w (.slice A 1 c) .i64 [z]) (hx : Ext w w2) (m : Nat) (hm : m ≤ 1) : 0 < (List.replicate m (Value.int .i64 z)).length → ∃ ad, A = some ad ∧ ∀ j v, (List.replicate m (Value.int .i64 z))[j]? = some v → w2.cell? (ad.add j) = some v := by
  intro _
  obtain ⟨ad, rfl, hb, hc⟩ := (h.keep hx).cellAt 0 (by simp)
  refine ⟨ad, rfl, fun j v hv => ?_⟩
  have hj := (List.getElem?_eq_some_iff.1 hv).1
  simp only [List.length_replicate] at hj
  have : j = 0 := by omega
  subst this
  rw [List.getElem?_replicate, if_pos (by omega)] at hv
  cases hv
  exact hc
theorem src_row {w : World} {G k : Nat} {z : Int} {cur : List Value} {T : TypeId} (h : w.heap[G]? = some (.cells cur.toArray T (0, 0))) (ht : cur.take k = List.replicate k (.int .i64 z)) (m : Nat) (hm : m ≤ k) (hk : k ≤ cur.length) : ∀ j v, (List.replicate m (Value.int .i64 z))[j]? = some v → w.cell? ((⟨G, 0, none⟩ : Addr).add j) = some v := by
  intro j v hv
  have hj := (List.getElem?_eq_some_iff.1 hv).1
  simp only [List.length_replicate] at hj
  rw [List.getElem?_replicate, if_pos hj] at hv
  cases hv
  have hcj : cur[j]? = some (.int .i64 z) := by
    have := congrArg (fun l => l[j]?) ht
    simp only [List.getElem?_take, List.getElem?_replicate] at this
    rw [if_pos (by omega), if_pos (by omega)] at this
    exact this
  have ea : (⟨G, 0, none⟩ : Addr).add j = ⟨G, j, none⟩ := by unfold Addr.add; split <;> simp_all
  rw [ea]
  unfold World.cell?
  simp [h, hcj]
theorem elt_int_ : Elt Try.prog 23 3 1 8 :=
  ⟨Try.underlying23, by
    obtain ⟨i, hi, h1, h2, h3⟩ := info_parts (P := Try.prog) (e := 3) (z := .int .i64 0) (size := 1) (bytes := 8) (by kernel_rfl)
    exact ⟨i, _, hi, h1, h2, h3, rfl⟩, by decide⟩
/-- So many are there. -/
def RInv (w2 : World) (G n : Nat) (z : Int) (iv : Value) (wr : World) : Prop := ∃ (k : Nat) (cur : List Value), iv = .int .i64 k ∧ k ≤ n ∧ (0 < n → 0 < k) ∧ cur.length = n ∧ cur.take k = List.replicate k (.int .i64 z) ∧ wr.heap[G]? = some (.cells cur.toArray 3 (0, 0)) ∧ Below G w2 wr
theorem RInv.start {w2 w3 : World} {G n : Nat} {z : Int} {X : List Value} (hX : X.length = n * 1) (h : w3.heap[G]? = some (.cells (splice X 0 (List.replicate (Nat.min 1 n) (.int .i64 z))).toArray 3 (0, 0))) (hb : Below G w2 w3) : RInv w2 G n z (.int .i64 ((Nat.min 1 n : Nat) : Int)) w3 := by
  have h2 : Nat.min 1 n ≤ n := Nat.min_le_right 1 n
  have h3 : Nat.min 1 n = if 1 ≤ n then 1 else n := Nat.min_def
  obtain ⟨s1, s2⟩ := splice_rep (x := .int .i64 z) (cur := X) (k := 0) (m := Nat.min 1 n) rfl (by omega)
  rw [Nat.zero_add] at s1
  exact ⟨Nat.min 1 n, _, rfl, h2, fun h => by rw [h3]; split <;> omega, by omega, s1, h, hb⟩
theorem RInv.next {w2 w4 : World} {G n k : Nat} {z : Int} {cur : List Value} (hk : k < n) (hp : 0 < k) (hl : cur.length = n) (ht : cur.take k = List.replicate k (.int .i64 z)) (h : w4.heap[G]? = some (.cells (splice cur k (List.replicate (Nat.min k (n - k)) (.int .i64 z))).toArray 3 (0, 0))) (hb : Below G w2 w4) : RInv w2 G n z (.int .i64 ((k + Nat.min k (n - k) : Nat) : Int)) w4 ∧ n - (k + Nat.min k (n - k)) < n - k := by
  have h3 : Nat.min k (n - k) = if k ≤ n - k then k else n - k := Nat.min_def
  have h4 : 0 < Nat.min k (n - k) ∧ k + Nat.min k (n - k) ≤ n := by rw [h3]; split <;> omega
  obtain ⟨s1, s2⟩ := splice_rep (x := .int .i64 z) (cur := cur) (k := k) (m := Nat.min k (n - k)) ht (by omega)
  exact ⟨⟨_, _, rfl, h4.2, fun _ => by omega, by omega, s1, h, hb⟩, by omega⟩
/-- A row of its own is told, of so many. -/
def RetRow (n : Nat) (z : Int) (w : World) (e : Ending) (w' : World) : Prop := ∃ G, e = .returned (.slice (some ⟨G, 0, none⟩) n n) ∧ w.heap.size ≤ G ∧ SlI w' (.slice (some ⟨G, 0, none⟩) n n) .i64 (List.replicate n z) ∧ Ext w w'
theorem rd_slI {w : World} {M : Nat → Prop} {v : Value} {l : List Int} (h : Rd Try.prog md w M (.ty 23) (dI l) v) : SlI w v .i64 l := by
  obtain ⟨h1, h2, h3⟩ := h
  have hc1 : Try.prog.cellsOf 3 = 1 := by kernel_rfl
  unfold dI at h1
  cases h1 with
  | @sl _ e _ _ A cap bk off ht hc h4 h5 hA hh =>
    have he : e = 3 := by
      have : Try.prog.underlying 23 = some (.slice e) := ht
      rw [show Try.prog.underlying 23 = some (.slice 3) by kernel_rfl] at this
      injection this with this; injection this with this; exact this.symm
    subst he
    have hv : v = .slice A (l.map D.int).length cap := by
      have ha : isAggV v = false := by rw [h3]; kernel_rfl
      rw [cells_of ha] at hc
      simpa using hc
    refine ⟨A, cap, by rw [hv]; simp, by simpa using h4, by simp, fun i x hx => ?_⟩
    rw [List.getElem?_map, Option.map_eq_some_iff] at hx
    obtain ⟨b, hb, rfl⟩ := hx
    have hne : l.map D.int ≠ [] := fun e => by rw [List.map_eq_nil_iff.1 e] at hb; simp at hb
    obtain ⟨a1, a2, a3⟩ := hA hne
    have := hh i (D.int b) (by rw [List.getElem?_map, hb]; rfl)
    rw [hc1] at this
    refine ⟨_, a1, a3, ?_⟩
    cases this with
    | @int _ k _ _ ht' h1' h2' hc' =>
      have hk : k = .i64 := by
        have : Try.prog.underlying 3 = some (.int k) := ht'
        rw [show Try.prog.underlying 3 = some (.int .i64) by kernel_rfl] at this
        injection this with this; injection this with this; exact this.symm
      subst hk
      simp only [Nat.mul_one, Nat.add_zero] at hc'
      have ea : (⟨bk, off, none⟩ : Addr).add i = ⟨bk, off + i, none⟩ := by unfold Addr.add; split <;> simp_all
      rw [ea]; exact hc'
theorem row_rdI {w : World} {M : Nat → Prop} {G n c : Nat} {l : List Int} (h : SlI w (.slice (some ⟨G, 0, none⟩) n c) .i64 l) (hc : c ≤ maxLen) (hG : ¬ M G) (hr : ∀ x ∈ l, inR x) : Rd Try.prog md w M (.ty 23) (dI l) (.slice (some ⟨G, 0, none⟩) n c) := by
  obtain ⟨h1, h2⟩ := h.len
  have hc1 : Try.prog.cellsOf 3 = 1 := by kernel_rfl
  refine ⟨.sl (e := 3) (A := some ⟨G, 0, none⟩) (cap := c) (bk := G) (off := 0) (by kernel_rfl) (by rw [h1, List.length_map]; rfl) (by rw [List.length_map]; omega) hc (fun hne => ?_) (fun i x hx => ?_), by kernel_rfl, by kernel_rfl⟩
  · have : 0 < l.length := List.length_pos_iff.2 (fun e => hne (by rw [e]; rfl))
    obtain ⟨ad, ha, hb, _⟩ := h.cellAt 0 this
    cases ha
    exact ⟨rfl, hG, hb⟩
  · rw [List.getElem?_map, Option.map_eq_some_iff] at hx
    obtain ⟨b, hb, rfl⟩ := hx
    have hi : i < l.length := (List.getElem?_eq_some_iff.1 hb).1
    obtain ⟨ad, ha, _, hcell⟩ := h.cellAt i hi
    cases ha
    have ea : (⟨G, 0, none⟩ : Addr).add i = ⟨G, 0 + i, none⟩ := by unfold Addr.add; split <;> simp_all
    rw [ea] at hcell
    have hx : l[i] = b := (List.getElem?_eq_some_iff.1 hb).2
    rw [hx] at hcell
    have := hr b (List.mem_of_getElem? hb)
    exact .int (k := .i64) (by kernel_rfl) this.1 this.2 (by rw [hc1]; simpa using hcell)
theorem rd_i64 {w : World} {M : Nat → Prop} {v : Value} {n : Int} (h : Rd Try.prog md w M (.ty 3) (.int n) v) : v = .int .i64 n ∧ inR n := by
  obtain ⟨h1, h2, h3⟩ := h
  have ha : isAggV v = false := by rw [h3]; kernel_rfl
  cases h1 with
  | @int _ k _ _ ht h1' h2' hc' =>
    have hk : k = .i64 := by
      have : Try.prog.underlying 3 = some (.int k) := ht
      rw [show Try.prog.underlying 3 = some (.int .i64) by kernel_rfl] at this
      injection this with this; injection this with this; exact this.symm
    subst hk
    rw [cells_of ha] at hc'
    exact ⟨by simpa using hc', h1', h2'⟩
theorem rep_wrap {k n : Nat} (hk : k < n) (hn : n ≤ 1000000) : IntKind.wrap .i64 ((k : Int) + ((Nat.min k (n - k) : Nat) : Int)) = ((k + Nat.min k (n - k) : Nat) : Int) := by
  have h2 : Nat.min k (n - k) ≤ n - k := Nat.min_le_right k (n - k)
  rw [wrap64 (by omega) (by omega)]; omega
set_option maxHeartbeats 2000000 in
theorem repeat_any (A : Option Addr) (c n : Nat) (z : Int) (w : World) (hn : n ≤ 1000000) (hs : SlI w (.slice A 1 c) .i64 [z]) : Calls Try.prog 97 #[.slice A 1 c, .int .i64 n] w (RetRow n z w) := by
  have HS := Lib.hid hs
  have hc1 := hs.len.2
  clear hs
  have hu : Try.prog.underlying 23 = some (.slice 3) := by kernel_rfl
  have hz : (Try.prog.info? 3).map (·.size) = some 1 := by kernel_rfl
  have HU := Lib.hid hu
  have HZ := Lib.hid hz
  clear hu hz
  go_enter Try.func97, Try.ntmps97
  go_wp2_with (first
    | (go_at_call 135; refine (mul_calls n (by omega) _).mono ?_; rintro e w1 ⟨rfl, hx1⟩)
    | (at_make; refine wpList_mkrow elt_int_ rfl _ _ rfl n rfl rfl (by omega) (by omega) (by omega) (by unfold maxLen; omega) ?_; intro G w2 X hG HG hX hx2; have HX := Lib.hid hX; clear hX)
    | (refine wpList_copy_splice rfl (.tmp 31) (.tmp 32) 23 23 rfl 3 HU.out HZ.out (some ⟨G, 0, none⟩) A n n 1 c (by simp [Act.eval, Act.put]) (by simp [Act.eval, Act.put]) G 0 X 3 HG.out (List.replicate (Nat.min 1 n) (.int .i64 z)) (by simp) (fun hp => ⟨rfl, src_one HS.out (hx1.trans hx2) _ (Nat.min_le_left _ _) hp⟩) (by have h1 := HX.out; have h2 : Nat.min 1 n ≤ n := Nat.min_le_right 1 n; simp only [List.length_replicate]; omega) (by intro v hv; rw [List.eq_of_mem_replicate hv]; rfl) G w2 (Below.refl _ _) (Nat.le_refl _) ?_; intro w3 HG3 hb3))
  go_loopw [8] (RInv w2 G n z) (fun iv _ => n - (intOf iv).toNat)
  case atStart => exact RInv.start HX.out HG3.out hb3
  case round =>
    obtain ⟨k, cur, rfl, hk, hp, hl, ht, hh, hb⟩ := hrel
    have HT := Lib.hid ht
    have HH := Lib.hid hh
    have HB := Lib.hid hb
    have HL := Lib.hid hl
    clear ht hh hb hl
    by_cases hlt : k < n
    · have hpk : 0 < k := hp (by omega)
      clear hp
      have HNE := Lib.hid (show (if n = k then some (⟨G, 0, none⟩ : Addr) else some ⟨G, k, none⟩) = some ⟨G, k, none⟩ from if_neg (by omega))
      have HSR := Lib.hid (src_row (w := wr.drew) HH.out HT.out (Nat.min k (n - k)) (Nat.min_le_left _ _) (by have := HL.out; omega))
      go_wp2_with fail
      go_region_law (refine step_copy_splice rfl (.tmp 41) (.tmp 44) 23 23 rfl 3 HU.out HZ.out (if n = k then some ⟨G, 0, none⟩ else some ⟨G, k, none⟩) (some ⟨G, 0, none⟩) (n - k) (n - k) k n (by simp [Act.eval, Act.put]) (by simp [Act.eval, Act.put]) G k cur 3 HH.out (List.replicate (Nat.min k (n - k)) (.int .i64 z)) (by simp) (fun _ => ⟨HNE.out, _, rfl, HSR.out⟩) (by have h1 := HL.out; have h2 : Nat.min k (n - k) ≤ n - k := Nat.min_le_right k (n - k); simp only [List.length_replicate]; omega) (by intro v hv; rw [List.eq_of_mem_replicate hv]; rfl) G w2 HB.out.drew (Nat.le_refl _) ?_; intro w4 HG4 hb4)
      go_wp2
      go_roundw
      case rel =>
        rw [rep_wrap hlt (by omega)]
        exact (RInv.next hlt hpk HL.out HT.out HG4.out hb4).1
      case measure =>
        rw [rep_wrap hlt (by omega)]
        exact (RInv.next hlt hpk HL.out HT.out HG4.out hb4).2
    · have hkn : k = n := by omega
      subst hkn
      go_wp2_with fail
      go_ret
      have hh := HH.out
      have hcur : cur = (List.replicate k z).map (.int .i64) := by
        have h1 := HT.out
        rw [List.take_of_length_le (by have := HL.out; omega)] at h1
        rw [h1]; simp
      rw [hcur] at hh
      exact ⟨G, rfl, Nat.le_trans hx1.size hG, SlI.made hh (by simp) (Nat.le_refl _), Below.trans (hx1.trans hx2) (Below.mono HB.out (Nat.le_trans hx1.size hG))⟩
/-- What is said of slices.Repeat: of one int. -/
theorem repeat_sp (n : Nat) (z : Int) (hn : n ≤ 1000000) (hz : inR z) : Sp 97 [dI [z], .int (n : Int)] [dI (List.replicate n z)] := by
  refine spec_of wfP Try.func97 (by kernel_rfl) (by kernel_rfl) (by kernel_rfl) (fun w M vs hM _ hlv hrd => ?_)
  have hps : Try.f97.params.toList = [23, 3] := by kernel_rfl
  have hlen : vs.length = 2 := by rw [hlv]; rfl
  match vs, hlen with
  | [va, vb], _ =>
    rw [hps] at hrd
    have hs := rd_slI (hrd 0 _ _ _ rfl rfl rfl)
    obtain ⟨rfl, _⟩ := rd_i64 (hrd 1 _ _ _ rfl rfl rfl)
    obtain ⟨A, c, rfl, _, _⟩ := hs.form
    refine (repeat_any A c n z w hn hs).mono ?_
    rintro e w' ⟨G, rfl, hG, hv, hx⟩
    refine ⟨[_], rfl, rfl, fun i t u ht hu => ?_, hx⟩
    rw [show Try.f97.resultTypes.toList = [23] by kernel_rfl] at ht
    match i with
    | 0 => cases ht; cases hu; exact row_rdI hv (by unfold maxLen; omega) (fun hm => by have := hM G hm; omega) (fun x hx => by rw [List.eq_of_mem_replicate hx]; exact hz)
    | i + 1 => simp at ht
end Go.Proofs.Ytcgfpibkajagjaa
set_option maxRecDepth 100000
namespace Go.Proofs.Ytcgfpibkajagjaa
/-! scrim/cut.Take -/
def cut_Take_orc : List (Nat × Orc) := [(7, ⟨[(2, none), (3, none), (4, none), (5, none), (7, some 23), (8, none), (26, some 23), (27, none), (28, none)], [(2, true), (3, true), (4, false), (5, false), (8, false)], [(.fld 8 [0], 1070, 3), (.fld 8 [1], 1071, 3)]⟩)]
def cut_Take_ps : List Nat := [26, 26]
def cut_Take_rs : List ResultVar := [.cell 4 26, .cell 5 29]
def cut_Take_ts : List Nat := [26, 29]
noncomputable def cut_Take_l7 (n m7 : Nat) (s7 : D) (t26 : D) (t27 : Int) (t28 : Int) (nn2 : D) (a3 : D) (r4_0 : Int) (e5 : Int) (w8_0 : List D) (w8_1 : List D) : Tree :=
  evLoop Try.prog md (ev Try.prog md n cut_Take_orc (cAt (bodyOf Try.prog 31) [1, 1, 1, 1, 1, 0, 1, 0, 0])) (orcAt cut_Take_orc 7) m7 ⟨[.undef, .undef, .ptr 2 [], .ptr 3 [], .ptr 4 [], .ptr 5 [], .undef, .d 23 s7, .ptr 8 [], .undef, .undef, .undef, .undef, .undef, .undef, .undef, .undef, .undef, .undef, .undef, .undef, .undef, .undef, .undef, .undef, .undef, .d 23 t26, .i .i64 t27, .i .i64 t28, .undef, .undef, .undef, .undef, .undef, .undef, .undef, .undef, .undef, .undef, .undef, .undef, .undef, .undef, .undef, .undef, .undef, .undef, .undef, .undef, .undef, .undef, .undef, .undef, .undef, .undef, .undef, .undef, .undef, .undef, .undef, .undef, .undef, .undef, .undef, .undef, .undef, .undef, .undef, .undef, .undef, .undef, .undef, .undef, .undef, .undef, .undef], [(2, .var 26 (.d 26 nn2) true), (3, .var 26 (.d 26 a3) true), (4, .var 26 (.agg 26 [.i .u64 r4_0, .mt, .mt]) true), (5, .var 29 (.i .i64 e5) true), (8, .var 81 (.agg 81 [.row 1070, .row 1071]) true), (1070, .row 3 w8_0 true), (1071, .row 3 w8_1 true)], [2, 3, 4, 5, 8, 1070, 1071], [(65, [.ptr 4 [], .ptr 5 []])], []⟩
   (blockK 0 (seqK (joinE Try.prog md (joinAt cut_Take_orc (cAt (bodyOf Try.prog 31) [1, 1, 1, 1, 1, 1])) (ev Try.prog md n cut_Take_orc (cAt (bodyOf Try.prog 31) [1, 1, 1, 1, 1, 1]))) (retK Try.prog md (md 31) cut_Take_ps cut_Take_rs cut_Take_ts)))
theorem cut_Take_l7_succ (n m7 : Nat) (s7 : D) (t26 : D) (t27 : Int) (t28 : Int) (nn2 : D) (a3 : D) (r4_0 : Int) (e5 : Int) (w8_0 : List D) (w8_1 : List D) : cut_Take_l7 n (m7 + 1) s7 t26 t27 t28 nn2 a3 r4_0 e5 w8_0 w8_1 =
 .br (decide (t28 < t27)) (.br (decide (0 ≤ t28)) (.br (decide (t28 < (t26.els.length : Int))) (.call 68 [] [D.int ((t26.els.getD (Int.toNat t28) D.nil).toInt)] fun yy3 =>
 .br (decide (0 ≤ t28)) (.br (decide (t28 < (w8_1.length : Int))) (.br (decide (((t26.els.getD (Int.toNat t28) D.nil).toInt) < 0)) (.br (decide (0 ≤ t28)) (.br (decide (t28 < (s7.els.length : Int))) (.br (decide (0 ≤ t28)) (.br (decide (t28 < ((w8_1.set (Int.toNat t28) (D.int ((yy3.getD 0 D.nil).toInt))).length : Int))) (.br (decide (0 ≤ t28)) (.br (decide (t28 < (w8_0.length : Int))) (cut_Take_l7 n m7 s7 t26 t27 (IntKind.wrap .i64 (t28 + 1)) nn2 a3 r4_0 e5 (w8_0.set (Int.toNat t28) (D.int (IntKind.wrap .i64 (((s7.els.getD (Int.toNat t28) D.nil).toInt) - (((w8_1.set (Int.toNat t28) (D.int ((yy3.getD 0 D.nil).toInt))).getD (Int.toNat t28) D.nil).toInt))))) (w8_1.set (Int.toNat t28) (D.int ((yy3.getD 0 D.nil).toInt)))) .fail) .fail) .fail) .fail) .fail) .fail)
 (cut_Take_l7 n m7 s7 t26 t27 (IntKind.wrap .i64 (t28 + 1)) nn2 a3 r4_0 e5 w8_0 (w8_1.set (Int.toNat t28) (D.int ((yy3.getD 0 D.nil).toInt))))) .fail) .fail) .fail) .fail)
 (.call 69 [] [D.sl w8_1] fun yy4 =>
 .br (((yy4.getD 1 D.nil).toInt) != 0) (.ret [D.agg [D.int 0, D.sl [], D.sl []], D.int ((yy4.getD 1 D.nil).toInt)])
 (.call 71 [] [D.agg [D.sl w8_0, D.sl w8_1], a3, s7, D.int ((yy4.getD 0 D.nil).toInt)] fun yy5 =>
 .call 70 [] [nn2, a3, D.sl w8_1, yy5.getD 0 D.nil] fun yy6 =>
 .ret [yy6.getD 0 D.nil, D.int 0])) := by kernel_rfl
theorem cut_Take_tree (n : Nat) (nn0 : D) (a1 : D) : evFun Try.prog md cut_Take_orc n 31 [] [nn0, a1] =
 .call 66 [] [nn0, a1] fun yy1 =>
 .br (((yy1.getD 2 D.nil).toInt) != 0) (.ret [D.agg [D.int 0, D.sl [], D.sl []], D.int ((yy1.getD 2 D.nil).toInt)])
 (.call 67 [] [yy1.getD 1 D.nil] fun yy2 =>
 cut_Take_l7 n n (yy1.getD 1 D.nil) (yy1.getD 0 D.nil) (((yy1.getD 0 D.nil).els).length : Int) 0 nn0 a1 0 ((yy1.getD 2 D.nil).toInt) (((yy2.getD 0 D.nil).fld 0).els) (((yy2.getD 0 D.nil).fld 1).els)) := by kernel_rfl

/-! scrim/cut.Drop -/
def cut_Drop_orc : List (Nat × Orc) := [(7, ⟨[(2, none), (3, none), (4, none), (5, none), (7, some 23), (8, none), (27, some 23), (28, none), (29, none)], [(2, true), (3, true), (4, false), (5, false), (8, false)], [(.fld 8 [0], 1070, 3), (.fld 8 [1], 1071, 3)]⟩)]
def cut_Drop_ps : List Nat := [26, 26]
def cut_Drop_rs : List ResultVar := [.cell 4 26, .cell 5 29]
def cut_Drop_ts : List Nat := [26, 29]
noncomputable def cut_Drop_l7 (n m7 : Nat) (s7 : D) (t27 : D) (t28 : Int) (t29 : Int) (nn2 : D) (a3 : D) (r4_0 : Int) (e5 : Int) (w8_0 : List D) (w8_1 : List D) : Tree :=
  evLoop Try.prog md (ev Try.prog md n cut_Drop_orc (cAt (bodyOf Try.prog 32) [1, 1, 1, 1, 1, 0, 1, 0, 0])) (orcAt cut_Drop_orc 7) m7 ⟨[.undef, .undef, .ptr 2 [], .ptr 3 [], .ptr 4 [], .ptr 5 [], .undef, .d 23 s7, .ptr 8 [], .undef, .undef, .undef, .undef, .undef, .undef, .undef, .undef, .undef, .undef, .undef, .undef, .undef, .undef, .undef, .undef, .undef, .undef, .d 23 t27, .i .i64 t28, .i .i64 t29, .undef, .undef, .undef, .undef, .undef, .undef, .undef, .undef, .undef, .undef, .undef, .undef, .undef, .undef, .undef, .undef, .undef, .undef, .undef, .undef, .undef, .undef, .undef, .undef, .undef, .undef, .undef, .undef, .undef, .undef, .undef, .undef, .undef, .undef, .undef, .undef, .undef, .undef, .undef, .undef, .undef, .undef, .undef, .undef, .undef, .undef, .undef, .undef, .undef], [(2, .var 26 (.d 26 nn2) true), (3, .var 26 (.d 26 a3) true), (4, .var 26 (.agg 26 [.i .u64 r4_0, .mt, .mt]) true), (5, .var 29 (.i .i64 e5) true), (8, .var 81 (.agg 81 [.row 1070, .row 1071]) true), (1070, .row 3 w8_0 true), (1071, .row 3 w8_1 true)], [2, 3, 4, 5, 8, 1070, 1071], [(72, [.ptr 4 [], .ptr 5 []])], []⟩
   (blockK 0 (seqK (joinE Try.prog md (joinAt cut_Drop_orc (cAt (bodyOf Try.prog 32) [1, 1, 1, 1, 1, 1])) (ev Try.prog md n cut_Drop_orc (cAt (bodyOf Try.prog 32) [1, 1, 1, 1, 1, 1]))) (retK Try.prog md (md 32) cut_Drop_ps cut_Drop_rs cut_Drop_ts)))
theorem cut_Drop_l7_succ (n m7 : Nat) (s7 : D) (t27 : D) (t28 : Int) (t29 : Int) (nn2 : D) (a3 : D) (r4_0 : Int) (e5 : Int) (w8_0 : List D) (w8_1 : List D) : cut_Drop_l7 n (m7 + 1) s7 t27 t28 t29 nn2 a3 r4_0 e5 w8_0 w8_1 =
 .br (decide (t29 < t28)) (.br (decide (0 ≤ t29)) (.br (decide (t29 < (t27.els.length : Int))) (.call 68 [] [D.int ((t27.els.getD (Int.toNat t29) D.nil).toInt)] fun yy3 =>
 .br (decide (0 ≤ t29)) (.br (decide (t29 < (s7.els.length : Int))) (.br (decide (0 ≤ t29)) (.br (decide (t29 < (s7.els.length : Int))) (.br (decide (0 ≤ t29)) (.br (decide (t29 < (w8_1.length : Int))) (.br (decide (0 < ((t27.els.getD (Int.toNat t29) D.nil).toInt))) (.br (decide (0 ≤ t29)) (.br (decide (t29 < (w8_0.length : Int))) (cut_Drop_l7 n m7 s7 t27 t28 (IntKind.wrap .i64 (t29 + 1)) nn2 a3 r4_0 e5 (w8_0.set (Int.toNat t29) (D.int (if ((s7.els.getD (Int.toNat t29) D.nil).toInt) < ((yy3.getD 0 D.nil).toInt) then ((s7.els.getD (Int.toNat t29) D.nil).toInt) else ((yy3.getD 0 D.nil).toInt)))) (w8_1.set (Int.toNat t29) (D.int (IntKind.wrap .i64 (((s7.els.getD (Int.toNat t29) D.nil).toInt) - (if ((s7.els.getD (Int.toNat t29) D.nil).toInt) < ((yy3.getD 0 D.nil).toInt) then ((s7.els.getD (Int.toNat t29) D.nil).toInt) else ((yy3.getD 0 D.nil).toInt))))))) .fail) .fail)
 (cut_Drop_l7 n m7 s7 t27 t28 (IntKind.wrap .i64 (t29 + 1)) nn2 a3 r4_0 e5 w8_0 (w8_1.set (Int.toNat t29) (D.int (IntKind.wrap .i64 (((s7.els.getD (Int.toNat t29) D.nil).toInt) - (if ((s7.els.getD (Int.toNat t29) D.nil).toInt) < ((yy3.getD 0 D.nil).toInt) then ((s7.els.getD (Int.toNat t29) D.nil).toInt) else ((yy3.getD 0 D.nil).toInt)))))))) .fail) .fail) .fail) .fail) .fail) .fail) .fail) .fail)
 (.call 69 [] [D.sl w8_1] fun yy4 =>
 .br (((yy4.getD 1 D.nil).toInt) != 0) (.ret [D.agg [D.int 0, D.sl [], D.sl []], D.int ((yy4.getD 1 D.nil).toInt)])
 (.call 71 [] [D.agg [D.sl w8_0, D.sl w8_1], a3, s7, D.int ((yy4.getD 0 D.nil).toInt)] fun yy5 =>
 .call 70 [] [nn2, a3, D.sl w8_1, yy5.getD 0 D.nil] fun yy6 =>
 .ret [yy6.getD 0 D.nil, D.int 0])) := by kernel_rfl
theorem cut_Drop_tree (n : Nat) (nn0 : D) (a1 : D) : evFun Try.prog md cut_Drop_orc n 32 [] [nn0, a1] =
 .call 66 [] [nn0, a1] fun yy1 =>
 .br (((yy1.getD 2 D.nil).toInt) != 0) (.ret [D.agg [D.int 0, D.sl [], D.sl []], D.int ((yy1.getD 2 D.nil).toInt)])
 (.call 67 [] [yy1.getD 1 D.nil] fun yy2 =>
 cut_Drop_l7 n n (yy1.getD 1 D.nil) (yy1.getD 0 D.nil) (((yy1.getD 0 D.nil).els).length : Int) 0 nn0 a1 0 ((yy1.getD 2 D.nil).toInt) (((yy2.getD 0 D.nil).fld 0).els) (((yy2.getD 0 D.nil).fld 1).els)) := by kernel_rfl

/-! scrim/cut.axes -/
def cut_axes_orc : List (Nat × Orc) := []
theorem cut_axes_tree (n : Nat) (nn0 : D) (a1 : D) : evFun Try.prog md cut_axes_orc n 66 [] [nn0, a1] =
 .call 61 [] [nn0] fun yy1 =>
 .br (((yy1.getD 1 D.nil).toInt) != 0) (.ret [D.sl [], D.sl [], D.int ((yy1.getD 1 D.nil).toInt)])
 (.br (decide (0 < (((a1.fld 1).els).length : Int))) (.br (decide ((((a1.fld 1).els).length : Int) < (((yy1.getD 0 D.nil).els).length : Int))) (.ret [D.sl [], D.sl [], D.int 4])
 (.call 96 [] [a1.fld 1] fun yy2 =>
 .ret [yy1.getD 0 D.nil, D.sl ((yy2.getD 0 D.nil).els), D.int 0]))
 (.br (decide (6 < (((yy1.getD 0 D.nil).els).length : Int))) (.ret [D.sl [], D.sl [], D.int 7])
 (.call 97 [] [D.sl [D.int 1], D.int (((yy1.getD 0 D.nil).els).length : Int)] fun yy3 =>
 .ret [yy1.getD 0 D.nil, yy3.getD 0 D.nil, D.int 0]))) := by kernel_rfl

/-! scrim/cut.open -/
def cut_open_orc : List (Nat × Orc) := []
theorem cut_open_tree (n : Nat) (s0 : D) : evFun Try.prog md cut_open_orc n 67 [] [s0] =
 .br (decide (0 ≤ (s0.els.length : Int))) (.br (decide ((s0.els.length : Int) ≤ (s0.els.length : Int))) (.br (decide ((s0.els.length : Int) ≤ bigN)) (.call 96 [] [s0] fun yy1 =>
 .ret [D.agg [D.sl (List.replicate (Int.toNat (s0.els.length : Int)) (D.int 0)), D.sl ((yy1.getD 0 D.nil).els)]]) .fail) .fail) .fail := by kernel_rfl

/-! scrim/cut.great -/
def cut_great_orc : List (Nat × Orc) := []
theorem cut_great_tree (n : Nat) (k0 : D) : evFun Try.prog md cut_great_orc n 68 [] [k0] =
 .br (decide (2049 < k0.toInt)) (.ret [D.int 2049])
 (.br (decide (k0.toInt < (-2049))) (.ret [D.int 2049])
 (.ret [D.int (if k0.toInt < (IntKind.wrap .i64 (0 - k0.toInt)) then (IntKind.wrap .i64 (0 - k0.toInt)) else k0.toInt)])) := by kernel_rfl

/-! scrim/cut.told -/
def cut_told_orc : List (Nat × Orc) := []
theorem cut_told_tree (n : Nat) (nn0 : D) (a1 : D) (s2 : D) (cells3 : D) : evFun Try.prog md cut_told_orc n 70 [] [nn0, a1, s2, cells3] =
 .call 53 [] [nn0] fun yy1 =>
 .call 78 [] [D.int ((a1.fld 0).toInt), D.int ((yy1.getD 0 D.nil).toInt)] fun yy2 =>
 .ret [D.agg [D.int ((yy2.getD 0 D.nil).toInt), s2, cells3]] := by kernel_rfl

/-! (scrim/cut.window).seen -/
def cut_window_seen_orc : List (Nat × Orc) := [(4, ⟨[(2, some 23), (4, none), (5, none), (9, none), (10, none), (21, none), (22, none)], [(4, true), (5, true), (9, true)], [(.slot 10, 1040, 52)]⟩), (8, ⟨[(2, some 23), (4, none), (5, none), (9, none), (10, none), (12, none), (21, none), (22, none), (33, none), (34, none)], [(4, true), (5, true), (9, true)], [(.slot 10, 1080, 52), (.slot 12, 1081, 3)]⟩)]
def cut_window_seen_ps : List Nat := [81, 26, 23, 3]
def cut_window_seen_rs : List ResultVar := [.tmp 8]
def cut_window_seen_ts : List Nat := [24]
noncomputable def cut_window_seen_l8 (n m4 m8 : Nat) (s2 : D) (r10 : List D) (at12 : List D) (t21 : Int) (t22 : Int) (t33 : Int) (t34 : Int) (w4 : D) (a5 : D) (fill9 : D) : Tree :=
  evLoop Try.prog md (ev Try.prog md n cut_window_seen_orc (cAt (bodyOf Try.prog 71) [1, 1, 1, 0, 1, 0, 0, 1, 1, 0, 0, 1, 1, 0, 1, 0, 0])) (orcAt cut_window_seen_orc 8) m8 ⟨[.undef, .undef, .d 23 s2, .undef, .ptr 4 [], .ptr 5 [], .undef, .undef, .undef, .ptr 9 [], .row 1080, .undef, .row 1081, .undef, .undef, .undef, .undef, .undef, .undef, .undef, .undef, .i .i64 t21, .i .i64 t22, .undef, .undef, .undef, .undef, .undef, .undef, .undef, .undef, .undef, .undef, .i .i64 t33, .i .i64 t34, .undef, .undef, .undef, .undef, .undef, .undef, .undef, .undef, .undef, .undef, .undef, .undef, .undef, .undef, .undef, .undef, .undef, .undef, .undef, .undef, .undef, .undef, .undef, .undef, .undef, .undef, .undef, .undef, .undef, .undef, .undef, .undef, .undef, .undef, .undef], [(4, .var 81 (.d 81 w4) true), (5, .var 26 (.d 26 a5) true), (9, .var 52 (.d 52 fill9) true), (1080, .row 52 r10 true), (1081, .row 3 at12 true)], [4, 5, 9, 1080, 1081], [], []⟩
   (blockK 2 (seqK (joinE Try.prog md (joinAt cut_window_seen_orc (cAt (bodyOf Try.prog 71) [1, 1, 1, 0, 1, 0, 0, 1, 1, 0, 0, 1, 1, 1])) (ev Try.prog md n cut_window_seen_orc (cAt (bodyOf Try.prog 71) [1, 1, 1, 0, 1, 0, 0, 1, 1, 0, 0, 1, 1, 1]))) (blockK 1 (seqK (joinE Try.prog md (joinAt cut_window_seen_orc (cAt (bodyOf Try.prog 71) [1, 1, 1, 0, 1, 0, 0, 1, 1, 1])) (ev Try.prog md n cut_window_seen_orc (cAt (bodyOf Try.prog 71) [1, 1, 1, 0, 1, 0, 0, 1, 1, 1]))) (loopK Try.prog md (orcAt cut_window_seen_orc 4) (fun s1 => evLoop Try.prog md (ev Try.prog md n cut_window_seen_orc (cAt (bodyOf Try.prog 71) [1, 1, 1, 0, 1, 0, 0])) (orcAt cut_window_seen_orc 4) m4 s1 (blockK 0 (seqK (joinE Try.prog md (joinAt cut_window_seen_orc (cAt (bodyOf Try.prog 71) [1, 1, 1, 1])) (ev Try.prog md n cut_window_seen_orc (cAt (bodyOf Try.prog 71) [1, 1, 1, 1]))) (retK Try.prog md (md 71) cut_window_seen_ps cut_window_seen_rs cut_window_seen_ts)))) (blockK 0 (seqK (joinE Try.prog md (joinAt cut_window_seen_orc (cAt (bodyOf Try.prog 71) [1, 1, 1, 1])) (ev Try.prog md n cut_window_seen_orc (cAt (bodyOf Try.prog 71) [1, 1, 1, 1]))) (retK Try.prog md (md 71) cut_window_seen_ps cut_window_seen_rs cut_window_seen_ts))))))))
noncomputable def cut_window_seen_l4 (n m4 : Nat) (s2 : D) (r10 : List D) (t21 : Int) (t22 : Int) (w4 : D) (a5 : D) (fill9 : D) : Tree :=
  evLoop Try.prog md (ev Try.prog md n cut_window_seen_orc (cAt (bodyOf Try.prog 71) [1, 1, 1, 0, 1, 0, 0])) (orcAt cut_window_seen_orc 4) m4 ⟨[.undef, .undef, .d 23 s2, .undef, .ptr 4 [], .ptr 5 [], .undef, .undef, .undef, .ptr 9 [], .row 1040, .undef, .undef, .undef, .undef, .undef, .undef, .undef, .undef, .undef, .undef, .i .i64 t21, .i .i64 t22, .undef, .undef, .undef, .undef, .undef, .undef, .undef, .undef, .undef, .undef, .undef, .undef, .undef, .undef, .undef, .undef, .undef, .undef, .undef, .undef, .undef, .undef, .undef, .undef, .undef, .undef, .undef, .undef, .undef, .undef, .undef, .undef, .undef, .undef, .undef, .undef, .undef, .undef, .undef, .undef, .undef, .undef, .undef, .undef, .undef, .undef, .undef], [(4, .var 81 (.d 81 w4) true), (5, .var 26 (.d 26 a5) true), (9, .var 52 (.d 52 fill9) true), (1040, .row 52 r10 true)], [4, 5, 9, 1040], [], []⟩
   (blockK 0 (seqK (joinE Try.prog md (joinAt cut_window_seen_orc (cAt (bodyOf Try.prog 71) [1, 1, 1, 1])) (ev Try.prog md n cut_window_seen_orc (cAt (bodyOf Try.prog 71) [1, 1, 1, 1]))) (retK Try.prog md (md 71) cut_window_seen_ps cut_window_seen_rs cut_window_seen_ts)))
theorem cut_window_seen_l8_succ (n m4 m8 : Nat) (s2 : D) (r10 : List D) (at12 : List D) (t21 : Int) (t22 : Int) (t33 : Int) (t34 : Int) (w4 : D) (a5 : D) (fill9 : D) : cut_window_seen_l8 n m4 (m8 + 1) s2 r10 at12 t21 t22 t33 t34 w4 a5 fill9 =
 .br (decide (t34 < t33)) (.br (decide (0 ≤ t34)) (.br (decide (t34 < (at12.length : Int))) (.br (decide (0 ≤ t34)) (.br (decide (t34 < (((w4.fld 0).els).length : Int))) (.br (decide (0 ≤ t34)) (.br (decide (t34 < (at12.length : Int))) (cut_window_seen_l8 n m4 m8 s2 r10 (at12.set (Int.toNat t34) (D.int (IntKind.wrap .i64 (((at12.getD (Int.toNat t34) D.nil).toInt) + ((((w4.fld 0).els).getD (Int.toNat t34) D.nil).toInt))))) t21 t22 t33 (IntKind.wrap .i64 (t34 + 1)) w4 a5 fill9) .fail) .fail) .fail) .fail) .fail) .fail)
 (.call 105 [] [s2, D.sl at12] fun yy3 =>
 .br ((yy3.getD 1 D.nil).toBool) (.br (decide (0 ≤ (yy3.getD 0 D.nil).toInt)) (.br (decide ((yy3.getD 0 D.nil).toInt < (((a5.fld 2).els).length : Int))) (.br (decide (r10.length + [((a5.fld 2).els).getD (Int.toNat ((yy3.getD 0 D.nil).toInt)) D.nil].length ≤ bigN)) (cut_window_seen_l4 n m4 s2 (r10 ++ [((a5.fld 2).els).getD (Int.toNat ((yy3.getD 0 D.nil).toInt)) D.nil]) t21 (IntKind.wrap .i64 (t22 + 1)) w4 a5 fill9) .fail) .fail) .fail)
 (.br (decide (r10.length + [fill9].length ≤ bigN)) (cut_window_seen_l4 n m4 s2 (r10 ++ [fill9]) t21 (IntKind.wrap .i64 (t22 + 1)) w4 a5 fill9) .fail)) := by kernel_rfl
theorem cut_window_seen_l4_succ (n m4 : Nat) (s2 : D) (r10 : List D) (t21 : Int) (t22 : Int) (w4 : D) (a5 : D) (fill9 : D) : cut_window_seen_l4 n (m4 + 1) s2 r10 t21 t22 w4 a5 fill9 =
 .br (decide (t22 < t21)) (.call 104 [] [w4.fld 1, D.int t22] fun yy2 =>
 cut_window_seen_l8 n m4 n s2 r10 ((yy2.getD 0 D.nil).els) t21 t22 (((yy2.getD 0 D.nil).els).length : Int) 0 w4 a5 fill9)
 (.ret [D.sl r10]) := by kernel_rfl
theorem cut_window_seen_tree (n : Nat) (w0 : D) (a1 : D) (s2 : D) (count3 : D) : evFun Try.prog md cut_window_seen_orc n 71 [] [w0, a1, s2, count3] =
 .call 103 [] [a1] fun yy1 =>
 .br (decide (0 ≤ 0)) (.br (decide (0 ≤ count3.toInt)) (.br (decide (count3.toInt ≤ bigN)) (cut_window_seen_l4 n n s2 (List.replicate (Int.toNat 0) (D.agg [D.int 0, D.int 0, D.agg [D.bool false, D.sl [], D.sl []], D.int 0, D.sl []])) count3.toInt 0 w0 a1 (yy1.getD 0 D.nil)) .fail) .fail) .fail := by kernel_rfl

end Go.Proofs.Ytcgfpibkajagjaa
set_option maxRecDepth 100000
namespace Go.Proofs.Ytcgfpibkajagjaa

/-- The places along all axes, from the last one on. -/
def digR : List Int → Int → List Int
  | [], _ => []
  | x :: xs, n => Int.tmod n x :: digR xs (Int.tdiv n x)
def atS (s : List Int) (n : Int) : List Int := (digR s.reverse n).reverse
theorem digR_len : ∀ (l : List Int) (n : Int), (digR l n).length = l.length
  | [], _ => rfl
  | x :: xs, n => by simp [digR, digR_len xs]
theorem atS_len (s : List Int) (n : Int) : (atS s n).length = s.length := by simp [atS, digR_len]
theorem digR_range : ∀ (l : List Int) (n : Int), (∀ x ∈ l, 1 ≤ x ∧ x ≤ 2048) → 0 ≤ n → ∀ y ∈ digR l n, 0 ≤ y ∧ y ≤ 2048
  | [], _, _, _ => by simp [digR]
  | x :: xs, n, h, hn => by
    intro y hy
    have hx := h x (by simp)
    simp only [digR, List.mem_cons] at hy
    rcases hy with rfl | hy
    · have := Int.tmod_lt_of_pos n (show 0 < x by omega)
      have := Int.tmod_nonneg x hn
      omega
    · exact digR_range xs _ (fun z hz => h z (by simp [hz])) (Int.tdiv_nonneg hn (by omega)) y hy
theorem atS_range {s : List Int} {n : Int} (h : ∀ x ∈ s, 1 ≤ x ∧ x ≤ 2048) (hn : 0 ≤ n) : ∀ y ∈ atS s n, 0 ≤ y ∧ y ≤ 2048 := fun y hy => digR_range s.reverse n (fun x hx => h x (by simpa using hx)) hn y (by simpa [atS] using hy)
/-- Which cell stands at a place. -/
def idxW : List Int → List Int → Int → Option Int
  | [], _, o => some o
  | _ :: _, [], _ => none
  | x :: xs, a :: as_, o => if a < 0 ∨ x ≤ a then none else idxW xs as_ (IntKind.wrap .i64 (IntKind.wrap .i64 (o * x) + a))
def idxS (s at_ : List Int) : Option Int := if (countS s).2 = 0 ∧ at_.length = s.length then idxW s at_ 0 else none
theorem idxW_zero : ∀ {s at_ : List Int} {o : Int}, (0 : Int) ∈ s → idxW s at_ o = none
  | x :: xs, [], o, _ => rfl
  | x :: xs, a :: as_, o, h => by
    simp only [idxW]
    split
    · rfl
    · rename_i hc
      rcases List.mem_cons.1 h with h | h
      · subst h; omega
      · exact idxW_zero h
theorem prodS_ne {x : Int} {xs : List Int} {p : Int} (h : prodS (x :: xs) p ≠ 0) : p * x ≤ 2048 ∧ prodS xs (p * x) ≠ 0 := by
  rw [prodS_cons] at h
  split at h
  · exact absurd rfl h
  · exact ⟨by omega, h⟩
theorem idxW_lt : ∀ {s at_ : List Int} {o p k : Int}, (∀ x ∈ s, 1 ≤ x ∧ x ≤ 2048) → 0 ≤ o → o < p → p ≤ 2048 → prodS s p ≠ 0 → idxW s at_ o = some k → 0 ≤ k ∧ k < prodS s p
  | [], at_, o, p, k, _, h0, h1, _, _, h => by
    simp only [idxW, Option.some.injEq] at h
    subst h
    exact ⟨h0, h1⟩
  | x :: xs, [], o, p, k, _, _, _, _, _, h => by simp [idxW] at h
  | x :: xs, a :: as_, o, p, k, hx, h0, h1, h2, hp, h => by
    simp only [idxW] at h
    split at h
    · cases h
    · rename_i hc
      have hxx := hx x (by simp)
      obtain ⟨q1, q2⟩ := prodS_ne hp
      have m1 : (o + 1) * x ≤ p * x := Int.mul_le_mul_of_nonneg_right (by omega) (by omega)
      have m2 : 0 ≤ o * x := Int.mul_nonneg h0 (by omega)
      rw [Int.add_mul, Int.one_mul] at m1
      rw [wrap64 (x := o * x) (by omega) (by omega), wrap64 (by omega) (by omega)] at h
      have := idxW_lt (s := xs) (p := p * x) (fun y hy => hx y (by simp [hy])) (by omega) (by omega) q1 q2 h
      rw [prodS_cons, if_neg (by omega)]
      exact this
theorem countS_cases {s : List Int} {c : Int} (h : countS s = (c, 0)) : s.length ≤ 6 ∧ (((0 : Int) ∈ s ∧ c = 0) ∨ ((∀ x ∈ s, 1 ≤ x ∧ x ≤ 2048) ∧ prodS s 1 = c ∧ c ≠ 0)) := by
  unfold countS at h
  split at h
  · cases h
  split at h
  · cases h
  split at h
  · cases h
  · rename_i h1 h2 h3
    refine ⟨by omega, ?_⟩
    split at h
    · rename_i h4
      obtain ⟨x, hx, h5⟩ := List.any_eq_true.1 h4
      have : x = 0 := by simpa using h5
      subst this
      exact .inl ⟨hx, by injection h with h; exact h.symm⟩
    · rename_i h4
      split at h
      · cases h
      · rename_i h5
        injection h with h
        exact .inr ⟨count_pos h2 h3 h4, h, by omega⟩
theorem idxS_lt {s at_ : List Int} {c k : Int} (hc : countS s = (c, 0)) (h : idxS s at_ = some k) : 0 ≤ k ∧ k < c := by
  unfold idxS at h
  split at h
  · rcases (countS_cases hc).2 with ⟨h0, _⟩ | ⟨h1, h2, h3⟩
    · rw [idxW_zero h0] at h; cases h
    · rw [← h2]
      exact idxW_lt h1 (by omega) (by omega) (by omega) (by rw [h2]; exact h3) h
  · cases h
theorem wrap_pr1 {k : Nat} (h : k ≤ 9223372036854775807) : IntKind.wrap .i64 ((k : Int) - 1) = (k : Int) - 1 := wrap64 (by omega) (by omega)
theorem getElem?_take_succ {l : List Int} {k : Nat} {x : Int} (h : l[k]? = some x) : l.take (k + 1) = l.take k ++ [x] := by
  rw [List.take_add_one, h]; rfl
def atD (s : List Int) (n : Int) : List D := if (countS s).2 = 0 ∧ 0 ≤ n ∧ n < (countS s).1 then [dI (atS s n), .bool true] else [.sl [], .bool false]
theorem drop_set_eq (out : List Int) (k : Nat) (v : Int) (h : k < out.length) : (out.set k v).drop k = v :: out.drop (k + 1) := by
  rw [List.drop_eq_getElem_cons (by simpa using h)]
  simp [List.drop_set]
theorem shape_At_sp (s : List Int) (n : Int) : Sp 104 [dI s, .int n] (atD s n) := by
  refine sound_ (s.length + 1) (shape_At_tree _ _ _) (wp_call (shape_Count_sp s) ?_)
  unfold atD
  simp only [dA_0, dA_1, dA_2, dC_0, dC_1, dC_2, dC_3, dC_4, dN_0, dN_1, dN_2, els_sl, els_dI, els_dL, List.length_map, Int.toNat_natCast, toInt_int, toInt_dB, toBool_bool, getD_c0, getD_c1, int_beq, int_bne, not_dec, dInt_dB, Int.toNat_zero]
  refine wp_decs (fun h => wp_ret (by rw [if_neg (fun hh => h hh.1)])) (fun h => wp_decs (fun h1 => wp_ret (by rw [if_neg (by omega)])) (fun h1 => wp_decs (fun h2 => wp_ret (by rw [if_neg (by omega)])) (fun h2 => ?_)))
  have hc0 : (countS s).2 = 0 := Classical.not_not.1 h
  rw [if_pos ⟨hc0, by omega, by omega⟩]
  obtain ⟨c1, c2⟩ := countS_cases (s := s) (c := (countS s).1) (by rw [← hc0])
  have hpos : ∀ x ∈ s, 1 ≤ x ∧ x ≤ 2048 := by
    rcases c2 with ⟨_, c2⟩ | ⟨c2, _⟩
    · omega
    · exact c2
  have hle := (countS_le s).2
  refine wp_dec (by omega) (wp_dec (by omega) (wp_dec (by simp only [bigN]; omega) ?_))
  have key := loop_down (P := Try.prog) (md := md) (fun m k (st : Int × List Int) => shape_At_l6 (s.length + 1) m (dI s) st.1 (st.2.map D.int) ((k : Int) - 1)) (fun k st => [dI ((digR (s.take k).reverse st.1).reverse ++ st.2.drop k), .bool true]) (fun k st => k ≤ s.length ∧ st.2.length = s.length ∧ 0 ≤ st.1 ∧ st.1 ≤ 2048)
    (fun m st hI => by
      simp only [shape_At_l6_succ]
      refine wp_ndec (by omega) (wp_ret ?_)
      simp [digR, dI])
    (fun m k st hI ih => by
      obtain ⟨i1, i2, i3, i4⟩ := hI
      have hg : s[k]? = some s[k] := List.getElem?_eq_getElem (by omega)
      have hx := hpos _ (List.mem_of_getElem? hg)
      generalize s[k] = x at hg hx
      have e : ((k + 1 : Nat) : Int) - 1 = (k : Int) := by omega
      have m1 : 0 ≤ Int.tdiv st.1 x := Int.tdiv_nonneg i3 (by omega)
      have m2 : Int.tdiv st.1 x ≤ st.1 := by rw [Int.tdiv_eq_ediv_of_nonneg i3]; exact Int.ediv_le_self _ i3
      simp only [shape_At_l6_succ, dA_0, dA_1, dA_2, dC_0, dC_1, dC_2, dC_3, dC_4, dN_0, dN_1, dN_2, els_sl, els_dI, els_dL, List.length_map, Int.toNat_natCast, toInt_int, toInt_dB, toBool_bool, getD_c0, getD_c1, int_beq, int_bne, not_dec, dInt_dB, Int.toNat_zero, e, getD_map hg]
      have hb : (!decide (x = 0)) = true := by simp; omega
      rw [wrap_pr1 (by omega), wrap64 (x := Int.tdiv st.1 x) (by omega) (by omega)]
      refine wp_dec (by omega) (wp_dec (by omega) (wp_dec (by omega) (wp_dec (by omega) (wp_dec (by omega) (wp_dec (by omega) (wp_dec (by omega) (wp_dec (by omega) (wp_dec (by omega) ?_))))))))
      have := ih (Int.tdiv st.1 x, st.2.set k (Int.tmod st.1 x)) ⟨by omega, by simpa using i2, m1, by omega⟩
      rw [List.map_set] at this
      refine Tree.wp_mono this (fun ys hy => hy.trans ?_)
      simp only
      rw [drop_set_eq _ _ _ (by omega), getElem?_take_succ hg, List.reverse_append, List.reverse_cons, List.reverse_nil, List.nil_append, List.singleton_append, digR, List.reverse_cons]
      simp)
    (s.length + 1) s.length (n, List.replicate s.length 0) (by omega) ⟨by omega, by simp, by omega, by omega⟩
  rw [wrap_pr1 (by omega)]
  have e2 : List.replicate s.length (D.int 0) = (List.replicate s.length (0 : Int)).map D.int := by simp
  rw [e2]
  refine Tree.wp_mono key (fun ys hy => hy.trans ?_)
  simp [atS]
def idxD2 (o : Option Int) : List D := match o with | some k => [.int k, .bool true] | none => [.int 0, .bool false]
theorem shape_Index_sp (s at_ : List Int) (hl : at_.length ≤ 1000000) : Sp 105 [dI s, dI at_] (idxD2 (idxS s at_)) := by
  refine sound_ (s.length + 1) (shape_Index_tree _ _ _) (wp_call (shape_Count_sp s) ?_)
  unfold idxS
  simp only [dA_0, dA_1, dA_2, dC_0, dC_1, dC_2, dC_3, dC_4, dN_0, dN_1, dN_2, els_sl, els_dI, els_dL, List.length_map, Int.toNat_natCast, toInt_int, toInt_dB, toBool_bool, getD_c0, getD_c1, int_beq, int_bne, not_dec, dInt_dB, Int.toNat_zero]
  refine wp_decs (fun h => wp_ret (by rw [if_neg (fun hh => h hh.1)]; rfl)) (fun h => wp_decs (fun h1 => wp_ret (by rw [if_neg (by omega)]; rfl)) (fun h1 => ?_))
  rw [if_pos ⟨Classical.not_not.1 h, by omega⟩]
  have key := loop_list (P := Try.prog) (md := md) s (fun m k (o : Int) => shape_Index_l6 (s.length + 1) m (dI at_) o (dI s) (s.length : Int) (k : Int)) (fun rest o => idxD2 (idxW rest (at_.drop (s.length - rest.length)) o)) (fun _ _ => True)
    (fun m k o hk _ => by
      simp only [shape_Index_l6_succ]
      exact wp_ndec (by omega) (wp_ret rfl))
    (fun m k o x rest hdr _ ih => by
      obtain ⟨h4, h2, h3⟩ := drop_cons hdr
      have hle := congrArg List.length hdr
      rw [List.length_drop, List.length_cons] at hle
      have hg : at_[k]? = some at_[k] := List.getElem?_eq_getElem (by omega)
      have hd : at_.drop k = at_[k] :: at_.drop (k + 1) := List.drop_eq_getElem_cons (by omega)
      generalize at_[k] = a at hg hd
      rw [show s.length - (x :: rest).length = k by rw [List.length_cons]; omega, hd]
      have ih' := fun o' => ih o' trivial
      rw [show s.length - rest.length = k + 1 by omega] at ih'
      simp only [shape_Index_l6_succ, dA_0, dA_1, dA_2, dC_0, dC_1, dC_2, dC_3, dC_4, dN_0, dN_1, dN_2, els_sl, els_dI, els_dL, List.length_map, Int.toNat_natCast, toInt_int, toInt_dB, toBool_bool, getD_c0, getD_c1, int_beq, int_bne, not_dec, dInt_dB, Int.toNat_zero, getD_map h2, getD_map hg, wrap_succ (show k < 9223372036854775807 by omega), idxW]
      refine wp_dec (by omega) (wp_dec (by omega) (wp_dec (by omega) (wp_dec (by omega) (wp_dec (by omega) (wp_decs (fun g => wp_ret (by rw [if_pos (.inl g)]; rfl)) (fun g => wp_dec (by omega) (wp_dec (by omega) (wp_decs (fun g2 => wp_ret (by rw [if_pos (.inr g2)]; rfl)) (fun g2 => wp_dec (by omega) (wp_dec (by omega) ?_))))))))))
      rw [if_neg (by omega)]
      exact ih' _)
    (s.length + 1) 0 0 (by omega) (by omega) trivial
  simpa using key
/-- A number without its sign. -/
def greatS (k : Int) : Int := if 2049 < k then 2049 else if k < -2049 then 2049 else if k < 0 - k then 0 - k else k
theorem greatS_le (k : Int) : 0 ≤ greatS k ∧ greatS k ≤ 2049 := by unfold greatS; split; · omega
                                                                   split; · omega
                                                                   split <;> omega
def axesS (n a : Arr) : List Int × List Int × Int :=
  if (intsA n).2 = 0 then (if 0 < a.shape.length then (if a.shape.length < (intsA n).1.length then ([], [], 4) else ((intsA n).1, a.shape, 0)) else if 6 < (intsA n).1.length then ([], [], 7) else ((intsA n).1, List.replicate (intsA n).1.length 1, 0)) else ([], [], (intsA n).2)
def fromT : List Int → List Int → List Int
  | k :: l, x :: s => (if k < 0 then x - greatS k else 0) :: fromT l s
  | _, s => List.replicate s.length 0
def sizeT : List Int → List Int → List Int
  | k :: l, _ :: s => greatS k :: sizeT l s
  | _, s => s
def offS (k x : Int) : Int := if x < greatS k then x else greatS k
def fromD : List Int → List Int → List Int
  | k :: l, x :: s => (if 0 < k then offS k x else 0) :: fromD l s
  | _, s => List.replicate s.length 0
def sizeD : List Int → List Int → List Int
  | k :: l, x :: s => (x - offS k x) :: sizeD l s
  | _, s => s
theorem fromT_len : ∀ l s, (fromT l s).length = s.length
  | k :: l, x :: s => by simp [fromT, fromT_len l s]
  | [], s => by simp [fromT]
  | k :: l, [] => by simp [fromT]
theorem sizeT_len : ∀ l s, (sizeT l s).length = s.length
  | k :: l, x :: s => by simp [sizeT, sizeT_len l s]
  | [], s => by simp [sizeT]
  | k :: l, [] => by simp [sizeT]
theorem fromD_len : ∀ l s, (fromD l s).length = s.length
  | k :: l, x :: s => by simp [fromD, fromD_len l s]
  | [], s => by simp [fromD]
  | k :: l, [] => by simp [fromD]
theorem sizeD_len : ∀ l s, (sizeD l s).length = s.length
  | k :: l, x :: s => by simp [sizeD, sizeD_len l s]
  | [], s => by simp [sizeD]
  | k :: l, [] => by simp [sizeD]
/-- The place in the array. -/
def addW : List Int → List Int → List Int
  | a :: as_, f :: fs => IntKind.wrap .i64 (a + f) :: addW as_ fs
  | _, _ => []
theorem addW_len : ∀ a f, a.length ≤ f.length → (addW a f).length = a.length
  | a :: as_, f :: fs, h => by simp [addW, addW_len as_ fs (by simpa using h)]
  | [], f, h => by simp [addW]
  | a :: as_, [], h => by simp at h
def seenC (cs : List Cell) (fill : Cell) (s from_ size : List Int) (i : Nat) : Cell := match idxS s (addW (atS size (i : Int)) from_) with
  | some k => cs.getD k.toNat fill
  | none => fill
def seenS (a : Arr) (s from_ size : List Int) (K : Nat) : List Cell := (List.range K).map (seenC a.cells (fillC a) s from_ size)
def cutS (n a : Arr) (s from_ size : List Int) : Arr × Int := if (countS size).2 = 0 then (.mk (a.s ||| totA n) size (seenS a s from_ size (countS size).1.toNat), 0) else (.none, (countS size).2)
def takeA (n a : Arr) : Arr × Int := if (axesS n a).2.2 = 0 then cutS n a (axesS n a).2.1 (fromT (axesS n a).1 (axesS n a).2.1) (sizeT (axesS n a).1 (axesS n a).2.1) else (.none, (axesS n a).2.2)
def dropA (n a : Arr) : Arr × Int := if (axesS n a).2.2 = 0 then cutS n a (axesS n a).2.1 (fromD (axesS n a).1 (axesS n a).2.1) (sizeD (axesS n a).1 (axesS n a).2.1) else (.none, (axesS n a).2.2)
theorem axesS_len {n a : Arr} (h : (axesS n a).2.2 = 0) (ha : a.shape.length ≤ 6) : (axesS n a).1.length ≤ (axesS n a).2.1.length ∧ (axesS n a).2.1.length ≤ 6 := by
  unfold axesS at h ⊢
  split at h
  · rename_i h1
    rw [if_pos h1]
    split at h
    · rename_i h2
      rw [if_pos h2]
      split at h
      · cases h
      · rename_i h3; rw [if_neg h3]; simp only; omega
    · rename_i h2
      rw [if_neg h2]
      split at h
      · cases h
      · rename_i h3; rw [if_neg h3]; simp only [List.length_replicate]; omega
  · rename_i h1; exact absurd h h1
theorem countS_ones : ∀ k : Nat, k ≤ 6 → countS (List.replicate k 1) = (1, 0) := by decide
/-- The shape that is looked at has the array's cells. -/
theorem axesS_count {n a : Arr} (h : (axesS n a).2.2 = 0) (ha : countS a.shape = ((a.cells.length : Int), 0)) : countS (axesS n a).2.1 = ((a.cells.length : Int), 0) := by
  unfold axesS at h ⊢
  split at h
  · rename_i h1
    rw [if_pos h1]
    split at h
    · rename_i h2
      rw [if_pos h2]
      split at h
      · cases h
      · rename_i h3; rw [if_neg h3]; exact ha
    · rename_i h2
      rw [if_neg h2]
      split at h
      · cases h
      · rename_i h3
        rw [if_neg h3]
        simp only
        rw [countS_ones _ (by omega)]
        have : a.shape = [] := List.length_eq_zero_iff.1 (by omega)
        rw [this] at ha
        have e : countS [] = (1, 0) := by decide
        rw [e] at ha
        exact ha
  · rename_i h1; exact absurd h h1
theorem cut_great_sp (k : Int) : Sp 68 [.int k] [.int (greatS k)] := by
  refine sound_ 0 (cut_great_tree _ _) ?_
  unfold greatS
  simp only [dA_0, dA_1, dA_2, dC_0, dC_1, dC_2, dC_3, dC_4, dN_0, dN_1, dN_2, els_sl, els_dI, els_dL, List.length_map, Int.toNat_natCast, toInt_int, toInt_dB, toBool_bool, getD_c0, getD_c1, int_beq, int_bne, not_dec, dInt_dB, Int.toNat_zero]
  refine wp_decs (fun h => wp_ret (by rw [if_pos h])) (fun h => wp_decs (fun h1 => wp_ret (by rw [if_neg h, if_pos h1])) (fun h1 => wp_ret ?_))
  rw [if_neg h, if_neg h1]
  have e : IntKind.wrap .i64 (0 - k) = 0 - k := wrap64 (by omega) (by omega)
  simp only [toInt_int, e]
theorem cut_axes_sp (n a : Arr) (hn : Fits n) (hnl : n.cells.length ≤ 2048) (hnt : ∀ c ∈ n.cells, c.n.top.length ≤ 32) (ha : a.shape.length ≤ 1048576) : Sp 66 [dA n, dA a] [dI (axesS n a).1, dI (axesS n a).2.1, .int (axesS n a).2.2] := by
  refine sound_ 0 (cut_axes_tree _ _ _) (wp_call (array_Ints_sp n hnl hnt) ?_)
  unfold axesS
  simp only [dA_0, dA_1, dA_2, dC_0, dC_1, dC_2, dC_3, dC_4, dN_0, dN_1, dN_2, els_sl, els_dI, els_dL, List.length_map, Int.toNat_natCast, toInt_int, toInt_dB, toBool_bool, getD_c0, getD_c1, int_beq, int_bne, not_dec, dInt_dB, Int.toNat_zero]
  refine wp_decs (fun h => wp_ret (by rw [if_neg h]; rfl)) (fun h => ?_)
  rw [if_pos (Classical.not_not.1 h)]
  refine wp_decs (fun h1 => ?_) (fun h1 => ?_)
  · rw [if_pos (by omega)]
    refine wp_decs (fun h2 => wp_ret (by rw [if_pos (by omega)]; rfl)) (fun h2 => ?_)
    rw [if_neg (by omega)]
    exact wp_call (clone_I_sp a.shape ha) (wp_ret rfl)
  · rw [if_neg (by omega)]
    refine wp_decs (fun h2 => wp_ret (by rw [if_pos (by omega)]; rfl)) (fun h2 => ?_)
    rw [if_neg (by omega)]
    exact wp_call (repeat_sp (intsA n).1.length 1 (by omega) (inR_small (by decide) (by decide))) (wp_ret rfl)
theorem cut_open_sp (s : List Int) (h : s.length ≤ 1048576) : Sp 67 [dI s] [.agg [dI (List.replicate s.length 0), dI s]] := by
  refine sound_ 0 (cut_open_tree _ _) ?_
  simp only [dA_0, dA_1, dA_2, dC_0, dC_1, dC_2, dC_3, dC_4, dN_0, dN_1, dN_2, els_sl, els_dI, els_dL, List.length_map, Int.toNat_natCast, toInt_int, toInt_dB, toBool_bool, getD_c0, getD_c1, int_beq, int_bne, not_dec, dInt_dB, Int.toNat_zero]
  refine wp_dec (by omega) (wp_dec (by omega) (wp_dec (by simp only [bigN]; omega) (wp_call (clone_I_sp s h) (wp_ret ?_))))
  simp [dI]
theorem cut_told_sp (n a : Arr) (s : List Int) (cs : List Cell) (hn : Fits n) : Sp 70 [dA n, dA a, dI s, .sl (cs.map dC)] [dA (.mk (a.s ||| totA n) s cs)] := by
  refine sound_ 0 (cut_told_tree _ _ _ _ _) (wp_call (array_Total_sp n hn) ?_)
  simp only [dA_0, dA_1, dA_2, dC_0, dC_1, dC_2, dC_3, dC_4, dN_0, dN_1, dN_2, els_sl, els_dI, els_dL, List.length_map, Int.toNat_natCast, toInt_int, toInt_dB, toBool_bool, getD_c0, getD_c1, int_beq, int_bne, not_dec, dInt_dB, Int.toNat_zero]
  refine wp_call (label_Join_sp a.s (totA n)) (wp_ret ?_)
  simp only [dA_0, dA_1, dA_2, dC_0, dC_1, dC_2, dC_3, dC_4, dN_0, dN_1, dN_2, els_sl, els_dI, els_dL, List.length_map, Int.toNat_natCast, toInt_int, toInt_dB, toBool_bool, getD_c0, getD_c1, int_beq, int_bne, not_dec, dInt_dB, Int.toNat_zero]
  rw [dA_eq]; rfl
theorem getD_int {l : List Int} {i : Nat} (h : i < l.length) : (l.map D.int).getD i D.nil = D.int (l.getD i 0) := by
  rw [getD_map (List.getElem?_eq_getElem h), List.getD_eq_getElem?_getD, List.getElem?_eq_getElem h]; rfl
theorem addW_split (pre : List Int) (x f : Int) (rest frest : List Int) : pre ++ addW (x :: rest) (f :: frest) = (pre ++ [IntKind.wrap .i64 (x + f)]) ++ addW rest frest := by simp [addW]
theorem cut_seen_sp (a : Arr) (s from_ size : List Int) (ha : countS s = ((a.cells.length : Int), 0)) (hl : from_.length = size.length) (hs : size.length ≤ 1000) (hc : (countS size).2 = 0) : Sp 71 [.agg [dI from_, dI size], dA a, dI s, .int (countS size).1] [.sl ((seenS a s from_ size (countS size).1.toNat).map dC)] := by
  have hk := countS_le size
  generalize hK : (countS size).1 = kz at *
  obtain ⟨K, rfl⟩ : ∃ K : Nat, kz = (K : Int) := ⟨kz.toNat, by omega⟩
  refine sound_ 2049 (cut_window_seen_tree _ _ _ _ _) (wp_call (array_Fill_sp a) ?_)
  simp only [dA_0, dA_1, dA_2, dC_0, dC_1, dC_2, dC_3, dC_4, dN_0, dN_1, dN_2, els_sl, els_dI, els_dL, List.length_map, Int.toNat_natCast, toInt_int, toInt_dB, toBool_bool, getD_c0, getD_c1, int_beq, int_bne, not_dec, dInt_dB, Int.toNat_zero]
  refine wp_dec (by omega) (wp_dec (by omega) (wp_dec (by simp only [bigN]; omega) ?_))
  have key := loop_up (P := Try.prog) (md := md) K (fun m k (out : List Cell) => cut_window_seen_l4 2049 m (dI s) (out.map dC) (K : Int) (k : Int) (.agg [dI from_, dI size]) (dA a) (dC (fillC a))) (fun _ _ => [.sl ((seenS a s from_ size K).map dC)]) (fun k out => out = seenS a s from_ size k)
    (fun m out hI => by
      simp only [cut_window_seen_l4_succ]
      exact wp_ndec (by omega) (wp_ret (by rw [hI])))
    (fun m k out hkK hI ih => by
      have hol : out.length = k := by rw [hI]; simp [seenS]
      have hat : atD size (k : Int) = [dI (atS size (k : Int)), .bool true] := by unfold atD; rw [if_pos ⟨hc, by omega, by rw [hK]; omega⟩]
      have hsp := shape_At_sp size (k : Int)
      rw [hat] at hsp
      simp only [cut_window_seen_l4_succ, fld_agg0, fld_agg1]
      refine wp_dec (by omega) (wp_call hsp ?_)
      simp only [dA_0, dA_1, dA_2, dC_0, dC_1, dC_2, dC_3, dC_4, dN_0, dN_1, dN_2, els_sl, els_dI, els_dL, List.length_map, Int.toNat_natCast, toInt_int, toInt_dB, toBool_bool, getD_c0, getD_c1, int_beq, int_bne, not_dec, dInt_dB, Int.toNat_zero, atS_len]
      have fin : ∀ at2 : List Int, at2 = addW (atS size (k : Int)) from_ → Tw (.call 105 [] [dI s, dI at2] fun yy3 =>
          .br ((yy3.getD 1 D.nil).toBool) (.br (decide (0 ≤ (yy3.getD 0 D.nil).toInt)) (.br (decide ((yy3.getD 0 D.nil).toInt < ((((dA a).fld 2).els).length : Int))) (.br (decide ((out.map dC).length + [(((dA a).fld 2).els).getD (Int.toNat ((yy3.getD 0 D.nil).toInt)) D.nil].length ≤ bigN)) (cut_window_seen_l4 2049 m (dI s) ((out.map dC) ++ [(((dA a).fld 2).els).getD (Int.toNat ((yy3.getD 0 D.nil).toInt)) D.nil]) (K : Int) (IntKind.wrap .i64 ((k : Int) + 1)) (.agg [dI from_, dI size]) (dA a) (dC (fillC a))) .fail) .fail) .fail)
            (.br (decide ((out.map dC).length + [dC (fillC a)].length ≤ bigN)) (cut_window_seen_l4 2049 m (dI s) ((out.map dC) ++ [dC (fillC a)]) (K : Int) (IntKind.wrap .i64 ((k : Int) + 1)) (.agg [dI from_, dI size]) (dA a) (dC (fillC a))) .fail)) [.sl ((seenS a s from_ size K).map dC)] := by
        intro at2 hat2
        have hlen2 : at2.length ≤ 1000000 := by rw [hat2, addW_len _ _ (by rw [atS_len]; omega), atS_len]; omega
        refine wp_call (shape_Index_sp s at2 hlen2) ?_
        have nxt : ∀ c : Cell, c = seenC a.cells (fillC a) s from_ size k → Tw (cut_window_seen_l4 2049 m (dI s) ((out.map dC) ++ [dC c]) (K : Int) ((k + 1 : Nat) : Int) (.agg [dI from_, dI size]) (dA a) (dC (fillC a))) [.sl ((seenS a s from_ size K).map dC)] := by
          intro c hcc
          have := ih (out ++ [c]) (by rw [hI, hcc]; simp [seenS, List.range_succ])
          rw [List.map_append] at this
          exact this
        rw [wrap_succ (show k < 9223372036854775807 by omega)]
        have hsc : seenC a.cells (fillC a) s from_ size k = match idxS s at2 with | some k => a.cells.getD k.toNat (fillC a) | none => fillC a := by rw [hat2]; rfl
        cases hi : idxS s at2 with
        | none =>
          rw [hi] at hsc
          simp only [idxD2, dA_0, dA_1, dA_2, dC_0, dC_1, dC_2, dC_3, dC_4, dN_0, dN_1, dN_2, els_sl, els_dI, els_dL, List.length_map, Int.toNat_natCast, toInt_int, toInt_dB, toBool_bool, getD_c0, getD_c1, int_beq, int_bne, not_dec, dInt_dB, Int.toNat_zero]
          exact wp_ff rfl (wp_dec (by simp only [List.length_cons, List.length_nil, bigN]; omega) (nxt _ hsc.symm))
        | some j =>
          have hj := idxS_lt ha hi
          obtain ⟨J, rfl⟩ : ∃ J : Nat, j = (J : Int) := ⟨j.toNat, by omega⟩
          rw [hi] at hsc
          simp only [idxD2, dA_0, dA_1, dA_2, dC_0, dC_1, dC_2, dC_3, dC_4, dN_0, dN_1, dN_2, els_sl, els_dI, els_dL, List.length_map, Int.toNat_natCast, toInt_int, toInt_dB, toBool_bool, getD_c0, getD_c1, int_beq, int_bne, not_dec, dInt_dB, Int.toNat_zero]
          have hcj : (a.cells.map dC).getD J D.nil = dC (a.cells.getD J (fillC a)) := by
            rw [getD_map (List.getElem?_eq_getElem (by omega)), List.getD_eq_getElem?_getD, List.getElem?_eq_getElem (by omega)]; rfl
          rw [hcj]
          exact wp_tt rfl (wp_dec (by omega) (wp_dec (by omega) (wp_dec (by simp only [List.length_cons, List.length_nil, bigN]; omega) (nxt _ (by rw [hsc]; rfl)))))
      have inner := loop_up (P := Try.prog) (md := md) size.length (fun m' j (at2 : List Int) => cut_window_seen_l8 2049 m m' (dI s) (out.map dC) (at2.map D.int) (K : Int) (k : Int) (size.length : Int) (j : Int) (.agg [dI from_, dI size]) (dA a) (dC (fillC a))) (fun _ _ => [.sl ((seenS a s from_ size K).map dC)])
        (fun j at2 => at2.length = size.length ∧ at2.take j ++ addW (at2.drop j) (from_.drop j) = addW (atS size (k : Int)) from_)
        (fun m' at2 hI' => by
          simp only [cut_window_seen_l8_succ]
          refine wp_ndec (by omega) (fin at2 ?_)
          rw [← hI'.2, List.take_of_length_le (by omega), List.drop_of_length_le (by omega)]
          simp [addW])
        (fun m' j at2 hj hI' ih' => by
          have h1 : at2[j]? = some at2[j] := List.getElem?_eq_getElem (by omega)
          have h2 : from_[j]? = some from_[j] := List.getElem?_eq_getElem (by omega)
          simp only [cut_window_seen_l8_succ, dA_0, dA_1, dA_2, dC_0, dC_1, dC_2, dC_3, dC_4, dN_0, dN_1, dN_2, els_sl, els_dI, els_dL, List.length_map, Int.toNat_natCast, toInt_int, toInt_dB, toBool_bool, getD_c0, getD_c1, int_beq, int_bne, not_dec, dInt_dB, Int.toNat_zero, fld_agg0, getD_map h1, getD_map h2, wrap_succ (show j < 9223372036854775807 by omega)]
          refine wp_dec (by omega) (wp_dec (by omega) (wp_dec (by omega) (wp_dec (by omega) (wp_dec (by omega) (wp_dec (by omega) (wp_dec (by omega) ?_))))))
          have := ih' (at2.set j (IntKind.wrap .i64 (at2[j] + from_[j]))) ⟨by simpa using hI'.1, ?_⟩
          · rw [List.map_set] at this
            exact this
          · have e1 : at2.drop j = at2[j] :: at2.drop (j + 1) := List.drop_eq_getElem_cons (by omega)
            have e2 : from_.drop j = from_[j] :: from_.drop (j + 1) := List.drop_eq_getElem_cons (by omega)
            have h3 := hI'.2
            rw [e1, e2, addW_split] at h3
            rw [← h3, List.drop_set_of_lt (by omega), List.take_set, getElem?_take_succ h1]
            congr 1
            rw [List.set_append_right _ _ (by simp; omega)]
            simp [Nat.min_eq_left (show j ≤ at2.length by omega)])
        2049 0 (atS size (k : Int)) (by omega) (by omega) ⟨atS_len _ _, by simp⟩
      exact inner)
    2049 0 [] (by omega) (by omega) (by simp [seenS])
  exact key
theorem set_app {α : Type} (pre : List α) (a b : α) (r : List α) : (pre ++ a :: r).set pre.length b = pre ++ b :: r := by
  rw [List.set_append_right _ _ (Nat.le_refl _), Nat.sub_self]; rfl
theorem get_app {α : Type} (pre : List α) (a : α) (r : List α) : (pre ++ a :: r)[pre.length]? = some a := by
  rw [List.getElem?_append_right (Nat.le_refl _), Nat.sub_self]; rfl
theorem cut_fin (n a : Arr) (s from_ size : List Int) (hn : Fits n) (ha : countS s = ((a.cells.length : Int), 0)) (hl : from_.length = size.length) (hs : size.length ≤ 1000) :
    Tw (.call 69 [] [D.sl (size.map D.int)] fun yy4 =>
     .br (((yy4.getD 1 D.nil).toInt) != 0) (.ret [D.agg [D.int 0, D.sl [], D.sl []], D.int ((yy4.getD 1 D.nil).toInt)])
     (.call 71 [] [D.agg [D.sl (from_.map D.int), D.sl (size.map D.int)], dA a, dI s, D.int ((yy4.getD 0 D.nil).toInt)] fun yy5 =>
     .call 70 [] [dA n, dA a, D.sl (size.map D.int), yy5.getD 0 D.nil] fun yy6 =>
     .ret [yy6.getD 0 D.nil, D.int 0])) [dA (cutS n a s from_ size).1, .int (cutS n a s from_ size).2] := by
  refine wp_call (shape_Count_sp size) ?_
  unfold cutS
  simp only [dA_0, dA_1, dA_2, dC_0, dC_1, dC_2, dC_3, dC_4, dN_0, dN_1, dN_2, els_sl, els_dI, els_dL, List.length_map, Int.toNat_natCast, toInt_int, toInt_dB, toBool_bool, getD_c0, getD_c1, int_beq, int_bne, not_dec, dInt_dB, Int.toNat_zero, dA_none]
  refine wp_decs (fun h => wp_ret (by rw [if_neg h])) (fun h => ?_)
  have h0 : (countS size).2 = 0 := Classical.not_not.1 h
  rw [if_pos h0]
  refine wp_call (cut_seen_sp a s from_ size ha hl hs h0) ?_
  exact wp_call (cut_told_sp n a size _ hn) (wp_ret rfl)
/-- The window, axis by axis. -/
structure WinI (F G : List Int → List Int → List Int) (l s : List Int) (rest w0 w1 : List Int) : Prop where
  h : ∃ spre pre0 pre1 srest, s = spre ++ srest ∧ spre.length = pre0.length ∧ pre1.length = pre0.length ∧ pre0.length + rest.length = l.length ∧ rest.length ≤ srest.length ∧ w0 = pre0 ++ List.replicate srest.length 0 ∧ w1 = pre1 ++ srest ∧ F l s = pre0 ++ F rest srest ∧ G l s = pre1 ++ G rest srest
theorem WinI.start {F G : List Int → List Int → List Int} {l s : List Int} (h : l.length ≤ s.length) : WinI F G l s l (List.replicate s.length 0) s :=
  ⟨[], [], [], s, rfl, rfl, rfl, by simp, h, rfl, rfl, rfl, rfl⟩
theorem WinI.stop {F G : List Int → List Int → List Int} {l s w0 w1 : List Int} (h : WinI F G l s [] w0 w1) (hF : ∀ x, F [] x = List.replicate x.length 0) (hG : ∀ x, G [] x = x) : w0 = F l s ∧ w1 = G l s := by
  obtain ⟨spre, pre0, pre1, srest, h1, h2, h3, h4, h5, h6, h7, h8, h9⟩ := h.h
  rw [h8, h9, hF, hG, h6, h7]; exact ⟨rfl, rfl⟩
theorem WinI.next {F G : List Int → List Int → List Int} {l s w0 w1 rest : List Int} {x : Int} {k : Nat} (h : WinI F G l s (x :: rest) w0 w1) (hk : l.drop k = x :: rest) {f g : Int → Int → Int} (hF : ∀ x l y s, F (x :: l) (y :: s) = f x y :: F l s) (hG : ∀ x l y s, G (x :: l) (y :: s) = g x y :: G l s) :
    ∃ y, s[k]? = some y ∧ w1[k]? = some y ∧ w0[k]? = some 0 ∧ w0.length = w1.length ∧ k < w1.length ∧ w1.length = s.length ∧ WinI F G l s rest (w0.set k (f x y)) (w1.set k (g x y)) ∧ (f x y = 0 → w0.set k (f x y) = w0) := by
  obtain ⟨spre, pre0, pre1, srest, h1, h2, h3, h4, h5, h6, h7, h8, h9⟩ := h.h
  match srest, h5 with
  | y :: srest, h5 =>
    have hle := congrArg List.length hk
    rw [List.length_drop, List.length_cons] at hle
    rw [List.length_cons] at h4
    have e0 : k = pre0.length := by omega
    have e1 : k = pre1.length := by omega
    have e2 : k = spre.length := by omega
    have hz : w0 = pre0 ++ 0 :: List.replicate srest.length 0 := by rw [h6, List.length_cons, List.replicate_succ]
    refine ⟨y, by rw [h1, e2]; exact get_app _ _ _, by rw [h7, e1]; exact get_app _ _ _, by rw [hz, e0]; exact get_app _ _ _, by rw [h6, h7]; simp; omega, by rw [h7]; simp; omega, by rw [h1, h7]; simp; omega, ⟨spre ++ [y], pre0 ++ [f x y], pre1 ++ [g x y], srest, by rw [h1]; simp, by simp [h2], by simp [h3], by simp; omega, by simpa using h5, ?_, ?_, by rw [h8, hF]; simp, by rw [h9, hG]; simp⟩, fun h0 => by rw [h0, hz, e0, set_app]⟩
    · rw [hz, e0, set_app]; simp
    · rw [h7, e1, set_app]; simp
theorem cut_Take_sp (n a : Arr) (hn : Fits n) (hnl : n.cells.length ≤ 2048) (hnt : ∀ c ∈ n.cells, c.n.top.length ≤ 32) (ha : countS a.shape = ((a.cells.length : Int), 0)) : Sp 31 [dA n, dA a] [dA (takeA n a).1, .int (takeA n a).2] := by
  have hsh := countS_len (l := a.shape) (by rw [ha])
  have hax := axesS_len (n := n) (a := a)
  have hac := axesS_count (n := n) (a := a)
  refine sound_ 4096 (cut_Take_tree _ _ _) (wp_call (cut_axes_sp n a hn hnl hnt (by omega)) ?_)
  have hll : (axesS n a).2.2 = 0 → (axesS n a).1.length ≤ (axesS n a).2.1.length ∧ (axesS n a).2.1.length ≤ 6 := fun h => hax h hsh.1
  unfold takeA
  generalize axesS n a = ax at *
  obtain ⟨l, s, e⟩ := ax
  simp only [dA_0, dA_1, dA_2, dC_0, dC_1, dC_2, dC_3, dC_4, dN_0, dN_1, dN_2, els_sl, els_dI, els_dL, List.length_map, Int.toNat_natCast, toInt_int, toInt_dB, toBool_bool, getD_c0, getD_c1, int_beq, int_bne, not_dec, dInt_dB, Int.toNat_zero, getD_c2, dA_none]
  refine wp_decs (fun h => wp_ret (by rw [if_neg h])) (fun h => ?_)
  have he : e = 0 := Classical.not_not.1 h
  subst he
  rw [if_pos rfl]
  obtain ⟨l1, l2⟩ := hll rfl
  have hcs := hac rfl ha
  simp only at l1 l2 hcs
  have hsl := countS_len (l := s) (by rw [hcs])
  refine wp_call (cut_open_sp s (by omega)) ?_
  simp only [dA_0, dA_1, dA_2, dC_0, dC_1, dC_2, dC_3, dC_4, dN_0, dN_1, dN_2, els_sl, els_dI, els_dL, List.length_map, Int.toNat_natCast, toInt_int, toInt_dB, toBool_bool, getD_c0, getD_c1, int_beq, int_bne, not_dec, dInt_dB, Int.toNat_zero, fld_agg0, fld_agg1]
  have key := loop_list (P := Try.prog) (md := md) l (fun m k (w : List Int × List Int) => cut_Take_l7 4096 m (dI s) (dI l) (l.length : Int) (k : Int) (dA n) (dA a) 0 0 (w.1.map D.int) (w.2.map D.int)) (fun _ _ => [dA (cutS n a s (fromT l s) (sizeT l s)).1, .int (cutS n a s (fromT l s) (sizeT l s)).2]) (fun rest w => WinI fromT sizeT l s rest w.1 w.2)
    (fun m k w hk hI => by
      obtain ⟨e1, e2⟩ := hI.stop (fun x => by simp [fromT]) (fun x => by simp [sizeT])
      simp only [cut_Take_l7_succ]
      rw [e1, e2]
      exact wp_ndec (by omega) (cut_fin n a s _ _ hn hcs (by rw [fromT_len, sizeT_len]) (by rw [sizeT_len]; omega)))
    (fun m k w x rest hdr hI ih => by
      obtain ⟨h1, h2, h3⟩ := drop_cons hdr
      obtain ⟨y, g1, g2, g3, g4, g5, g6, g7, g8⟩ := hI.next hdr (f := fun x y => if x < 0 then y - greatS x else 0) (g := fun x _ => greatS x) (fun _ _ _ _ => rfl) (fun _ _ _ _ => rfl)
      have hy := hsl.2 y (List.mem_of_getElem? g1)
      have hg := greatS_le x
      have hih := ih (_, _) g7
      simp only [List.map_set] at hih
      have hgs : ((w.2.map D.int).set k (D.int (greatS x))).getD k D.nil = D.int (greatS x) := by
        rw [List.getD_eq_getElem?_getD, List.getElem?_set_self (by simpa using g5)]; rfl
      simp only [cut_Take_l7_succ, dA_0, dA_1, dA_2, dC_0, dC_1, dC_2, dC_3, dC_4, dN_0, dN_1, dN_2, els_sl, els_dI, els_dL, List.length_map, Int.toNat_natCast, toInt_int, toInt_dB, toBool_bool, getD_c0, getD_c1, int_beq, int_bne, not_dec, dInt_dB, Int.toNat_zero, getD_map h2, getD_map g1, wrap_succ (show k < 9223372036854775807 by omega), List.length_set]
      refine wp_dec (by omega) (wp_dec (by omega) (wp_dec (by omega) (wp_call (cut_great_sp x) ?_)))
      simp only [dA_0, dA_1, dA_2, dC_0, dC_1, dC_2, dC_3, dC_4, dN_0, dN_1, dN_2, els_sl, els_dI, els_dL, List.length_map, Int.toNat_natCast, toInt_int, toInt_dB, toBool_bool, getD_c0, getD_c1, int_beq, int_bne, not_dec, dInt_dB, Int.toNat_zero]
      rw [hgs]
      simp only [toInt_int]
      refine wp_dec (by omega) (wp_dec (by omega) (wp_decs (fun hx => ?_) (fun hx => ?_)))
      · refine wp_dec (by omega) (wp_dec (by omega) (wp_dec (by omega) (wp_dec (by omega) (wp_dec (by omega) (wp_dec (by omega) ?_)))))
        rw [wrap64 (x := y - greatS x) (by omega) (by omega)]
        rw [if_pos hx] at hih
        exact hih
      · rw [if_neg hx] at hih g8
        have e0 : (w.1.map D.int).set k (D.int 0) = w.1.map D.int := by rw [← List.map_set, g8 rfl]
        rw [e0] at hih
        exact hih)
    4096 0 (List.replicate s.length 0, s) (by omega) (by omega) (WinI.start l1)
  exact key
theorem cut_Drop_sp (n a : Arr) (hn : Fits n) (hnl : n.cells.length ≤ 2048) (hnt : ∀ c ∈ n.cells, c.n.top.length ≤ 32) (ha : countS a.shape = ((a.cells.length : Int), 0)) : Sp 32 [dA n, dA a] [dA (dropA n a).1, .int (dropA n a).2] := by
  have hsh := countS_len (l := a.shape) (by rw [ha])
  have hax := axesS_len (n := n) (a := a)
  have hac := axesS_count (n := n) (a := a)
  refine sound_ 4096 (cut_Drop_tree _ _ _) (wp_call (cut_axes_sp n a hn hnl hnt (by omega)) ?_)
  have hll : (axesS n a).2.2 = 0 → (axesS n a).1.length ≤ (axesS n a).2.1.length ∧ (axesS n a).2.1.length ≤ 6 := fun h => hax h hsh.1
  unfold dropA
  generalize axesS n a = ax at *
  obtain ⟨l, s, e⟩ := ax
  simp only [dA_0, dA_1, dA_2, dC_0, dC_1, dC_2, dC_3, dC_4, dN_0, dN_1, dN_2, els_sl, els_dI, els_dL, List.length_map, Int.toNat_natCast, toInt_int, toInt_dB, toBool_bool, getD_c0, getD_c1, int_beq, int_bne, not_dec, dInt_dB, Int.toNat_zero, getD_c2, dA_none]
  refine wp_decs (fun h => wp_ret (by rw [if_neg h])) (fun h => ?_)
  have he : e = 0 := Classical.not_not.1 h
  subst he
  rw [if_pos rfl]
  obtain ⟨l1, l2⟩ := hll rfl
  have hcs := hac rfl ha
  simp only at l1 l2 hcs
  have hsl := countS_len (l := s) (by rw [hcs])
  refine wp_call (cut_open_sp s (by omega)) ?_
  simp only [dA_0, dA_1, dA_2, dC_0, dC_1, dC_2, dC_3, dC_4, dN_0, dN_1, dN_2, els_sl, els_dI, els_dL, List.length_map, Int.toNat_natCast, toInt_int, toInt_dB, toBool_bool, getD_c0, getD_c1, int_beq, int_bne, not_dec, dInt_dB, Int.toNat_zero, fld_agg0, fld_agg1]
  have key := loop_list (P := Try.prog) (md := md) l (fun m k (w : List Int × List Int) => cut_Drop_l7 4096 m (dI s) (dI l) (l.length : Int) (k : Int) (dA n) (dA a) 0 0 (w.1.map D.int) (w.2.map D.int)) (fun _ _ => [dA (cutS n a s (fromD l s) (sizeD l s)).1, .int (cutS n a s (fromD l s) (sizeD l s)).2]) (fun rest w => WinI fromD sizeD l s rest w.1 w.2)
    (fun m k w hk hI => by
      obtain ⟨e1, e2⟩ := hI.stop (fun x => by simp [fromD]) (fun x => by simp [sizeD])
      simp only [cut_Drop_l7_succ]
      rw [e1, e2]
      exact wp_ndec (by omega) (cut_fin n a s _ _ hn hcs (by rw [fromD_len, sizeD_len]) (by rw [sizeD_len]; omega)))
    (fun m k w x rest hdr hI ih => by
      obtain ⟨h1, h2, h3⟩ := drop_cons hdr
      obtain ⟨y, g1, g2, g3, g4, g5, g6, g7, g8⟩ := hI.next hdr (f := fun x y => if 0 < x then offS x y else 0) (g := fun x y => y - offS x y) (fun _ _ _ _ => rfl) (fun _ _ _ _ => rfl)
      have hy := hsl.2 y (List.mem_of_getElem? g1)
      have hg := greatS_le x
      have ho : 0 ≤ offS x y ∧ offS x y ≤ 2048 := by unfold offS; split <;> omega
      have hih := ih (_, _) g7
      simp only [List.map_set] at hih
      simp only [cut_Drop_l7_succ, dA_0, dA_1, dA_2, dC_0, dC_1, dC_2, dC_3, dC_4, dN_0, dN_1, dN_2, els_sl, els_dI, els_dL, List.length_map, Int.toNat_natCast, toInt_int, toInt_dB, toBool_bool, getD_c0, getD_c1, int_beq, int_bne, not_dec, dInt_dB, Int.toNat_zero, getD_map h2, getD_map g1, wrap_succ (show k < 9223372036854775807 by omega), List.length_set]
      refine wp_dec (by omega) (wp_dec (by omega) (wp_dec (by omega) (wp_call (cut_great_sp x) ?_)))
      have ew : IntKind.wrap .i64 (y - offS x y) = y - offS x y := wrap64 (by omega) (by omega)
      simp only [dA_0, dA_1, dA_2, dC_0, dC_1, dC_2, dC_3, dC_4, dN_0, dN_1, dN_2, els_sl, els_dI, els_dL, List.length_map, Int.toNat_natCast, toInt_int, toInt_dB, toBool_bool, getD_c0, getD_c1, int_beq, int_bne, not_dec, dInt_dB, Int.toNat_zero]
      refine wp_dec (by omega) (wp_dec (by omega) (wp_dec (by omega) (wp_dec (by omega) (wp_dec (by omega) (wp_dec (by omega) (wp_decs (fun hx => ?_) (fun hx => ?_)))))))
      · refine wp_dec (by omega) (wp_dec (by omega) ?_)
        rw [if_pos hx, ← ew] at hih
        exact hih
      · rw [if_neg hx] at hih g8
        have e0 : (w.1.map D.int).set k (D.int 0) = w.1.map D.int := by rw [← List.map_set, g8 rfl]
        rw [e0, ← ew] at hih
        exact hih)
    4096 0 (List.replicate s.length 0, s) (by omega) (by omega) (WinI.start l1)
  exact key
end Go.Proofs.Ytcgfpibkajagjaa
