/- Proved: for any array and any list of axes, the law PickAt returns true and changes nothing. No condition. -/
import Derived.Test.YtbgcadcpeabpgaaGreatRows
import Derived.WalkKit
import Derived.WalkSpells
import Derived.WalkLawsBesides
import Derived.Lib.Hide
import Derived.Laws.CopyOwn
import Derived.Deep.QuietTactic
import Derived.BigQuiet
import Derived.Orders
import Derived.Defers
import Derived.Recover
import Derived.Test.YtbgcadcpeabpgaaGreatProg
import Derived.KernelRfl
import Derived.ProofKit
import Derived.OpenShut
import Derived.Test.YtbgcadcpeabpgaaGreatZ2f8cda4f
set_option linter.unusedSimpArgs false
set_option linter.unusedVariables false
set_option maxRecDepth 100000
namespace Go.Proofs.YtbgcadcpeabpgaaGreat
/-- An array's shape, one axis at the least; which one is meant. -/
def aN (a : Arr) : List Nat := if a.shape = [] then [1] else a.shape.map Int.toNat
def axX (a : Arr) (first : Bool) : Nat := if a.shape = [] then 0 else if first then 0 else a.shape.length - 1
theorem iN_aN {a : Arr} (h : ∀ x ∈ a.shape, 0 ≤ x) : iN (aN a) = if a.shape = [] then [1] else a.shape := by
  unfold aN
  by_cases h0 : a.shape = []
  · rw [if_pos h0, if_pos h0]; rfl
  · rw [if_neg h0, if_neg h0]
    obtain ⟨m, hm⟩ := iN_of h
    rw [hm]
    unfold iN
    rw [List.map_map, List.map_map]
    exact List.map_congr_left (fun x _ => by simp)
theorem axX_lt (a : Arr) (first : Bool) : axX a first < (aN a).length := by
  unfold axX aN
  split
  · simp
  · rename_i h
    have := List.length_pos_iff.2 h
    split <;> simp <;> omega
theorem aN_boxed {d : Nat} {a : Arr} (h : rightA d a = true) : Boxed a (aN a) := by
  have hc := (rightA_cells h).1
  have hi := iN_aN (a := a) (fun x hx => ((rightA_len h).2.2 x hx).1)
  by_cases h0 : a.shape = []
  · rw [if_pos h0] at hi
    rw [h0] at hc
    have e : countS ([] : List Int) = (1, 0) := by decide
    rw [e] at hc
    have e1 : countS ([1] : List Int) = (1, 0) := by decide
    refine ⟨by rw [hi, e1], ?_⟩
    unfold cntN
    rw [hi, e1]
    have := congrArg Prod.fst hc
    simp only at this
    show a.cells.length = 1
    omega
  · rw [if_neg h0] at hi
    refine ⟨by rw [hi, hc], ?_⟩
    unfold cntN
    rw [hi, hc]; simp
theorem aN_le {d : Nat} {a : Arr} (h : rightA d a = true) {x : Nat} (hx : x < (aN a).length) : (aN a).getD x 0 ≤ 2048 := by
  have hm : (aN a).getD x 0 ∈ aN a := by rw [List.getD_eq_getElem?_getD, List.getElem?_eq_getElem hx]; exact List.getElem_mem hx
  have := (countS_len (aN_boxed h).ok).2 (((aN a).getD x 0 : Nat) : Int) (List.mem_map.2 ⟨_, hm, rfl⟩)
  omega
theorem at_iN {s : List Nat} {x : Nat} (hx : x < s.length) : ((iN s).map D.int).getD x D.nil = D.int ((s.getD x 0 : Nat) : Int) := by
  rw [iN_D, getD_map (List.getElem?_eq_getElem hx), List.getD_eq_getElem?_getD, List.getElem?_eq_getElem hx]; rfl
theorem clone_int_sp (l : List Int) (h : l.length ≤ 1000) : Sp 82 [dI l] [dI l] := by
  refine sound_ 0 (slices_Clone_int_int_tree _ _) (wp_amb (fun h => wp_ret ?_) (wp_dec (by simp only [els_dI, List.length_map, List.length_nil, bigN]; omega) (wp_ret (by simp [dI]))))
  have : l = [] := by simpa using h
  subst this; rfl
theorem pick_axes_sp {d : Nat} (a : Arr) (first : Bool) (h : rightA d a = true) : Sp 43 [dA a, .bool first] [dI (iN (aN a)), .int ((axX a first : Nat) : Int)] := by
  have hl := (rightA_len h).2.1
  have hi := iN_aN (a := a) (fun x hx => ((rightA_len h).2.2 x hx).1)
  refine sound_ 0 (pick_axes_tree _ _ _) ?_
  simp only [dA_1, els_dI, List.length_map, toBool_bool, int_beq]
  rw [hi]
  unfold axX
  refine wp_decs (fun g => wp_ret ?_) (fun g => ?_)
  · have : a.shape = [] := List.length_eq_zero_iff.1 (by omega)
    rw [if_pos this, if_pos this]; rfl
  · have hne : a.shape ≠ [] := fun hh => g (by rw [hh]; rfl)
    rw [if_neg hne, if_neg hne]
    refine wp_br (fun e => wp_call (clone_int_sp a.shape (by omega)) (wp_ret ?_)) (fun e => wp_call (clone_int_sp a.shape (by omega)) (wp_ret ?_))
    · rw [if_pos e]; rfl
    · have hpos := List.length_pos_iff.2 hne
      rw [if_neg (by rw [e]; decide), wrap64 (by omega) (by omega), show ((a.shape.length - 1 : Nat) : Int) = (a.shape.length : Int) - 1 by omega]; rfl
/-- Which places, as often as numbers say. -/
def frS (one : Bool) : List Int → Nat → List Int → Option (List Int)
  | [], _, acc => some acc
  | k :: ks, i, acc => if 2048 - (acc.length : Int) < k then none else frS one ks (i + 1) (acc ++ List.replicate k.toNat (if one then 0 else (i : Int)))
/-- The numbers, one for each place along the axis. -/
def lS (n : Arr) (L : Nat) : List Int := if n.shape = [] then List.replicate L ((intsA n).1.headD 0) else (intsA n).1
def replS (n a : Arr) (first : Bool) : Arr × Int :=
  if (intsA n).2 ≠ 0 then (.none, (intsA n).2)
  else if ∃ k ∈ (intsA n).1, k < 0 then (.none, 3)
  else if (aN a).getD (axX a first) 0 ≠ 1 ∧ (lS n ((aN a).getD (axX a first) 0)).length ≠ (aN a).getD (axX a first) 0 then (.none, 4)
  else match frS ((aN a).getD (axX a first) 0 == 1) (lS n ((aN a).getD (axX a first) 0)) 0 [] with
    | none => (.none, 7)
    | some fr => rowS a (aN a) (axX a first) fr (totA n)
theorem intsA_len2 (a : Arr) : (intsA a).1.length ≤ a.cells.length := by
  unfold intsA
  split
  · simp
  · split
    · rename_i l hl; have := (intsCs_inR hl).1; simp only; omega
    · simp
theorem intsA_inR2 (a : Arr) : ∀ x ∈ (intsA a).1, inR x := by
  unfold intsA
  split
  · intro x hx; cases hx
  · split
    · rename_i l hl; exact (intsCs_inR hl).2
    · intro x hx; cases hx
theorem neg_sp (l : List Int) (hl : l.length ≤ 2048) : Sp 41 [dI l, D.fn 42 [] []] [.bool (decide (∃ k ∈ l, k < 0))] := by
  have hn : ∀ k : Int, Sp 42 [.int k] [.bool (decide (k < 0))] := fun k => sound_ 0 (pick_Replicate_2_tree _ _) (wp_ret rfl)
  have hi : Sp 81 [dI l, D.fn 42 [] []] [.int (idxD (fun x => decide (x < 0)) 0 l)] := by
    refine sound_ 4096 (slices_IndexFunc_int_int_tree_pick_Replicate_2 _ _) ?_
    have key := loop_list (P := Tryz.prog) (md := md) l (fun m k (_ : Unit) => slices_IndexFunc_int_int_l2 4096 m (dI l) (D.fn 42 [] []) (l.length : Int) (k : Int)) (fun rest _ => [.int (idxD (fun x => decide (x < 0)) (l.length - rest.length) rest)]) (fun _ _ => True)
      (fun m k t hk _ => by
        simp only [slices_IndexFunc_int_int_l2_succ_pick_Replicate_2]
        exact wp_ndec (by omega) (wp_ret rfl))
      (fun m k t x rest hd _ ih => by
        obtain ⟨h1, h2, h3⟩ := drop_cons hd
        have hle := congrArg List.length hd
        rw [List.length_drop, List.length_cons] at hle
        have ih := ih () trivial
        rw [show l.length - rest.length = k + 1 by omega] at ih
        simp only [slices_IndexFunc_int_int_l2_succ_pick_Replicate_2, els_dI, List.length_map, Int.toNat_natCast, getD_map h2, toInt_int, fnId_fn, fnCts_fn, fnDs_fn, List.append_nil, wrap_succ (show k < 9223372036854775807 by omega)]
        refine wp_dec (by omega) (wp_dec (by omega) (wp_dec (by omega) (wp_call (hn x) ?_)))
        rw [show l.length - (x :: rest).length = k by rw [List.length_cons]; omega]
        simp only [getD_c0, toBool_bool, idxD]
        refine wp_br (fun g => wp_ret (by rw [if_pos g])) (fun g => ?_)
        rw [if_neg (by rw [g]; decide)]
        exact ih)
      4096 0 () (by omega) (by omega) trivial
    simpa using key
  have hp : ∀ (m : List Int) (k : Nat), (0 ≤ idxD (fun x => decide (x < 0)) k m) ↔ (∃ z ∈ m, z < 0) := by
    intro m
    induction m with
    | nil => intro k; simp [idxD]
    | cons z zs ih =>
      intro k
      simp only [idxD]
      by_cases g : z < 0
      · rw [if_pos (decide_eq_true g)]
        exact ⟨fun _ => ⟨z, by simp, g⟩, fun _ => by omega⟩
      · rw [if_neg (by rw [decide_eq_false g]; decide), ih (k + 1)]
        simp [g]
  refine sound_ 0 (slices_ContainsFunc_int_int_tree_pick_Replicate_2 _ _) (wp_call hi (wp_ret ?_))
  exact congrArg (fun b => [D.bool b]) (decide_eq_decide.2 (hp l 0))
theorem repl_loop {d : Nat} (n a : Arr) (first : Bool) (hn : Fits n) (ha : rightA d a = true) (l : List Int) (hl : l.length ≤ 2048) (hpos : ∀ k ∈ l, 0 ≤ k) (hbig : ∀ k ∈ l, k ≤ 9223372036854775807) (hL : (aN a).getD (axX a first) 0 ≠ 1 → l.length = (aN a).getD (axX a first) 0) :
    Tw (pick_Replicate_l18 4096 4096 (dI (iN (aN a))) ((axX a first : Nat) : Int) (((aN a).getD (axX a first) 0 : Nat) : Int) [] (dI l) (l.length : Int) 0 (dA n) (dA a) 0 0) (match frS ((aN a).getD (axX a first) 0 == 1) l 0 [] with
      | none => [dA .none, .int 7]
      | some fr => [dA (rowS a (aN a) (axX a first) fr (totA n)).1, .int (rowS a (aN a) (axX a first) fr (totA n)).2]) := by
  have hx := axX_lt a first
  have key := loop_list (P := Tryz.prog) (md := md) l (fun m k (acc : List Int) => pick_Replicate_l18 4096 m (dI (iN (aN a))) ((axX a first : Nat) : Int) (((aN a).getD (axX a first) 0 : Nat) : Int) (acc.map D.int) (dI l) (l.length : Int) (k : Int) (dA n) (dA a) 0 0) (fun rest acc => match frS ((aN a).getD (axX a first) 0 == 1) rest (l.length - rest.length) acc with
      | none => [dA .none, .int 7]
      | some fr => [dA (rowS a (aN a) (axX a first) fr (totA n)).1, .int (rowS a (aN a) (axX a first) fr (totA n)).2]) (fun rest acc => acc.length ≤ 2048 ∧ ∀ k ∈ acc, 0 ≤ k ∧ k < (((aN a).getD (axX a first) 0 : Nat) : Int))
    (fun m k acc hk hI => by
      simp only [pick_Replicate_l18_succ]
      refine wp_ndec (by omega) (wp_call (pick_rows_sp n a (aN a) (axX a first) acc hn (aN_boxed ha) hx (fun z hz => .inr (hI.2 z hz)) hI.1) (wp_ret ?_))
      rfl)
    (fun m k acc z rest hd hI ih => by
      obtain ⟨h1, h2, h3⟩ := drop_cons hd
      have hle := congrArg List.length hd
      rw [List.length_drop, List.length_cons] at hle
      have hz := hpos z (List.mem_of_getElem? h2)
      have hzb := hbig z (List.mem_of_getElem? h2)
      have ek : l.length - (z :: rest).length = k := by rw [List.length_cons]; omega
      have ek2 : l.length - rest.length = k + 1 := by omega
      have w1 : IntKind.wrap .i64 (2048 - (acc.length : Int)) = 2048 - (acc.length : Int) := wrap64 (by omega) (by omega)
      simp only [pick_Replicate_l18_succ, els_dI, List.length_map, Int.toNat_natCast, getD_map h2, toInt_int, w1, ek, frS, dA_none, int_beq]
      refine wp_dec (by omega) (wp_dec (by omega) (wp_dec (by omega) (wp_decs (fun g => wp_ret (by rw [if_pos (by first | (rw [w1] at g; exact g) | exact g)])) (fun g => ?_))))
      have g : ¬ (2048 - (acc.length : Int) < z) := by first | (rw [w1] at g; exact g) | exact g
      simp only [if_neg g]
      obtain ⟨Z, rfl⟩ : ∃ Z : Nat, z = (Z : Int) := ⟨z.toNat, by omega⟩
      have inner : ∀ (c : Int), 0 ≤ c ∧ c < (((aN a).getD (axX a first) 0 : Nat) : Int) → frS ((aN a).getD (axX a first) 0 == 1) rest (k + 1) (acc ++ List.replicate Z (if ((aN a).getD (axX a first) 0 == 1) = true then 0 else (k : Int))) = frS ((aN a).getD (axX a first) 0 == 1) rest (k + 1) (acc ++ List.replicate Z c) → Tw (pick_Replicate_l25 4096 m 4096 (dI (iN (aN a))) ((axX a first : Nat) : Int) (((aN a).getD (axX a first) 0 : Nat) : Int) (acc.map D.int) c (dI l) (l.length : Int) (k : Int) (Z : Int) 0 (dA n) (dA a) 0 0) (match frS ((aN a).getD (axX a first) 0 == 1) rest (k + 1) (acc ++ List.replicate (Z : Int).toNat (if ((aN a).getD (axX a first) 0 == 1) = true then 0 else (k : Int))) with
          | none => [dA .none, .int 7]
          | some fr => [dA (rowS a (aN a) (axX a first) fr (totA n)).1, .int (rowS a (aN a) (axX a first) fr (totA n)).2]) := by
        intro c hc heq
        rw [Int.toNat_natCast, heq]
        have ih := ih (acc ++ List.replicate Z c) ⟨by rw [List.length_append, List.length_replicate]; omega, fun y hy => by
          rcases List.mem_append.1 hy with hy | hy
          · exact hI.2 y hy
          · rw [List.eq_of_mem_replicate hy]; exact hc⟩
        rw [ek2] at ih
        have key3 := loop_up (P := Tryz.prog) (md := md) Z (fun q j (_ : Unit) => pick_Replicate_l25 4096 m q (dI (iN (aN a))) ((axX a first : Nat) : Int) (((aN a).getD (axX a first) 0 : Nat) : Int) ((acc ++ List.replicate j c).map D.int) c (dI l) (l.length : Int) (k : Int) (Z : Int) (j : Int) (dA n) (dA a) 0 0) (fun _ _ => (match frS ((aN a).getD (axX a first) 0 == 1) rest (k + 1) (acc ++ List.replicate Z c) with
          | none => [dA .none, .int 7]
          | some fr => [dA (rowS a (aN a) (axX a first) fr (totA n)).1, .int (rowS a (aN a) (axX a first) fr (totA n)).2])) (fun _ _ => True)
          (fun q t _ => by
            simp only [pick_Replicate_l25_succ, wrap_succ (show k < 9223372036854775807 by omega)]
            exact wp_ndec (by omega) ih)
          (fun q j t hj _ ih3 => by
            have ih3 := ih3 () trivial
            rw [List.replicate_succ', ← List.append_assoc, List.map_append] at ih3
            simp only [pick_Replicate_l25_succ, List.length_map, List.length_append, List.length_replicate, List.length_cons, List.length_nil, wrap_succ (show j < 9223372036854775807 by omega)]
            exact wp_dec (by omega) (wp_dec (by simp only [bigN]; omega) ih3))
          4096 0 () (by omega) (by omega) trivial
        simpa using key3
      refine wp_decs (fun g1 => ?_) (fun g1 => ?_)
      · have e1 : (aN a).getD (axX a first) 0 = 1 := by omega
        exact inner 0 ⟨by omega, by omega⟩ (by rw [e1]; rfl)
      · have e1 : ((aN a).getD (axX a first) 0 == 1) = false := beq_eq_false_iff_ne.2 (by omega)
        have := hL (by omega)
        exact inner (k : Int) ⟨by omega, by omega⟩ (by rw [e1]; rfl))
    4096 0 [] (by omega) (by omega) ⟨by simp, by simp⟩
  simpa using key
theorem pick_Replicate_sp (n a : Arr) (first : Bool) (hn : rightA 8 n = true) (ha : rightA 8 a = true) : Sp 12 [dA n, dA a, .bool first] [dA (replS n a first).1, .int (replS n a first).2] := by
  have ln := (rightA_len hn).1
  have hx := axX_lt a first
  have hLe := aN_le ha hx
  have hin := intsA_inR2 n
  have hil := intsA_len2 n
  refine sound_ 4096 (pick_Replicate_tree _ _ _ _) (wp_call (array_Ints_sp n ln (rightA_top hn)) ?_)
  unfold replS lS
  have hone : n.shape = [] → (intsA n).2 = 0 → ∃ k, (intsA n).1 = [k] := fun hs h0 => by
    have hc := (rightA_cells hn).1
    rw [hs, show countS ([] : List Int) = (1, 0) by decide] at hc
    have hc1 := congrArg Prod.fst hc
    have : n.cells.length = 1 := by simp only at hc1; omega
    unfold intsA at h0 ⊢
    rw [if_neg (by rw [hs]; simp)] at h0 ⊢
    split at h0
    · rename_i l hl
      have := (intsCs_inR hl).1
      exact len_one (by simp only; omega)
    · cases h0
  generalize hp : intsA n = p at *
  obtain ⟨l, e⟩ := p
  simp only [getD_c0, getD_c1, toInt_int, int_bne, dA_none] at hin hil hone ⊢
  refine wp_decs (fun h => wp_ret (by rw [if_pos h])) (fun h => ?_)
  rw [if_neg h]
  have h0 : e = 0 := Classical.not_not.1 h
  subst h0
  refine wp_call (neg_sp l (by omega)) ?_
  simp only [getD_c0, toBool_bool]
  refine wp_decs (fun h => wp_ret (by rw [if_pos h])) (fun h => ?_)
  rw [if_neg h]
  have hpos : ∀ k ∈ l, 0 ≤ k := fun k hk => by
    rcases Int.lt_or_le k 0 with g | g
    · exact absurd ⟨k, hk, g⟩ h
    · exact g
  refine wp_call (pick_axes_sp a first ha) ?_
  have sh : (((n.shape.length : Nat) : Int) = 0) ↔ n.shape = [] := ⟨fun g => List.length_eq_zero_iff.1 (by omega), fun g => by rw [g]; rfl⟩
  simp only [getD_c0, getD_c1, toInt_int, els_dI, List.length_map, Int.toNat_natCast, at_iN hx, iN_len, dA_1, int_beq, not_dec, sh]
  refine wp_dec (by omega) (wp_dec (by omega) ?_)
  have fin : (n.shape = [] ∨ (aN a).getD (axX a first) 0 = 1 ∨ l.length = (aN a).getD (axX a first) 0) → Tw (.br (decide (2048 < (((aN a).getD (axX a first) 0 : Nat) : Int))) (.ret [dA .none, .int 7]) (.br (decide (n.shape = [])) (.call 44 [] [dI l, .int (((aN a).getD (axX a first) 0 : Nat) : Int)] fun yy4 => pick_Replicate_l18 4096 4096 (dI (iN (aN a))) ((axX a first : Nat) : Int) (((aN a).getD (axX a first) 0 : Nat) : Int) [] (yy4.getD 0 D.nil) (((yy4.getD 0 D.nil).els).length : Int) 0 (dA n) (dA a) 0 0) (pick_Replicate_l18 4096 4096 (dI (iN (aN a))) ((axX a first : Nat) : Int) (((aN a).getD (axX a first) 0 : Nat) : Int) [] (dI l) (l.length : Int) 0 (dA n) (dA a) 0 0))) [dA (if (aN a).getD (axX a first) 0 ≠ 1 ∧ (if n.shape = [] then List.replicate ((aN a).getD (axX a first) 0) (l.headD 0) else l).length ≠ (aN a).getD (axX a first) 0 then (Arr.none, (4 : Int)) else match frS ((aN a).getD (axX a first) 0 == 1) (if n.shape = [] then List.replicate ((aN a).getD (axX a first) 0) (l.headD 0) else l) 0 [] with
      | none => (.none, 7)
      | some fr => rowS a (aN a) (axX a first) fr (totA n)).1, .int (if (aN a).getD (axX a first) 0 ≠ 1 ∧ (if n.shape = [] then List.replicate ((aN a).getD (axX a first) 0) (l.headD 0) else l).length ≠ (aN a).getD (axX a first) 0 then (Arr.none, (4 : Int)) else match frS ((aN a).getD (axX a first) 0 == 1) (if n.shape = [] then List.replicate ((aN a).getD (axX a first) 0) (l.headD 0) else l) 0 [] with
      | none => (.none, 7)
      | some fr => rowS a (aN a) (axX a first) fr (totA n)).2] := by
    intro hc
    refine wp_ndec (by omega) (wp_decs (fun hs => ?_) (fun hs => ?_))
    · obtain ⟨k, rfl⟩ := hone hs rfl
      have hk := hpos k (by simp)
      simp only [if_pos hs, List.headD_cons]
      refine wp_call (repeat_sp _ k (by omega) (hin k (by simp))) ?_
      simp only [getD_c0, els_dI, List.length_map]
      rw [if_neg (by simp)]
      have := repl_loop n a first (rightA_sml hn).fits ha (List.replicate ((aN a).getD (axX a first) 0) k) (by rw [List.length_replicate]; omega) (fun z hz => by rw [List.eq_of_mem_replicate hz]; exact hk) (fun z hz => by rw [List.eq_of_mem_replicate hz]; exact (hin k (by simp)).2) (fun _ => by rw [List.length_replicate])
      refine Tree.wp_mono this (fun ys hy => hy.trans ?_)
      cases frS ((aN a).getD (axX a first) 0 == 1) (List.replicate ((aN a).getD (axX a first) 0) k) 0 [] <;> rfl
    · simp only [if_neg hs]
      rw [if_neg (by intro hh; rcases hc with g | g | g; exact hs g; exact hh.1 g; exact hh.2 g)]
      have := repl_loop n a first (rightA_sml hn).fits ha l (by omega) hpos (fun z hz => (hin z hz).2) (fun hne => by rcases hc with g | g | g; exact absurd g hs; exact absurd g hne; exact g)
      refine Tree.wp_mono this (fun ys hy => hy.trans ?_)
      cases frS ((aN a).getD (axX a first) 0 == 1) l 0 [] <;> rfl
  refine wp_decs (fun hs => wp_decs (fun h1 => wp_decs (fun h2 => wp_ret ?_) (fun h2 => fin (.inr (.inr (by omega))))) (fun h1 => fin (.inr (.inl (by omega))))) (fun hs => fin (.inl (Classical.not_not.1 hs)))
  simp only [if_neg hs]
  rw [if_pos ⟨by omega, by omega⟩]
end Go.Proofs.YtbgcadcpeabpgaaGreat

set_option maxRecDepth 100000
namespace Go.Proofs.YtbgcadcpeabpgaaGreat
end Go.Proofs.YtbgcadcpeabpgaaGreat

set_option maxRecDepth 100000
namespace Go.Proofs.YtbgcadcpeabpgaaGreat
def fromL : List Int → Nat → List Int
  | [], _ => []
  | k :: ks, o => if k = 1 then (o : Int) :: fromL ks (o + 1) else -1 :: fromL ks o
def cntL : List Int → Nat
  | [] => 0
  | k :: ks => if k = 1 then cntL ks + 1 else cntL ks
def flat0 (z : Int) : Int := if 0 < z then 0 else z
def frE (L : Nat) (l : List Int) : List Int := if L = 1 then (fromL l 0).map flat0 else fromL l 0
def Bits (l : List Int) : Prop := ∀ k ∈ l, k = 0 ∨ k = 1
theorem fromL_len : ∀ (l : List Int) (o : Nat), (fromL l o).length = l.length
  | [], _ => rfl
  | k :: ks, o => by
    rw [fromL]
    split
    · rw [List.length_cons, fromL_len ks, List.length_cons]
    · rw [List.length_cons, fromL_len ks, List.length_cons]
theorem fromL_in : ∀ (l : List Int) (o : Nat), ∀ z ∈ fromL l o, z = -1 ∨ ((o : Int) ≤ z ∧ z < ((o + cntL l : Nat) : Int))
  | [], _, z, h => by simp [fromL] at h
  | k :: ks, o, z, h => by
    rw [fromL] at h
    rw [cntL]
    split at h
    · rename_i hk
      rw [if_pos hk]
      rcases List.mem_cons.1 h with rfl | h
      · right; omega
      · rcases fromL_in ks (o + 1) z h with h | h
        · exact .inl h
        · right; omega
    · rename_i hk
      rw [if_neg hk]
      rcases List.mem_cons.1 h with rfl | h
      · exact .inl rfl
      · exact fromL_in ks o z h
theorem frE_good {L : Nat} {l : List Int} (h : L ≠ 1 → cntL l = L) : GoodF L (frE L l) := by
  intro z hz
  unfold frE at hz
  split at hz
  · rename_i h1
    obtain ⟨y, hy, rfl⟩ := List.mem_map.1 hz
    unfold flat0
    rcases fromL_in l 0 y hy with h | h
    · subst h; left; decide
    · right; split <;> omega
  · rename_i h1
    have := h h1
    rcases fromL_in l 0 z hz with h | h
    · left; omega
    · right; omega
instance (l : List Int) : Decidable (Bits l) := by unfold Bits; infer_instance
noncomputable def expS (n a : Arr) (first : Bool) : Arr × Int :=
  if (intsA n).2 ≠ 0 then (.none, (intsA n).2)
  else if ¬ Bits (intsA n).1 then (.none, 3)
  else if (aN a).getD (axX a first) 0 ≠ 1 ∧ cntL (intsA n).1 ≠ (aN a).getD (axX a first) 0 then (.none, 4)
  else rowS a (aN a) (axX a first) (frE ((aN a).getD (axX a first) 0) (intsA n).1) (totA n)
theorem bits_sp (l : List Int) (hl : l.length ≤ 2048) : Sp 52 [dI l] [.bool (decide (Bits l))] := by
  refine sound_ 4096 (pick_bits_tree _ _) ?_
  simp only [els_dI, List.length_map]
  have key := loop_list (P := Tryz.prog) (md := md) l (fun m k (_ : Unit) => pick_bits_l2 4096 m (dI l) (l.length : Int) (k : Int)) (fun rest _ => [.bool (decide (Bits rest))]) (fun _ _ => True)
    (fun m k t hk _ => by
      simp only [pick_bits_l2_succ]
      exact wp_ndec (by omega) (wp_ret (by simp [Bits])))
    (fun m k t z rest hd _ ih => by
      obtain ⟨h1, h2, h3⟩ := drop_cons hd
      have ih := ih () trivial
      have go : z = 0 ∨ z = 1 → Tw (pick_bits_l2 4096 m (dI l) (l.length : Int) ((k + 1 : Nat) : Int)) [.bool (decide (Bits (z :: rest)))] := fun hz => by
        rw [show decide (Bits (z :: rest)) = decide (Bits rest) from decide_eq_decide.2 ⟨fun h y hy => h y (by simp [hy]), fun h y hy => by
          rcases List.mem_cons.1 hy with rfl | hy
          · exact hz
          · exact h y hy⟩]
        exact ih
      simp only [pick_bits_l2_succ, els_dI, List.length_map, Int.toNat_natCast, getD_map h2, toInt_int, int_bne, wrap_succ (show k < 9223372036854775807 by omega)]
      refine wp_dec (by omega) (wp_dec (by omega) (wp_dec (by omega) (wp_decs (fun g => wp_decs (fun g2 => wp_ret ?_) (fun g2 => go (by omega))) (fun g => go (by omega)))))
      rw [decide_eq_false (fun h => by have := h z (by simp); omega)])
    4096 0 () (by omega) (by omega) trivial
  simpa using key
theorem exp_rows {d : Nat} (n a : Arr) (first : Bool) (hn : Fits n) (ha : rightA d a = true) (fr : List Int) (hf : GoodF ((aN a).getD (axX a first) 0) fr) (hl : fr.length ≤ 2048) : Tw (.call 45 [] [dA n, dA a, dI (iN (aN a)), .int ((axX a first : Nat) : Int), D.sl (fr.map D.int)] fun yy => .ret [yy.getD 0 D.nil, .int ((yy.getD 1 D.nil).toInt)]) [dA (rowS a (aN a) (axX a first) fr (totA n)).1, .int (rowS a (aN a) (axX a first) fr (totA n)).2] :=
  wp_call (pick_rows_sp n a (aN a) (axX a first) fr hn (aN_boxed ha) (axX_lt a first) hf hl) (wp_ret rfl)
theorem pick_Expand_sp (n a : Arr) (first : Bool) (hn : rightA 8 n = true) (ha : rightA 8 a = true) : Sp 16 [dA n, dA a, .bool first] [dA (expS n a first).1, .int (expS n a first).2] := by
  have ln := (rightA_len hn).1
  have hx := axX_lt a first
  have hLe := aN_le ha hx
  have hil := intsA_len2 n
  refine sound_ 4096 (pick_Expand_tree _ _ _ _) (wp_call (array_Ints_sp n ln (rightA_top hn)) ?_)
  unfold expS
  generalize hp : intsA n = p at *
  obtain ⟨l, e⟩ := p
  simp only [getD_c0, getD_c1, toInt_int, int_bne, dA_none] at hil ⊢
  refine wp_decs (fun h => wp_ret (by rw [if_pos h])) (fun h => ?_)
  rw [if_neg h]
  have h0 : e = 0 := Classical.not_not.1 h
  subst h0
  refine wp_call (bits_sp l (by omega)) ?_
  simp only [getD_c0, toBool_bool]
  refine wp_br (fun g => wp_ret ?_) (fun g => ?_)
  · have : ¬ Bits l := fun hb => by rw [decide_eq_true hb] at g; cases g
    rw [if_pos this]
  have hb : Bits l := by
    by_cases hb : Bits l
    · exact hb
    · rw [decide_eq_false hb] at g; cases g
  rw [if_neg (fun hh => hh hb)]
  refine wp_call (pick_axes_sp a first ha) ?_
  simp only [getD_c0, getD_c1, toInt_int, els_dI, List.length_map, Int.toNat_natCast]
  refine wp_dec (by omega) (wp_dec (by omega) (wp_dec (by simp only [bigN]; omega) ?_))
  have fits := (rightA_sml hn).fits
  -- behind the numbers
  have fin : ∀ (o : Nat), o = cntL l → Tw (.br (decide (0 ≤ ((axX a first : Nat) : Int))) (.br (decide (((axX a first : Nat) : Int) < ((iN (aN a)).length : Int))) (.br (decide ((((iN (aN a)).map D.int).getD (axX a first) D.nil).toInt = 1)) (pick_Expand_l20 4096 4096 (dI (iN (aN a))) ((axX a first : Nat) : Int) ((fromL l 0).map D.int) (((fromL l 0).map D.int).length : Int) 0 (dA n) (dA a) 0 0) (.br (decide (0 ≤ ((axX a first : Nat) : Int))) (.br (decide (((axX a first : Nat) : Int) < ((iN (aN a)).length : Int))) (.br (decide ((o : Int) ≠ (((iN (aN a)).map D.int).getD (axX a first) D.nil).toInt)) (.ret [dA .none, .int 4]) (.call 45 [] [dA n, dA a, dI (iN (aN a)), .int ((axX a first : Nat) : Int), D.sl ((fromL l 0).map D.int)] fun yy => .ret [yy.getD 0 D.nil, .int ((yy.getD 1 D.nil).toInt)])) .fail) .fail)) .fail) .fail) [dA (if (aN a).getD (axX a first) 0 ≠ 1 ∧ cntL l ≠ (aN a).getD (axX a first) 0 then (Arr.none, (4 : Int)) else rowS a (aN a) (axX a first) (frE ((aN a).getD (axX a first) 0) l) (totA n)).1, .int (if (aN a).getD (axX a first) 0 ≠ 1 ∧ cntL l ≠ (aN a).getD (axX a first) 0 then (Arr.none, (4 : Int)) else rowS a (aN a) (axX a first) (frE ((aN a).getD (axX a first) 0) l) (totA n)).2] := by
    rintro o rfl
    simp only [at_iN hx, iN_len, toInt_int]
    refine wp_dec (by omega) (wp_dec (by omega) (wp_decs (fun g1 => ?_) (fun g1 => ?_)))
    · have e1 : (aN a).getD (axX a first) 0 = 1 := by omega
      rw [if_neg (fun hh => hh.1 e1)]
      have hfr : frE ((aN a).getD (axX a first) 0) l = (fromL l 0).map flat0 := by unfold frE; rw [if_pos e1]
      have er := exp_rows n a first fits ha ((fromL l 0).map flat0) (by rw [← hfr]; exact frE_good (fun hh => absurd e1 hh)) (by rw [List.length_map, fromL_len]; omega)
      rw [hfr]
      have fl := fromL_len l 0
      generalize fromL l 0 = fr at *
      have key := loop_up (P := Tryz.prog) (md := md) fr.length (fun m i (_ : Unit) => pick_Expand_l20 4096 m (dI (iN (aN a))) ((axX a first : Nat) : Int) (((fr.take i).map flat0 ++ fr.drop i).map D.int) (fr.length : Int) (i : Int) (dA n) (dA a) 0 0) (fun _ _ => [dA (rowS a (aN a) (axX a first) (fr.map flat0) (totA n)).1, .int (rowS a (aN a) (axX a first) (fr.map flat0) (totA n)).2]) (fun _ _ => True)
        (fun m t _ => by
          simp only [pick_Expand_l20_succ]
          rw [List.take_of_length_le (Nat.le_refl _), List.drop_of_length_le (Nat.le_refl _), List.append_nil]
          exact wp_ndec (by omega) er)
        (fun m i t hi _ ih => by
          have ih := ih () trivial
          have e4 : fr.drop i = fr[i] :: fr.drop (i + 1) := List.drop_eq_getElem_cons hi
          have e5 : fr.take (i + 1) = fr.take i ++ [fr[i]] := by rw [List.take_add_one, List.getElem?_eq_getElem hi]; rfl
          rw [e5, show (fr.take i ++ [fr[i]]).map flat0 ++ fr.drop (i + 1) = (fr.take i).map flat0 ++ (flat0 fr[i] :: fr.drop (i + 1)) by rw [List.map_append, List.append_assoc]; rfl] at ih
          rw [e4]
          generalize fr[i] = z at *
          have t1 : ((fr.take i).map flat0).length = i := by rw [List.length_map, List.length_take]; omega
          have t2 : (fr.drop (i + 1)).length = fr.length - (i + 1) := by rw [List.length_drop]
          have hg : (((fr.take i).map flat0 ++ z :: fr.drop (i + 1)).map D.int).getD i D.nil = D.int z := by
            rw [List.getD_eq_getElem?_getD, List.getElem?_map, List.getElem?_append_right (by omega), t1, Nat.sub_self]; rfl
          have hst : (((fr.take i).map flat0 ++ z :: fr.drop (i + 1)).map D.int).set i (D.int (flat0 z)) = ((fr.take i).map flat0 ++ (flat0 z :: fr.drop (i + 1))).map D.int := by
            rw [← List.map_set, List.set_append_right _ _ (by omega), t1, Nat.sub_self]; rfl
          have ll : ((fr.take i).map flat0 ++ z :: fr.drop (i + 1)).length = fr.length := by rw [List.length_append, t1, List.length_cons, t2]; omega
          simp only [pick_Expand_l20_succ, List.length_map, ll, Int.toNat_natCast, hg, toInt_int, wrap_succ (show i < 9223372036854775807 by omega)]
          refine wp_dec (by omega) (wp_dec (by omega) (wp_dec (by omega) (wp_dec (by omega) (wp_dec (by omega) ?_))))
          rw [show D.int (if 0 < z then 0 else z) = D.int (flat0 z) from rfl, hst]
          exact ih)
        4096 0 () (by omega) (by omega) trivial
      simpa using key
    · have e1 : (aN a).getD (axX a first) 0 ≠ 1 := by omega
      refine wp_dec (by omega) (wp_dec (by omega) (wp_decs (fun g2 => wp_ret ?_) (fun g2 => ?_)))
      · rw [if_pos ⟨e1, by omega⟩]
      · have e2 : cntL l = (aN a).getD (axX a first) 0 := by omega
        rw [if_neg (fun hh => hh.2 e2)]
        have hfr : frE ((aN a).getD (axX a first) 0) l = fromL l 0 := by unfold frE; rw [if_neg e1]
        rw [hfr]
        exact exp_rows n a first fits ha (fromL l 0) (by rw [← hfr]; exact frE_good (fun _ => e2)) (by rw [fromL_len]; omega)
  have key := loop_list (P := Tryz.prog) (md := md) l (fun m k (s : List Int × Nat) => pick_Expand_l11 4096 m (dI (iN (aN a))) ((axX a first : Nat) : Int) (s.1.map D.int ++ List.replicate (l.length - s.1.length) (D.int 0)) (s.2 : Int) (dI l) (l.length : Int) (k : Int) (dA n) (dA a) 0 0) (fun _ _ => [dA (if (aN a).getD (axX a first) 0 ≠ 1 ∧ cntL l ≠ (aN a).getD (axX a first) 0 then (Arr.none, (4 : Int)) else rowS a (aN a) (axX a first) (frE ((aN a).getD (axX a first) 0) l) (totA n)).1, .int (if (aN a).getD (axX a first) 0 ≠ 1 ∧ cntL l ≠ (aN a).getD (axX a first) 0 then (Arr.none, (4 : Int)) else rowS a (aN a) (axX a first) (frE ((aN a).getD (axX a first) 0) l) (totA n)).2]) (fun rest s => s.1.length + rest.length = l.length ∧ fromL l 0 = s.1 ++ fromL rest s.2 ∧ cntL l = s.2 + cntL rest)
    (fun m k s hk hI => by
      obtain ⟨i1, i2, i3⟩ := hI
      simp only [fromL, List.append_nil, List.length_nil, cntL, Nat.add_zero] at i1 i2 i3
      simp only [pick_Expand_l11_succ, i1, Nat.sub_self, List.replicate_zero, List.append_nil, els_dI, List.length_map, Int.toNat_natCast, int_beq, int_bne, dA_none]
      have f := fin s.2 i3.symm
      rw [i2] at f
      simp only [List.length_map, i1] at f
      exact wp_ndec (by omega) f)
    (fun m k s z rest hd hI ih => by
      obtain ⟨h1, h2, h3⟩ := drop_cons hd
      obtain ⟨i1, i2, i3⟩ := hI
      have hle := congrArg List.length hd
      rw [List.length_drop, List.length_cons] at hle
      rw [List.length_cons] at i1
      have hk : k = s.1.length := by omega
      simp only [fromL] at i2
      simp only [cntL] at i3
      have so : s.2 ≤ 2048 := by
        have : ∀ q : List Int, cntL q ≤ q.length := fun q => by
          induction q with
          | nil => exact Nat.le_refl _
          | cons y ys ihq => simp only [cntL, List.length_cons]; split <;> omega
        have := this l
        split at i3 <;> omega
      have en := fun v : Int => set_next (f := D.int) (z := D.int 0) s.1 v (l.length - (s.1.length + 1))
      rw [show l.length - (s.1.length + 1) + 1 = l.length - s.1.length by omega] at en
      have ll : (s.1.map D.int ++ List.replicate (l.length - s.1.length) (D.int 0)).length = l.length := by rw [List.length_append, List.length_map, List.length_replicate]; omega
      have w1 : IntKind.wrap .i64 ((s.2 : Int) + 1) = ((s.2 + 1 : Nat) : Int) := by rw [wrap64 (by omega) (by omega)]; rfl
      simp only [pick_Expand_l11_succ, els_dI, List.length_map, Int.toNat_natCast, getD_map h2, toInt_int, int_beq, ll, List.length_set, List.set_set, w1, wrap_succ (show k < 9223372036854775807 by omega)]
      refine wp_dec (by omega) (wp_dec (by omega) (wp_dec (by omega) (wp_dec (by omega) (wp_dec (by omega) (wp_decs (fun g => wp_dec (by omega) (wp_dec (by omega) ?_)) (fun g => ?_))))))
      · rw [if_pos g] at i2 i3
        have ih := ih (s.1 ++ [(s.2 : Int)], s.2 + 1) ⟨by rw [List.length_append, List.length_cons, List.length_nil]; omega, by rw [i2]; simp, by omega⟩
        rw [hk, en]
        simp only [List.length_append, List.length_cons, List.length_nil, hk] at ih
        exact ih
      · rw [if_neg g] at i2 i3
        have ih := ih (s.1 ++ [-1], s.2) ⟨by rw [List.length_append, List.length_cons, List.length_nil]; omega, by rw [i2]; simp, i3⟩
        rw [hk, en]
        simp only [List.length_append, List.length_cons, List.length_nil, hk] at ih
        exact ih)
    4096 0 ([], 0) (by omega) (by omega) ⟨by simp, by simp, by simp⟩
  simpa using key
end Go.Proofs.YtbgcadcpeabpgaaGreat

set_option maxRecDepth 100000
namespace Go.Proofs.YtbgcadcpeabpgaaGreat
/-- What is chosen along an axis. -/
structure Ax where
  all : Bool
  at_ : Arr
def dX (x : Ax) : D := .agg [.bool x.all, dA x.at_]
theorem dX_0 (x : Ax) : (dX x).fld 0 = .bool x.all := rfl
theorem dX_1 (x : Ax) : (dX x).fld 1 = dA x.at_ := rfl
def subS (long : Int) : List Int → Option (List Int)
  | [] => some []
  | k :: ks => if k < 1 then none else if long < k then none else (subS long ks).map (fun r => (k - 1) :: r)
theorem subS_len {long : Int} : ∀ {l r : List Int}, subS long l = some r → r.length = l.length ∧ ∀ k ∈ r, 0 ≤ k ∧ k < long
  | [], r, h => by simp [subS] at h; subst h; simp
  | k :: ks, r, h => by
    rw [subS] at h
    split at h
    · cases h
    split at h
    · cases h
    cases hs : subS long ks with
    | none => rw [hs] at h; cases h
    | some q =>
      rw [hs] at h
      simp only [Option.map_some, Option.some.injEq] at h
      subst h
      obtain ⟨h1, h2⟩ := subS_len hs
      refine ⟨by simp [h1], fun j hj => ?_⟩
      rcases List.mem_cons.1 hj with rfl | hj
      · omega
      · exact h2 j hj
theorem subS_all {long : Int} : ∀ {l : List Int}, (∀ k ∈ l, 1 ≤ k ∧ k ≤ long) → subS long l = some (l.map (· - 1))
  | [], _ => rfl
  | k :: ks, h => by
    have := h k (by simp)
    rw [subS, if_neg (by omega), if_neg (by omega), subS_all (fun j hj => h j (by simp [hj]))]; rfl
def partS (x : Ax) (long : Int) : List Int × Int := if x.all then (if 2048 < long then ([], 7) else ((List.range long.toNat).map (fun (i : Nat) => (i : Int)), 0)) else if (intsA (vectA x.at_.cells)).2 ≠ 0 then ([], (intsA (vectA x.at_.cells)).2) else (match subS long (intsA (vectA x.at_.cells)).1 with
  | some r => (r, 0)
  | none => ([], 6))
def totX (l : List Ax) (s : Lab) : Lab := l.foldl (fun r x => if x.all then r else r ||| totA x.at_) s
structure FineX (x : Ax) : Prop where
  sml : Sml 9 x.at_
  len : x.at_.cells.length ≤ 2048
  top : ∀ c ∈ x.at_.cells, c.n.top.length ≤ 32
theorem intsA_len (a : Arr) : (intsA a).1.length ≤ a.cells.length := by
  unfold intsA
  split
  · simp
  · split
    · rename_i l hl; have := (intsCs_inR hl).1; simp only; omega
    · simp
theorem intsA_full {n : Arr} (h : (intsA n).2 = 0) : (intsA n).1.length = n.cells.length := by
  unfold intsA at h ⊢
  split
  · rename_i g; rw [if_pos g] at h; cases h
  · rename_i g
    rw [if_neg g] at h
    split
    · rename_i l hl; exact (intsCs_inR hl).1
    · rename_i hl; rw [hl] at h; cases h
theorem intsA_inR (a : Arr) : ∀ x ∈ (intsA a).1, inR x := by
  unfold intsA
  split
  · intro x hx; cases hx
  · split
    · rename_i l hl; exact (intsCs_inR hl).2
    · intro x hx; cases hx
theorem part_sp (x : Ax) (L : Nat) (hx : FineX x) (hL : L ≤ 2048) : Sp 57 [dX x, .int (L : Int)] [dI (partS x L).1, .int (partS x L).2] := by
  refine sound_ 4096 (pick_Axis_part_tree _ _ _) ?_
  unfold partS
  simp only [dX_0, dX_1, dA_2, toBool_bool, toInt_int, Int.toNat_natCast, List.length_replicate]
  refine wp_br (fun h => ?_) (fun h => ?_)
  · rw [if_pos h, if_neg (by omega)]
    refine wp_ndec (by omega) (wp_dec (by omega) (wp_dec (by omega) (wp_dec (by simp only [bigN]; omega) ?_)))
    have key := loop_up (P := Tryz.prog) (md := md) L (fun m k (_ : Unit) => pick_Axis_part_l6 4096 m ((List.range k).map (fun (i : Nat) => D.int (i : Int)) ++ List.replicate (L - k) (D.int 0)) (L : Int) (k : Int)) (fun _ _ => [dI ((List.range L).map (fun (i : Nat) => (i : Int))), .int 0]) (fun _ _ => True)
      (fun m s _ => by
        simp only [pick_Axis_part_l6_succ]
        refine wp_ndec (by omega) (wp_ret ?_)
        simp [dI])
      (fun m k s hk _ ih => by
        have ih := ih () trivial
        simp only [pick_Axis_part_l6_succ, List.length_append, List.length_map, List.length_range, List.length_replicate, Int.toNat_natCast, wrap_succ (show k < 9223372036854775807 by omega)]
        refine wp_dec (by omega) (wp_dec (by omega) (wp_dec (by omega) ?_))
        have e := set_next (f := fun (i : Nat) => D.int (i : Int)) (z := D.int 0) (List.range k) k (L - (k + 1))
        rw [List.length_range, ← List.range_succ, show L - (k + 1) + 1 = L - k by omega] at e
        rw [e]
        exact ih)
      4096 0 () (by omega) (by omega) trivial
    simpa using key
  · have hlen := intsA_len (vectA x.at_.cells)
    rw [if_neg (by rw [h]; decide)]
    refine wp_call (array_Vector_sp (d := 8) x.at_.cells (hx.sml.cell) (by have := hx.len; omega)) (wp_call (array_Ints_sp _ hx.len hx.top) ?_)
    have hlen : (intsA (vectA x.at_.cells)).1.length ≤ 2048 := Nat.le_trans hlen hx.len
    have hin := intsA_inR (vectA x.at_.cells)
    generalize intsA (vectA x.at_.cells) = p at *
    obtain ⟨ks, e⟩ := p
    simp only [getD_c0, getD_c1, toInt_int, int_bne, els_dI, List.length_map, Int.toNat_natCast] at hlen hin ⊢
    refine wp_decs (fun h => wp_ret (by rw [if_pos h]; rfl)) (fun h => ?_)
    rw [if_neg h]
    refine wp_dec (by omega) (wp_dec (by omega) (wp_dec (by simp only [bigN]; omega) ?_))
    have key := loop_list (P := Tryz.prog) (md := md) ks (fun m k (pre : List Int) => pick_Axis_part_l16 4096 m (L : Int) (pre.map D.int ++ List.replicate (ks.length - pre.length) (D.int 0)) (dI ks) (ks.length : Int) (k : Int)) (fun rest pre => match subS L rest with
        | some r => [dI (pre ++ r), .int 0]
        | none => [dI [], .int 6]) (fun rest pre => pre.length + rest.length = ks.length)
      (fun m k pre hk hI => by
        simp only [pick_Axis_part_l16_succ, List.length_nil] at hI ⊢
        refine wp_ndec (by omega) (wp_ret ?_)
        rw [show ks.length - pre.length = 0 by omega]
        simp [subS, dI])
      (fun m k pre x rest hd hI ih => by
        obtain ⟨h1, h2, h3⟩ := drop_cons hd
        have hle := congrArg List.length hd
        rw [List.length_drop, List.length_cons] at hle
        rw [List.length_cons] at hI
        have hk : k = pre.length := by omega
        have hir := hin x (List.mem_of_getElem? h2)
        simp only [pick_Axis_part_l16_succ, els_dI, List.length_map, Int.toNat_natCast, getD_map h2, toInt_int, wrap_succ (show k < 9223372036854775807 by omega), List.length_append, List.length_replicate, subS]
        refine wp_dec (by omega) (wp_dec (by omega) (wp_dec (by omega) (wp_decs (fun g => wp_ret (by rw [if_pos g]; rfl)) (fun g => ?_))))
        simp only [if_neg g]
        refine wp_decs (fun g2 => wp_ret (by rw [if_pos g2]; rfl)) (fun g2 => ?_)
        simp only [if_neg g2]
        have w : IntKind.wrap .i64 (x - 1) = x - 1 := wrap64 (by omega) (by omega)
        refine wp_dec (by omega) (wp_dec (by omega) ?_)
        have e := set_next (f := D.int) (z := D.int 0) pre (x - 1) (ks.length - (pre.length + 1))
        rw [show ks.length - (pre.length + 1) + 1 = ks.length - pre.length by omega] at e
        rw [w, hk, e]
        have := ih (pre ++ [x - 1]) (by simp; omega)
        rw [List.length_append, List.length_cons, List.length_nil, hk] at this
        refine Tree.wp_mono this (fun ys hy => hy.trans ?_)
        cases subS L rest with
        | none => rfl
        | some r => simp)
      4096 0 [] (by omega) (by omega) (by simp)
    simp only [List.map_nil, List.nil_append, List.length_nil, Nat.sub_zero] at key
    refine Tree.wp_mono key (fun ys hy => hy.trans ?_)
    rw [List.drop_zero]
    cases subS L ks with
    | none => rfl
    | some r => simp
theorem pick_Total_sp (l : List Ax) (hl : ∀ x ∈ l, FineX x) (hlen : l.length ≤ 100) : Sp 25 [.sl (l.map dX)] [dB (totX l 0)] := by
  refine sound_ 4096 (pick_Total_tree _ _) ?_
  simp only [els_sl, List.length_map]
  have key := loop_list (P := Tryz.prog) (md := md) l (fun m k (s : Lab) => pick_Total_l3 4096 m (s.toNat : Int) (.sl (l.map dX)) (l.length : Int) (k : Int)) (fun rest s => [dB (totX rest s)]) (fun _ _ => True)
    (fun m k s hk _ => by
      simp only [pick_Total_l3_succ]
      exact wp_ndec (by omega) (wp_ret (by rw [dInt_dB]; rfl)))
    (fun m k s x rest hd _ ih => by
      obtain ⟨h1, h2, h3⟩ := drop_cons hd
      simp only [pick_Total_l3_succ, els_sl, List.length_map, Int.toNat_natCast, getD_map h2, dX_0, dX_1, toBool_bool, wrap_succ (show k < 9223372036854775807 by omega)]
      refine wp_dec (by omega) (wp_dec (by omega) (wp_dec (by omega) (wp_br (fun g => ?_) (fun g => ?_))))
      · have g : x.all = false := by simpa using g
        refine wp_call (array_Total_sp _ (hl x (List.mem_of_getElem? h2)).sml.fits) ?_
        simp only [getD_c0, toInt_dB, dInt_dB]
        refine wp_call (label_Join_sp s _) ?_
        simp only [getD_c0, toInt_dB]
        have := ih (s ||| totA x.at_) trivial
        rw [show totX (x :: rest) s = totX rest (s ||| totA x.at_) by simp [totX, g]]
        exact this
      · have g : x.all = true := by simpa using g
        rw [show totX (x :: rest) s = totX rest s by simp [totX, g]]
        exact ih s trivial)
    4096 0 0 (by omega) (by omega) trivial
  exact key
/-- Of a list, by the places that a list of numbers says. -/
theorem pick_Places1_sp (a x : Arr) (ks : List Int) (ha : a.shape = [(a.cells.length : Int)]) (la : a.cells.length ≤ 2048) (hx : FineX ⟨false, x⟩) (hs : countS x.shape = ((x.cells.length : Int), 0)) (hi : intsA (vectA x.cells) = (ks, 0)) (hk : ∀ k ∈ ks, 1 ≤ k ∧ k ≤ (a.cells.length : Int)) : Sp 22 [dA a, .sl [dX ⟨false, x⟩]] [dI (ks.map (· - 1)), dI x.shape, .int 0] := by
  have hkl : ks.length ≤ 2048 := by have := intsA_len (vectA x.cells); rw [hi] at this; exact Nat.le_trans this hx.len
  have hsl := (countS_len (l := x.shape) (by rw [hs])).1
  refine sound_ 4096 (pick_Places_tree _ _ _) ?_
  simp only [dA_1, ha, els_sl, els_dI, List.map_cons, List.map_nil, List.length_cons, List.length_nil]
  refine wp_ff (by decide) (wp_ff (by decide) ?_)
  have hp := part_sp ⟨false, x⟩ a.cells.length hx la
  have e0 : partS ⟨false, x⟩ (a.cells.length : Int) = (ks.map (· - 1), 0) := by
    unfold partS
    simp only [hi]
    rw [subS_all hk]; rfl
  rw [e0] at hp
  have last : ∀ q6 : Nat, Tw (pick_Places_l6 4096 (q6 + 1) (.sl [dX ⟨false, x⟩]) ((0 + 1 : Nat) : Int) ((0 + 1 : Nat) : Int) (dA a) ((ks.map (· - 1)).map D.int) (x.shape.map D.int) 0) [dI (ks.map (· - 1)), dI x.shape, .int 0] := by
    intro q6
    simp only [pick_Places_l6_succ]
    refine wp_ndec (by omega) (wp_call (shape_Count_sp x.shape) ?_)
    rw [hs]
    exact wp_ff rfl (wp_ret rfl)
  have inner : ∀ q6 q16 : Nat, Tw (pick_Places_l19 4096 (q6 + 1) (q16 + 1) 4096 (a.cells.length : Int) (dI (ks.map (· - 1))) [] 0 (.sl [dX ⟨false, x⟩]) ((0 + 1 : Nat) : Int) 0 (.sl [D.int 0]) ((0 + 1 : Nat) : Int) 0 (dI (ks.map (· - 1))) (ks.length : Int) 0 (dA a) (.sl [D.int 0]) [] 0 (dX ⟨false, x⟩)) [dI (ks.map (· - 1)), dI x.shape, .int 0] := by
    intro q6 q16
    have key := loop_list (P := Tryz.prog) (md := md) (ks.map (· - 1)) (fun m k (out : List Int) => pick_Places_l19 4096 (q6 + 1) (q16 + 1) m (a.cells.length : Int) (dI (ks.map (· - 1))) (out.map D.int) 0 (.sl [dX ⟨false, x⟩]) ((0 + 1 : Nat) : Int) 0 (.sl [D.int 0]) ((0 + 1 : Nat) : Int) 0 (dI (ks.map (· - 1))) (ks.length : Int) (k : Int) (dA a) (.sl [D.int 0]) [] 0 (dX ⟨false, x⟩)) (fun _ _ => [dI (ks.map (· - 1)), dI x.shape, .int 0]) (fun rest out => ks.map (· - 1) = out ++ rest)
      (fun m k out hk hI => by
        rw [List.append_nil] at hI
        rw [List.length_map] at hk
        rw [pick_Places_l19_succ]
        refine wp_ndec (by omega) ?_
        rw [pick_Places_l16_succ]
        refine wp_ndec (by decide) ?_
        simp only [dX_0, dX_1, dA_1, toBool_bool, els_dI, List.length_nil, List.length_map, List.nil_append]
        refine wp_ff rfl (wp_dec (by simp only [bigN]; omega) ?_)
        rw [← hI]
        exact last q6)
      (fun m k out z rest hd hI ih => by
        obtain ⟨h1, h2, h3⟩ := drop_cons hd
        rw [List.length_map] at h1
        have hol : out.length ≤ ks.length := by have := congrArg List.length hI; simp at this; omega
        have hz : 0 ≤ z ∧ z < (a.cells.length : Int) := by
          obtain ⟨y, hy, rfl⟩ := List.mem_map.1 (List.mem_of_getElem? h2)
          have := hk y hy
          show 0 ≤ y - 1 ∧ y - 1 < _
          omega
        have w : IntKind.wrap .i64 (IntKind.wrap .i64 (0 * (a.cells.length : Int)) + z) = z := by rw [Int.zero_mul, show IntKind.wrap .i64 0 = 0 by decide, Int.zero_add, wrap64 (by omega) (by omega)]
        simp only [pick_Places_l19_succ, els_dI, List.length_map, Int.toNat_natCast, getD_map h2, toInt_int, wrap_succ (show k < 9223372036854775807 by omega), w, List.length_cons, List.length_nil]
        refine wp_dec (by omega) (wp_dec (by omega) (wp_dec (by omega) (wp_dec (by simp only [bigN]; omega) ?_)))
        have := ih (out ++ [z]) (by rw [hI]; simp)
        rw [List.map_append] at this
        exact this)
      4096 0 [] (by simp; omega) (by omega) (by simp)
    exact key
  rw [pick_Places_l6_succ 4096 4095]
  simp only [dA_1, ha, els_dI, els_sl, List.map_cons, List.map_nil, List.length_cons, List.length_nil, Int.toNat_zero, getD_c0, toInt_int]
  refine wp_dec (by decide) (wp_dec (by decide) (wp_dec (by decide) (wp_dec (by decide) (wp_dec (by decide) (wp_call hp ?_)))))
  simp only [getD_c0, getD_c1, toInt_int, els_dI, List.length_map]
  have w2 : IntKind.wrap .i64 (((0 + 1 : Nat) : Int) * (ks.length : Int)) = (ks.length : Int) := by
    rw [show ((0 + 1 : Nat) : Int) * (ks.length : Int) = (ks.length : Int) by omega, wrap64 (by omega) (by omega)]
  rw [w2]
  refine wp_ff rfl (wp_ndec (by omega) (wp_dec (by decide) (wp_dec (by omega) (wp_dec (by simp only [bigN]; omega) ?_))))
  rw [pick_Places_l16_succ 4096 4095 4095]
  simp only [List.replicate_zero, List.length_cons, List.length_nil, Int.toNat_zero, getD_c0, toInt_int, els_sl, els_dI, List.length_map]
  exact wp_dec (by decide) (wp_dec (by decide) (wp_dec (by decide) (inner 4094 4094)))
theorem pick_At1_sp (a x : Arr) (ks : List Int) (ha : a.shape = [(a.cells.length : Int)]) (la : a.cells.length ≤ 2048) (hx : FineX ⟨false, x⟩) (hs : countS x.shape = ((x.cells.length : Int), 0)) (hi : intsA (vectA x.cells) = (ks, 0)) (hk : ∀ k ∈ ks, 1 ≤ k ∧ k ≤ (a.cells.length : Int)) : Sp 19 [dA a, .sl [dX ⟨false, x⟩]] [dA (.mk (a.s ||| totA x) x.shape (ks.map (fun k => a.cells.getD (k - 1).toNat Cell.none))), .int 0] := by
  have hkl : ks.length ≤ 2048 := by have := intsA_len (vectA x.cells); rw [hi] at this; exact Nat.le_trans this hx.len
  refine sound_ 4096 (pick_At_tree _ _ _) (wp_call (pick_Places1_sp a x ks ha la hx hs hi hk) (wp_ff rfl ?_))
  simp only [getD_c0, getD_c1, els_dI, List.length_map, Int.toNat_natCast, dC_none']
  refine wp_dec (by omega) (wp_dec (by omega) (wp_dec (by simp only [bigN]; omega) ?_))
  have key := loop_list (P := Tryz.prog) (md := md) ks (fun m k (cs : List Cell) => pick_At_l7 4096 m (.sl [dX ⟨false, x⟩]) (dI x.shape) (cs.map dC ++ List.replicate (ks.length - cs.length) (dC Cell.none)) (dI (ks.map (· - 1))) (ks.length : Int) (k : Int) (dA a) 0 0) (fun rest cs => [dA (.mk (a.s ||| totA x) x.shape (cs ++ rest.map (fun k => a.cells.getD (k - 1).toNat Cell.none))), .int 0]) (fun rest cs => cs.length + rest.length = ks.length)
    (fun m k cs hk hI => by
      simp only [pick_At_l7_succ, List.length_nil, dA_0, toInt_dB, dInt_dB] at hI ⊢
      refine wp_ndec (by omega) (wp_call (pick_Total_sp [⟨false, x⟩] (fun y hy => by simp at hy; subst hy; exact hx) (by simp)) ?_)
      simp only [getD_c0, toInt_dB, dInt_dB]
      refine wp_call (label_Join_sp a.s _) (wp_ret ?_)
      rw [show ks.length - cs.length = 0 by omega, dA_eq]
      simp [totX]
      rw [dB, BitVec.toNat_or])
    (fun m k cs z rest hd hI ih => by
      obtain ⟨h1, h2, h3⟩ := drop_cons hd
      have hle := congrArg List.length hd
      rw [List.length_drop, List.length_cons] at hle
      rw [List.length_cons] at hI
      have hkc : k = cs.length := by omega
      have hz := hk z (List.mem_of_getElem? h2)
      have g2 : (ks.map (· - 1))[k]? = some (z - 1) := by rw [List.getElem?_map, h2]; rfl
      have hzl : (z - 1).toNat < a.cells.length := by omega
      have gc : (a.cells.map dC).getD (z - 1).toNat D.nil = dC (a.cells.getD (z - 1).toNat Cell.none) := by
        rw [getD_map (List.getElem?_eq_getElem hzl), List.getD_eq_getElem?_getD, List.getElem?_eq_getElem hzl]; rfl
      simp only [pick_At_l7_succ, els_dI, dA_2, els_sl, List.length_map, Int.toNat_natCast, getD_map g2, toInt_int, gc, wrap_succ (show k < 9223372036854775807 by omega), List.length_append, List.length_replicate]
      refine wp_dec (by omega) (wp_dec (by omega) (wp_dec (by omega) (wp_dec (by omega) (wp_dec (by omega) (wp_dec (by omega) (wp_dec (by omega) ?_))))))
      have e := set_next (f := dC) (z := dC Cell.none) cs (a.cells.getD (z - 1).toNat Cell.none) (ks.length - (cs.length + 1))
      rw [show ks.length - (cs.length + 1) + 1 = ks.length - cs.length by omega] at e
      rw [hkc, e]
      have := ih (cs ++ [a.cells.getD (z - 1).toNat Cell.none]) (by simp; omega)
      rw [List.length_append, List.length_cons, List.length_nil, hkc] at this
      refine Tree.wp_mono this (fun ys hy => hy.trans ?_)
      simp)
    4096 0 [] (by omega) (by omega) (by simp)
  simpa using key
end Go.Proofs.YtbgcadcpeabpgaaGreat

set_option maxRecDepth 100000
namespace Go.Proofs.YtbgcadcpeabpgaaGreat
/-! scrim/scrimlaw15.PickAt -/
def law15_PickAt_orc : List (Nat × Orc) := []
theorem law15_PickAt_tree (n : Nat) (a0 : D) (l1 : D) : evFun Tryz.prog md law15_PickAt_orc n 5 [] [a0, l1] =
 .call 9 [] [a0] fun yy1 =>
 .br (!((yy1.getD 0 D.nil).toBool)) (.call 11 [] [] fun yy2 =>
 .ret [D.bool ((yy2.getD 0 D.nil).toBool)])
 (.call 18 [] [l1] fun yy3 =>
 .br (!((yy3.getD 0 D.nil).toBool)) (.call 11 [] [] fun yy4 =>
 .ret [D.bool ((yy4.getD 0 D.nil).toBool)])
 (.call 20 [] [l1] fun yy5 =>
 .call 19 [] [a0, yy5.getD 0 D.nil] fun yy6 =>
 .call 21 [] [a0, l1] fun yy7 =>
 .call 20 [] [l1] fun yy8 =>
 .call 22 [] [a0, yy8.getD 0 D.nil] fun yy9 =>
 .call 23 [] [a0, l1] fun yy10 =>
 .call 14 [] [yy6.getD 0 D.nil, D.int ((yy6.getD 1 D.nil).toInt), yy7.getD 0 D.nil, D.int ((yy7.getD 1 D.nil).toInt)] fun yy11 =>
 .br (!((yy11.getD 0 D.nil).toBool)) (.ret [D.bool false])
 (.call 24 [] [yy9.getD 0 D.nil, yy10.getD 0 D.nil] fun yy12 =>
 .br (!((yy12.getD 0 D.nil).toBool)) (.ret [D.bool false])
 (.call 24 [] [yy9.getD 1 D.nil, yy10.getD 1 D.nil] fun yy13 =>
 .br (!((yy13.getD 0 D.nil).toBool)) (.ret [D.bool false])
 (.br (((yy9.getD 2 D.nil).toInt) != ((yy10.getD 2 D.nil).toInt)) (.ret [D.bool false])
 (.call 20 [] [l1] fun yy14 =>
 .call 25 [] [yy14.getD 0 D.nil] fun yy15 =>
 .call 26 [] [l1] fun yy16 =>
 .br (((yy15.getD 0 D.nil).toInt) != ((yy16.getD 0 D.nil).toInt)) (.ret [D.bool false])
 (.br (((yy6.getD 1 D.nil).toInt) != 0) (.call 11 [] [] fun yy17 =>
 .ret [D.bool ((yy17.getD 0 D.nil).toBool)])
 (.call 15 [] [yy6.getD 0 D.nil, D.int 8] fun yy18 =>
 .br ((yy18.getD 0 D.nil).toBool) (.call 11 [] [] fun yy19 =>
 .ret [D.bool ((yy19.getD 0 D.nil).toBool)])
 (.ret [D.bool false]))))))))) := by kernel_rfl

/-! scrim/scrimlaw15.light -/
def law15_light_orc : List (Nat × Orc) := []
theorem law15_light_tree (n : Nat) (a0 : D) : evFun Tryz.prog md law15_light_orc n 9 [] [a0] =
 .call 36 [] [a0] fun yy1 =>
 .br ((yy1.getD 0 D.nil).toBool) (.ret [D.bool (decide ((((a0.fld 2).els).length : Int) ≤ 100))])
 (.ret [D.bool false]) := by kernel_rfl

/-! scrim/scrimlaw15.awake -/
def law15_awake_orc : List (Nat × Orc) := []
theorem law15_awake_tree (n : Nat)  : evFun Tryz.prog md law15_awake_orc n 11 [] [] =
 .call 37 [] [D.sl [D.int 2, D.int 0, D.int 1], D.int 0] fun yy1 =>
 .call 37 [] [D.sl [D.int 5, D.int 6, D.int 7], D.int 0] fun yy2 =>
 .call 12 [] [yy1.getD 0 D.nil, yy2.getD 0 D.nil, D.bool false] fun yy3 =>
 .call 37 [] [D.sl [D.int 1, D.int 0, D.int 1], D.int 0] fun yy4 =>
 .call 37 [] [D.sl [D.int 5, D.int 6], D.int 0] fun yy5 =>
 .call 16 [] [yy4.getD 0 D.nil, yy5.getD 0 D.nil, D.bool false] fun yy6 =>
 .call 37 [] [D.sl [D.int 5, D.int 6, D.int 7], D.int 0] fun yy7 =>
 .call 37 [] [D.sl [D.int 3, D.int 1], D.int 0] fun yy8 =>
 .call 19 [] [yy7.getD 0 D.nil, D.sl [D.agg [D.bool false, yy8.getD 0 D.nil]]] fun yy9 =>
 .br (((yy3.getD 1 D.nil).toInt) == 0) (.br (((yy6.getD 1 D.nil).toInt) == 0) (.br (((yy9.getD 1 D.nil).toInt) == 0) (.call 37 [] [D.sl [D.int 5, D.int 5, D.int 7], D.int 0] fun yy10 =>
 .call 38 [] [yy3.getD 0 D.nil, yy10.getD 0 D.nil] fun yy11 =>
 .br ((yy11.getD 0 D.nil).toBool) (.call 37 [] [D.sl [D.int 5, D.int 0, D.int 6], D.int 0] fun yy12 =>
 .call 38 [] [yy6.getD 0 D.nil, yy12.getD 0 D.nil] fun yy13 =>
 .br ((yy13.getD 0 D.nil).toBool) (.call 37 [] [D.sl [D.int 7, D.int 5], D.int 0] fun yy14 =>
 .call 38 [] [yy9.getD 0 D.nil, yy14.getD 0 D.nil] fun yy15 =>
 .ret [D.bool ((yy15.getD 0 D.nil).toBool)])
 (.ret [D.bool false]))
 (.ret [D.bool false]))
 (.ret [D.bool false]))
 (.ret [D.bool false]))
 (.ret [D.bool false]) := by kernel_rfl

/-! scrim/scrimlaw15.fine -/
def law15_fine_orc : List (Nat × Orc) := [(4, ⟨[(0, some 37), (3, none)], [], []⟩)]
def law15_fine_ps : List Nat := [37]
def law15_fine_rs : List ResultVar := [.tmp 2]
def law15_fine_ts : List Nat := [4]
noncomputable def law15_fine_l4 (n m4 : Nat) (l0 : D) (i3 : Int) : Tree :=
  evLoop Tryz.prog md (ev Tryz.prog md n law15_fine_orc (cAt (bodyOf Tryz.prog 18) [1, 1, 0, 1, 0, 0])) (orcAt law15_fine_orc 4) m4 ⟨[.d 37 l0, .undef, .undef, .i .i64 i3, .undef, .undef, .undef, .undef, .undef, .undef, .undef, .undef, .undef, .undef, .undef, .undef, .undef, .undef, .undef, .undef, .undef, .undef, .undef, .undef, .undef, .undef, .undef, .undef, .undef, .undef], [], [], [], []⟩
   (blockK 0 (seqK (joinE Tryz.prog md (joinAt law15_fine_orc (cAt (bodyOf Tryz.prog 18) [1, 1, 1])) (ev Tryz.prog md n law15_fine_orc (cAt (bodyOf Tryz.prog 18) [1, 1, 1]))) (retK Tryz.prog md (md 18) law15_fine_ps law15_fine_rs law15_fine_ts)))
theorem law15_fine_l4_succ (n m4 : Nat) (l0 : D) (i3 : Int) : law15_fine_l4 n (m4 + 1) l0 i3 =
 .br (decide (i3 < (l0.els.length : Int))) (.br (decide (0 ≤ i3)) (.br (decide (i3 < (l0.els.length : Int))) (.call 9 [] [(l0.els.getD (Int.toNat i3) D.nil).fld 1] fun yy1 =>
 .br (!((yy1.getD 0 D.nil).toBool)) (.ret [D.bool false])
 (.br (decide (0 ≤ i3)) (.br (decide (i3 < (l0.els.length : Int))) (.br (decide (12 < (((((l0.els.getD (Int.toNat i3) D.nil).fld 1).fld 2).els).length : Int))) (.ret [D.bool false])
 (law15_fine_l4 n m4 l0 (IntKind.wrap .i64 (i3 + 1)))) .fail) .fail)) .fail) .fail)
 (.ret [D.bool true]) := by kernel_rfl
theorem law15_fine_tree (n : Nat) (l0 : D) : evFun Tryz.prog md law15_fine_orc n 18 [] [l0] =
 .br (decide (8 < (l0.els.length : Int))) (.ret [D.bool false])
 (law15_fine_l4 n n l0 0) := by kernel_rfl

/-! scrim/scrimlaw15.mine -/
def law15_mine_orc : List (Nat × Orc) := [(3, ⟨[(0, some 37), (3, none), (4, none)], [], [(.slot 3, 1030, 53)]⟩)]
def law15_mine_ps : List Nat := [37]
def law15_mine_rs : List ResultVar := [.tmp 2]
def law15_mine_ts : List Nat := [40]
noncomputable def law15_mine_l3 (n m3 : Nat) (l0 : D) (out3 : List D) (i4 : Int) : Tree :=
  evLoop Tryz.prog md (ev Tryz.prog md n law15_mine_orc (cAt (bodyOf Tryz.prog 20) [1, 1, 0, 1, 0, 0])) (orcAt law15_mine_orc 3) m3 ⟨[.d 37 l0, .undef, .undef, .row 1030, .i .i64 i4, .undef, .undef, .undef, .undef, .undef, .undef, .undef, .undef, .undef, .undef, .undef, .undef, .undef, .undef, .undef, .undef, .undef, .undef, .undef, .undef, .undef], [(1030, .row 53 out3 true)], [1030], [], []⟩
   (blockK 0 (seqK (joinE Tryz.prog md (joinAt law15_mine_orc (cAt (bodyOf Tryz.prog 20) [1, 1, 1])) (ev Tryz.prog md n law15_mine_orc (cAt (bodyOf Tryz.prog 20) [1, 1, 1]))) (retK Tryz.prog md (md 20) law15_mine_ps law15_mine_rs law15_mine_ts)))
theorem law15_mine_l3_succ (n m3 : Nat) (l0 : D) (out3 : List D) (i4 : Int) : law15_mine_l3 n (m3 + 1) l0 out3 i4 =
 .br (decide (i4 < (l0.els.length : Int))) (.br (decide (0 ≤ i4)) (.br (decide (i4 < (l0.els.length : Int))) (.br (decide (0 ≤ i4)) (.br (decide (i4 < (l0.els.length : Int))) (.br (decide (out3.length + [D.agg [D.bool (((l0.els.getD (Int.toNat i4) D.nil).fld 0).toBool), (l0.els.getD (Int.toNat i4) D.nil).fld 1]].length ≤ bigN)) (law15_mine_l3 n m3 l0 (out3 ++ [D.agg [D.bool (((l0.els.getD (Int.toNat i4) D.nil).fld 0).toBool), (l0.els.getD (Int.toNat i4) D.nil).fld 1]]) (IntKind.wrap .i64 (i4 + 1))) .fail) .fail) .fail) .fail) .fail)
 (.ret [D.sl out3]) := by kernel_rfl
theorem law15_mine_tree (n : Nat) (l0 : D) : evFun Tryz.prog md law15_mine_orc n 20 [] [l0] =
 law15_mine_l3 n n l0 [] 0 := by kernel_rfl

end Go.Proofs.YtbgcadcpeabpgaaGreat

set_option maxRecDepth 100000
namespace Go.Proofs.YtbgcadcpeabpgaaGreat
def light15 (a : Arr) : Bool := goodA a && decide ((a.cells.length : Int) ≤ 100)
theorem light15_good {a : Arr} (h : light15 a = true) : rightA 8 a = true ∧ a.cells.length ≤ 100 := by
  unfold light15 at h
  simp only [Bool.and_eq_true, decide_eq_true_eq] at h
  exact ⟨goodA_right h.1, by omega⟩
theorem law15_light_sp (a : Arr) (ha : Fits a) : Sp 9 [dA a] [.bool (light15 a)] := by
  refine sound_ 0 (law15_light_tree _ _) (wp_call (ref08_Good_sp a ha) ?_)
  unfold light15
  simp only [dA_0, dA_1, dA_2, dC_0, dC_1, dC_2, dC_3, dC_4, dN_0, dN_1, dN_2, els_sl, els_dI, els_dL, List.length_map, Int.toNat_natCast, toInt_int, toInt_dB, toBool_bool, getD_c0, getD_c1, int_beq, int_bne, not_dec, dInt_dB, Int.toNat_zero]
  refine wp_br (fun h => wp_ret (by rw [h]; rfl)) (fun h => wp_ret (by rw [h]; rfl))
theorem vec_right15 (l : List Int) (h : l.all (fun x => decide (-100000 ≤ x ∧ x ≤ 100000)) = true) (hc : countS [(l.length : Int)] = ((l.length : Int), 0)) : rightA 8 (vecA l 0) = true := rightA_of (by simp only [vecA, Arr.shape_mk, Arr.cells_mk, List.length_map]; exact hc) (fun c hcc => by
  simp only [vecA, Arr.cells_mk, List.mem_map] at hcc
  obtain ⟨x, hx, rfl⟩ := hcc
  exact rightC_int 8 (aw_in l h x hx))
theorem ints15 (l : List Int) (h : ∀ x ∈ l, inR x) (s : Lab) : intsA (vecA l s) = (l, 0) := by
  unfold intsA
  rw [if_neg (by simp [vecA])]
  simp only [vecA, Arr.cells_mk, intsCs_vec h]
theorem same15_sp (l m : List Int) (h : l.all (fun x => decide (-100000 ≤ x ∧ x ≤ 100000)) = true) (hl : l.length ≤ 100) (e : vecA l 0 = vecA m 0) : Sp 38 [dA (vecA l 0), dA (vecA m 0)] [.bool true] := by
  have := ref08_Same_sp (vecA l 0) (fits_vec (by omega) (aw_in l h)) (vecA m 0)
  rw [show eqA (vecA l 0) (vecA m 0) = true from eqA_iff.2 e] at this
  exact this
theorem law15_awake_sp : Sp 11 [] [.bool true] := by
  have t0 : ∀ l : List Int, totA (vecA l 0) = 0 := fun l => totA_vec l 0
  have r1 := pick_Replicate_sp (vecA [2, 0, 1] 0) (vecA [5, 6, 7] 0) false (vec_right15 _ (by decide) (by decide)) (vec_right15 _ (by decide) (by decide))
  have r2 := pick_Expand_sp (vecA [1, 0, 1] 0) (vecA [5, 6] 0) false (vec_right15 _ (by decide) (by decide)) (vec_right15 _ (by decide) (by decide))
  have e1 : replS (vecA [2, 0, 1] 0) (vecA [5, 6, 7] 0) false = (vecA [5, 5, 7] 0, 0) := by
    unfold replS lS
    rw [ints15 _ (aw_in [2, 0, 1] (by decide)), t0]
    rfl
  have e2 : expS (vecA [1, 0, 1] 0) (vecA [5, 6] 0) false = (vecA [5, 0, 6] 0, 0) := by
    unfold expS
    rw [ints15 _ (aw_in [1, 0, 1] (by decide)), t0, if_neg (by decide), if_neg (by decide), if_neg (by decide)]
    rfl
  rw [e1] at r1
  rw [e2] at r2
  have hi : intsA (vectA (vecA [3, 1] 0).cells) = ([3, 1], 0) := by
    unfold intsA
    rw [if_neg (by simp [vectA])]
    simp only [vectA, vecA, Arr.cells_mk, intsCs_vec (aw_in [3, 1] (by decide))]
  have hrx := vec_right15 [3, 1] (by decide) (by decide)
  have r3 := pick_At1_sp (vecA [5, 6, 7] 0) (vecA [3, 1] 0) [3, 1] rfl (by decide) ⟨rightA_sml hrx, by decide, rightA_top hrx⟩ (by decide) hi (by decide)
  rw [t0] at r3
  refine sound_ 0 (law15_awake_tree _) ?_
  refine wp_call (ref11_Vector_sp [2, 0, 1] 0 (by decide) (aw_in _ (by decide))) (wp_call (ref11_Vector_sp [5, 6, 7] 0 (by decide) (aw_in _ (by decide))) (wp_call r1 (wp_call (ref11_Vector_sp [1, 0, 1] 0 (by decide) (aw_in _ (by decide))) (wp_call (ref11_Vector_sp [5, 6] 0 (by decide) (aw_in _ (by decide))) (wp_call r2 (wp_call (ref11_Vector_sp [5, 6, 7] 0 (by decide) (aw_in _ (by decide))) (wp_call (ref11_Vector_sp [3, 1] 0 (by decide) (aw_in _ (by decide))) (wp_call r3 (wp_tt rfl (wp_tt rfl (wp_tt rfl ?_)))))))))))
  refine wp_call (ref11_Vector_sp [5, 5, 7] 0 (by decide) (aw_in _ (by decide))) (wp_call (same15_sp [5, 5, 7] _ (by decide) (by decide) rfl) (wp_tt rfl ?_))
  refine wp_call (ref11_Vector_sp [5, 0, 6] 0 (by decide) (aw_in _ (by decide))) (wp_call (same15_sp [5, 0, 6] _ (by decide) (by decide) rfl) (wp_tt rfl ?_))
  exact wp_call (ref11_Vector_sp [7, 5] 0 (by decide) (aw_in _ (by decide))) (wp_call (same15_sp [7, 5] _ (by decide) (by decide) rfl) (wp_ret rfl))
theorem awake15 : Tw (.call 11 [] [] fun y => .ret [D.bool ((y.getD 0 D.nil).toBool)]) [.bool true] := wp_call law15_awake_sp (wp_ret rfl)
end Go.Proofs.YtbgcadcpeabpgaaGreat

set_option maxRecDepth 100000
namespace Go.Proofs.YtbgcadcpeabpgaaGreat
end Go.Proofs.YtbgcadcpeabpgaaGreat

set_option maxRecDepth 100000
namespace Go.Proofs.YtbgcadcpeabpgaaGreat
end Go.Proofs.YtbgcadcpeabpgaaGreat

set_option maxRecDepth 100000
namespace Go.Proofs.YtbgcadcpeabpgaaGreat
/-- The number of a place, the last axis first. -/
def horR : List Nat → List Nat → Nat
  | L :: Ls, m :: ms => horR Ls ms * L + m
  | _, _ => 0
def inB : List Nat → List Nat → Prop
  | L :: Ls, m :: ms => m < L ∧ inB Ls ms
  | [], [] => True
  | _, _ => False
theorem inB_len : ∀ {s p : List Nat}, inB s p → p.length = s.length
  | [], [], _ => rfl
  | L :: Ls, m :: ms, h => by simp [inB_len h.2]
  | [], _ :: _, h => h.elim
  | _ :: _, [], h => h.elim
theorem inB_pos : ∀ {s p : List Nat}, inB s p → ∀ x ∈ s, 1 ≤ x
  | [], _, _, x, hx => by cases hx
  | L :: Ls, m :: ms, h, x, hx => by
    rcases List.mem_cons.1 hx with rfl | hx
    · have := h.1; omega
    · exact inB_pos h.2 x hx
  | _ :: _, [], h, _, _ => h.elim
theorem horR_lt : ∀ {s p : List Nat}, inB s p → horR s p < prodN s
  | [], [], _ => by simp [horR, prodN]
  | L :: Ls, m :: ms, h => by
    have h1 := horR_lt h.2
    have h2 := h.1
    simp only [horR, prodN]
    have h3 : (horR Ls ms + 1) * L ≤ prodN Ls * L := Nat.mul_le_mul_right _ h1
    rw [Nat.add_mul, Nat.one_mul] at h3
    rw [Nat.mul_comm L]
    omega
  | [], _ :: _, h => h.elim
  | _ :: _, [], h => h.elim
theorem dig_hor : ∀ {s p : List Nat}, inB s p → digN s (horR s p) = p
  | [], [], _ => rfl
  | L :: Ls, m :: ms, h => by
    have hL : 0 < L := by have := h.1; omega
    simp only [horR, digN]
    rw [Nat.mul_comm, Nat.mul_add_mod, Nat.mod_eq_of_lt h.1, Nat.mul_add_div hL, Nat.div_eq_of_lt h.1, Nat.add_zero, dig_hor h.2]
  | [], _ :: _, h => h.elim
  | _ :: _, [], h => h.elim
theorem at_hor {s p : List Nat} (h : inB s.reverse p) : atN s (horR s.reverse p) = p.reverse := by unfold atN; rw [dig_hor h]
theorem hor_cnt {s p : List Nat} (h : inB s.reverse p) (hc : (countS (iN s)).2 = 0) : horR s.reverse p < cntN s := by
  have := horR_lt h
  rw [prodN_reverse] at this
  rw [cnt_prod hc (fun x hx => inB_pos h x (List.mem_reverse.2 hx))]; exact this
theorem fid_hor {s p : List Nat} (h : inB s.reverse p) (hc : (countS (iN s)).2 = 0) : fidN (plcN s) p.reverse 0 = (horR s.reverse p : Int) := by
  rw [← at_hor h]; exact fid_plc hc (hor_cnt h hc)
theorem prodN_zero : ∀ {s : List Nat}, 0 ∈ s → prodN s = 0
  | x :: xs, h => by
    rcases List.mem_cons.1 h with rfl | h
    · simp [prodN]
    · simp [prodN, prodN_zero h]
theorem cnt_prod0 {s : List Nat} (h : (countS (iN s)).2 = 0) : cntN s = prodN s := by
  rcases (cntN_cases h).2 with ⟨h0, h1⟩ | h1
  · rw [h1, prodN_zero h0]
  · exact h1.2.1
theorem prodN_le : ∀ {s : List Nat} (k : Nat), (∀ x ∈ s, x ≤ 2048) → s.length ≤ k → prodN s ≤ 2048 ^ k
  | [], k, _, _ => Nat.pow_pos (by omega)
  | x :: xs, 0, _, h => by simp at h
  | x :: xs, k + 1, hx, h => by
    have h1 := prodN_le (s := xs) k (fun y hy => hx y (by simp [hy])) (by simpa using h)
    have h2 := hx x (by simp)
    rw [Nat.pow_succ, Nat.mul_comm (2048 ^ k)]
    exact Nat.mul_le_mul h2 h1
/-- The product of axes that are not empty, ahead of others. -/
theorem prod_ahead {s u v : List Nat} (hc : (countS (iN s)).2 = 0) (hs : s = u ++ v) (hu : ∀ x ∈ u, 1 ≤ x) : prodN u ≤ 36028797018963968 := by
  have hl := (countS_len hc)
  have h6 : s.length ≤ 6 := by have := hl.1; rwa [iN_len] at this
  have hle : ∀ x ∈ s, x ≤ 2048 := fun x hx => by have := (hl.2 (x : Int) (List.mem_map.2 ⟨x, hx, rfl⟩)).2; omega
  rcases (cntN_cases hc).2 with ⟨h0, _⟩ | h1
  · rw [hs] at h0
    rcases List.mem_append.1 h0 with h0 | h0
    · have := hu 0 h0; omega
    · have hv : 1 ≤ v.length := List.length_pos_of_mem h0
      have : u.length ≤ 5 := by rw [hs, List.length_append] at h6; omega
      exact prodN_le 5 (fun x hx => hle x (by rw [hs]; simp [hx])) this
  · have hv := prodN_pos v (fun x hx => (h1.1 x (by rw [hs]; simp [hx])).1)
    have h2 := h1.2.1
    rw [hs, prodN_rev] at h2
    have h3 := h1.2.2.2
    rw [hs] at h3
    have h4 : prodN u * 1 ≤ prodN u * prodN v := Nat.mul_le_mul_left _ hv
    omega
/-- One axis more: every place with every part. -/
def stepP (ps : List (List Nat)) (part : List Nat) : List (List Nat) := ps.flatMap (fun p => part.map (fun m => m :: p))
theorem stepP_len (ps : List (List Nat)) (part : List Nat) : (stepP ps part).length = ps.length * part.length := by
  induction ps with
  | nil => simp [stepP]
  | cons p ps ih => unfold stepP at ih ⊢; rw [List.flatMap_cons, List.length_append, ih, List.length_map, List.length_cons, Nat.add_mul, Nat.one_mul, Nat.add_comm]
theorem stepP_in {ps : List (List Nat)} {part sr : List Nat} {L : Nat} (hp : ∀ p ∈ ps, inB sr p) (hm : ∀ m ∈ part, m < L) : ∀ p ∈ stepP ps part, inB (L :: sr) p := by
  intro p hpp
  obtain ⟨q, hq, hh⟩ := List.mem_flatMap.1 hpp
  obtain ⟨m, hmm, rfl⟩ := List.mem_map.1 hh
  exact ⟨hm m hmm, hp q hq⟩
def parN (x : Ax) (L : Nat) : List Nat := (partS x L).1.map Int.toNat
def shX (x : Ax) (L : Nat) : List Nat := if x.all then [L] else x.at_.shape.map Int.toNat
/-- Places along axes; their shape; an error. -/
def plR : List Nat → List Ax → List (List Nat) → List Nat → List (List Nat) × List Nat × Int
  | L :: Ls, x :: xs, ps, s => if (partS x L).2 ≠ 0 then ([], [], (partS x L).2) else if 2048 < ps.length * (parN x L).length then ([], [], 7) else plR Ls xs (stepP ps (parN x L)) (s ++ shX x L)
  | _, _, ps, s => if (countS (iN s)).2 ≠ 0 then ([], [], (countS (iN s)).2) else (ps, s, 0)
def placesR (a : Arr) (l : List Ax) : List (List Nat) × List Nat × Int := if a.shape = [] ∨ l.length ≠ a.shape.length then ([], [], 5) else plR (a.shape.map Int.toNat) l [[]] []
theorem partS_in {x : Ax} {L : Nat} : ∀ k ∈ (partS x L).1, 0 ≤ k ∧ k < (L : Int) := by
  intro k hk
  unfold partS at hk
  split at hk
  · split at hk
    · cases hk
    · obtain ⟨i, hi, rfl⟩ := List.mem_map.1 hk
      have := List.mem_range.1 hi
      omega
  · split at hk
    · cases hk
    · split at hk
      · rename_i r hr; exact (subS_len hr).2 k hk
      · cases hk
theorem parN_lt {x : Ax} {L : Nat} : ∀ m ∈ parN x L, m < L := by
  intro m hm
  obtain ⟨k, hk, rfl⟩ := List.mem_map.1 hm
  have := partS_in k hk
  omega
theorem parN_iN (x : Ax) (L : Nat) : (partS x L).1 = iN (parN x L) := by
  unfold parN iN
  rw [List.map_map]
  conv => lhs; rw [← List.map_id (partS x L).1]
  refine List.map_congr_left (fun k hk => ?_)
  have := partS_in k hk
  simp only [id, Function.comp]
  omega
theorem parN_len (x : Ax) (L : Nat) : (parN x L).length = (partS x L).1.length := by simp [parN]
theorem partS_len2 {x : Ax} {L : Nat} (hx : x.at_.cells.length ≤ 2048) (hL : L ≤ 2048) : (partS x L).1.length ≤ 2048 := by
  unfold partS
  split
  · split
    · simp
    · simp; omega
  · split
    · simp
    · split
      · rename_i r hr
        have := (subS_len hr).1
        have h2 := intsA_len (vectA x.at_.cells)
        have : (vectA x.at_.cells).cells.length = x.at_.cells.length := rfl
        simp only; omega
      · simp
/-- As many places as the shape says. -/
theorem plR_good : ∀ (Ls : List Nat) (xs : List Ax) (sr : List Nat) (ps : List (List Nat)) (s : List Nat), xs.length = Ls.length → (∀ x ∈ xs, rightA 8 x.at_ = true) → (∀ p ∈ ps, inB sr p) → ps.length = prodN s →
    (plR Ls xs ps s).2.2 = 0 → (∀ p ∈ (plR Ls xs ps s).1, inB (Ls.reverse ++ sr) p) ∧ (plR Ls xs ps s).1.length = cntN (plR Ls xs ps s).2.1 ∧ (countS (iN (plR Ls xs ps s).2.1)).2 = 0
  | [], xs, sr, ps, s, hl, hx, hp, hs, h0 => by
    have h0' : (if (countS (iN s)).2 ≠ 0 then (([], [], (countS (iN s)).2) : List (List Nat) × List Nat × Int) else (ps, s, 0)).2.2 = 0 := by simpa [plR] using h0
    have e : plR [] xs ps s = (if (countS (iN s)).2 ≠ 0 then ([], [], (countS (iN s)).2) else (ps, s, 0)) := by simp [plR]
    rw [e]
    split at h0'
    · rename_i h; exact absurd h0' h
    · rename_i h
      rw [if_neg h]
      have h := Classical.not_not.1 h
      exact ⟨by simpa using hp, by rw [cnt_prod0 h]; exact hs, h⟩
  | L :: Ls, [], sr, ps, s, hl, _, _, _, _ => by simp at hl
  | L :: Ls, x :: xs, sr, ps, s, hl, hx, hp, hs, h0 => by
    rw [plR] at h0 ⊢
    split at h0
    · rename_i h; exact absurd h0 h
    rename_i h1
    split at h0
    · cases h0
    rename_i h2
    rw [if_neg h1, if_neg h2]
    have h1 := Classical.not_not.1 h1
    have hpl : (parN x L).length = prodN (shX x L) := by
      have hxr := hx x (by simp)
      have hcs := (rightA_cells hxr).1
      rw [parN_len]
      unfold partS at h1 ⊢
      unfold shX
      split at h1
      · rename_i g
        rw [if_pos g, if_pos g]
        split at h1
        · cases h1
        · rename_i g2; rw [if_neg g2]; simp [prodN]
      · rename_i g
        rw [if_neg g, if_neg g]
        split at h1
        · rename_i g2; exact absurd h1 g2
        · rename_i g2
          rw [if_neg g2]
          split at h1
          · rename_i r hr
            have g3 := intsA_full (Classical.not_not.1 g2)
            have g4 : (vectA x.at_.cells).cells.length = x.at_.cells.length := rfl
            simp only [(subS_len hr).1, g3, g4]
            obtain ⟨t, ht⟩ := iN_of (l := x.at_.shape) (fun y hy => ((rightA_len hxr).2.2 y hy).1)
            have e : x.at_.shape.map Int.toNat = t := by rw [ht]; unfold iN; rw [List.map_map]; simp [Function.comp_def]
            rw [e, ← cnt_prod0 (s := t) (by rw [← ht, hcs])]
            unfold cntN
            rw [← ht, hcs]; simp
          · cases h1
    have := plR_good Ls xs (L :: sr) (stepP ps (parN x L)) (s ++ shX x L) (by simpa using hl) (fun y hy => hx y (by simp [hy])) (stepP_in hp parN_lt) (by rw [stepP_len, prodN_rev, hs, hpl]) h0
    rw [List.reverse_cons, List.append_assoc]
    exact this
theorem plR_err : ∀ (Ls : List Nat) (xs : List Ax) (ps : List (List Nat)) (s : List Nat), (plR Ls xs ps s).2.2 ≠ 0 → (plR Ls xs ps s).1 = [] ∧ (plR Ls xs ps s).2.1 = []
  | [], xs, ps, s, h => by
    have e : plR [] xs ps s = (if (countS (iN s)).2 ≠ 0 then ([], [], (countS (iN s)).2) else (ps, s, 0)) := by simp [plR]
    rw [e] at h ⊢
    split at h
    · rename_i g; rw [if_pos g]; exact ⟨rfl, rfl⟩
    · exact absurd rfl h
  | L :: Ls, [], ps, s, h => by
    have e : plR (L :: Ls) [] ps s = (if (countS (iN s)).2 ≠ 0 then ([], [], (countS (iN s)).2) else (ps, s, 0)) := by simp [plR]
    rw [e] at h ⊢
    split at h
    · rename_i g; rw [if_pos g]; exact ⟨rfl, rfl⟩
    · exact absurd rfl h
  | L :: Ls, x :: xs, ps, s, h => by
    rw [plR] at h ⊢
    split
    · exact ⟨rfl, rfl⟩
    rename_i g
    rw [if_neg g] at h
    split
    · exact ⟨rfl, rfl⟩
    rename_i g2
    rw [if_neg g2] at h
    exact plR_err Ls xs _ _ h
/-- What is chosen. -/
def atR (a : Arr) (l : List Ax) : Arr × Int := if (placesR a l).2.2 ≠ 0 then (.none, (placesR a l).2.2) else (.mk (a.s ||| totX l 0) (iN (placesR a l).2.1) ((placesR a l).1.map (fun p => a.cells.getD (horR (a.shape.map Int.toNat).reverse p) Cell.none)), 0)
end Go.Proofs.YtbgcadcpeabpgaaGreat

set_option maxRecDepth 100000
namespace Go.Proofs.YtbgcadcpeabpgaaGreat
theorem dX_all (x : Ax) : ((dX x).fld 0).toBool = x.all := rfl
theorem map_dP_inj (l : List Nat) : D.sl (l.map dP) = dI (iN l) := (dI_iN l).symm
theorem pl_l19 {Z : List D} (m6 m16 L k j : Nat) (part next : List Nat) (t33 : D) (t34 t35 : Int) (t66 : D) (t67 : Int) (a2 at4 : D) (s5 : List D) (e6 : Int) (p8 part10 : D) (hp : part.length ≤ 2048) (hn : next.length ≤ 4194304) (hw : ∀ m ∈ part, k * L + m < 9223372036854775807)
    (hK : Tw (pick_Places_l16 4096 m6 m16 (L : Int) part10 ((next ++ part.map (fun m => k * L + m)).map dP) t33 t34 t35 t66 t67 ((j + 1 : Nat) : Int) a2 at4 s5 e6 p8) Z) (hj : j < 9223372036854775807) :
    Tw (pick_Places_l19 4096 m6 m16 4096 (L : Int) part10 (next.map dP) (k : Int) t33 t34 t35 t66 t67 (j : Int) (.sl (part.map dP)) (part.length : Int) 0 a2 at4 s5 e6 p8) Z := by
  have key := loop_list (P := Tryz.prog) (md := md) part (fun m i (out : List Nat) => pick_Places_l19 4096 m6 m16 m (L : Int) part10 (out.map dP) (k : Int) t33 t34 t35 t66 t67 (j : Int) (.sl (part.map dP)) (part.length : Int) (i : Int) a2 at4 s5 e6 p8) (fun _ _ => Z) (fun rest out => next ++ part.map (fun m => k * L + m) = out ++ rest.map (fun m => k * L + m))
    (fun m i out hi hI => by
      rw [List.map_nil, List.append_nil] at hI
      rw [pick_Places_l19_succ]
      refine wp_ndec (by omega) ?_
      rw [wrap_succ hj, ← hI]
      exact hK)
    (fun m i out z rest hd hI ih => by
      obtain ⟨h1, h2, h3⟩ := drop_cons hd
      have hz := hw z (List.mem_of_getElem? h2)
      have hol : out.length ≤ 5000000 := by have := congrArg List.length hI; simp at this; omega
      have hk0 : k * L < 9223372036854775807 := by omega
      have w : IntKind.wrap .i64 (IntKind.wrap .i64 ((k : Int) * (L : Int)) + (z : Int)) = ((k * L + z : Nat) : Int) := by
        rw [← Int.natCast_mul, wrap64 (x := ((k * L : Nat) : Int)) (by omega) (by omega), wrap64 (by omega) (by omega)]; omega
      simp only [pick_Places_l19_succ, els_sl, List.length_map, Int.toNat_natCast, getD_map h2, dP_int, w, wrap_succ (show i < 9223372036854775807 by omega), List.length_cons, List.length_nil]
      refine wp_dec (by omega) (wp_dec (by omega) (wp_dec (by omega) (wp_dec (by simp only [bigN]; omega) ?_)))
      have := ih (out ++ [k * L + z]) (by rw [hI]; simp)
      rw [List.map_append] at this
      exact this)
    4096 0 next (by omega) (by omega) rfl
  exact key
theorem pl_l16 {Z : List D} (m6 L : Nat) (part ats : List Nat) (t33 : D) (t34 : Int) (i : Nat) (a2 : D) (s : List Nat) (e6 : Int) (x : Ax) (part10 at4 : D) (hp : part.length ≤ 2048) (ha : ats.length ≤ 2048) (hw : ∀ k ∈ ats, ∀ m ∈ part, k * L + m < 9223372036854775807)
    (hp10 : part10 = .sl (part.map dP)) (hs : s.length ≤ 1000000) (hx : x.all = false → (∀ y ∈ x.at_.shape, 0 ≤ y) ∧ x.at_.shape.length ≤ 1000000) (hi : i < 9223372036854775807)
    (hK : Tw (pick_Places_l6 4096 m6 t33 t34 ((i + 1 : Nat) : Int) a2 ((ats.flatMap (fun k => part.map (fun m => k * L + m))).map dP) ((s ++ shX x L).map dP) e6) Z) :
    Tw (pick_Places_l16 4096 m6 4096 (L : Int) part10 [] t33 t34 (i : Int) (.sl (ats.map dP)) (ats.length : Int) 0 a2 at4 (s.map dP) e6 (dX x)) Z := by
  subst hp10
  have key := loop_list (P := Tryz.prog) (md := md) ats (fun m j (out : List Nat) => pick_Places_l16 4096 m6 m (L : Int) (.sl (part.map dP)) (out.map dP) t33 t34 (i : Int) (.sl (ats.map dP)) (ats.length : Int) (j : Int) a2 at4 (s.map dP) e6 (dX x)) (fun _ _ => Z) (fun rest out => ats.flatMap (fun k => part.map (fun m => k * L + m)) = out ++ rest.flatMap (fun k => part.map (fun m => k * L + m)) ∧ out.length + rest.length * part.length = ats.length * part.length)
    (fun m j out hj hI => by
      have hI := hI.1
      rw [List.flatMap_nil, List.append_nil] at hI
      rw [hI] at hK
      rw [pick_Places_l16_succ]
      refine wp_ndec (by omega) ?_
      simp only [dX_all, dX_1, dA_1, els_dI, List.length_map, wrap_succ hi, List.length_cons, List.length_nil]
      refine wp_br (fun h => wp_dec (by simp only [bigN]; omega) ?_) (fun h => ?_)
      · rw [shX, if_pos h, List.map_append] at hK; exact hK
      · obtain ⟨h1, h2⟩ := hx h
        refine wp_dec (by simp only [bigN]; omega) ?_
        rw [shX, if_neg (by rw [h]; decide), List.map_append] at hK
        have e : (x.at_.shape.map Int.toNat).map dP = x.at_.shape.map D.int := by
          rw [List.map_map]
          refine List.map_congr_left (fun y hy => ?_)
          have := h1 y hy
          simp only [Function.comp, dP]
          rw [Int.toNat_of_nonneg this]
        rw [e] at hK
        exact hK)
    (fun m j out k rest hd hI ih => by
      obtain ⟨h1, h2, h3⟩ := drop_cons hd
      obtain ⟨hI1, hI2⟩ := hI
      have hol : out.length ≤ 4194304 := by
        have : ats.length * part.length ≤ 2048 * 2048 := Nat.mul_le_mul ha hp
        omega
      have ih := ih (out ++ part.map (fun m => k * L + m)) ⟨by rw [hI1]; simp, by rw [List.length_cons, Nat.add_mul, Nat.one_mul] at hI2; rw [List.length_append, List.length_map]; omega⟩
      rw [pick_Places_l16_succ]
      simp only [els_sl, List.length_map, Int.toNat_natCast, getD_map h2, dP_int]
      refine wp_dec (by omega) (wp_dec (by omega) (wp_dec (by omega) ?_))
      exact pl_l19 m6 m L k j part out _ _ _ _ _ _ _ _ _ _ _ hp hol (hw k (List.mem_of_getElem? h2)) ih (by omega))
    4096 0 [] (by omega) (by omega) (by simp)
  exact key
theorem pl_l6 (a : Arr) (l : List Ax) (s0 : List Nat) (ha : a.shape = iN s0) (hc : (countS (iN s0)).2 = 0) (hl8 : l.length ≤ 1000) (hx : ∀ x ∈ l, FineX x ∧ rightA 8 x.at_ = true) : ∀ (Ls : List Nat) (xs : List Ax) (pre : List Nat) (lpre : List Ax) (ps : List (List Nat)) (s : List Nat) (m6 : Nat), s0 = pre ++ Ls → l = lpre ++ xs → lpre.length = pre.length → xs.length = Ls.length → (∀ p ∈ ps, inB pre.reverse p) → ps.length ≤ 2048 → s.length + 10 * Ls.length ≤ 100000 → Ls.length < m6 →
    Tw (pick_Places_l6 4096 m6 (.sl (l.map dX)) (l.length : Int) (pre.length : Int) (dA a) ((ps.map (horR pre.reverse)).map dP) (s.map dP) 0) [.sl (((plR Ls xs ps s).1.map (horR s0.reverse)).map dP), .sl ((plR Ls xs ps s).2.1.map dP), .int (plR Ls xs ps s).2.2]
  | [], xs, pre, lpre, ps, s, m6, h1, h2, h3, h4, h5, h6, h7, h8 => by
    obtain ⟨m, rfl⟩ : ∃ m, m6 = m + 1 := ⟨m6 - 1, by omega⟩
    have hxs : xs = [] := List.length_eq_zero_iff.1 h4
    subst hxs
    have e : plR [] [] ps s = (if (countS (iN s)).2 ≠ 0 then ([], [], (countS (iN s)).2) else (ps, s, 0)) := by simp [plR]
    rw [List.append_nil] at h1 h2
    rw [e, pick_Places_l6_succ]
    refine wp_ndec (by rw [h2]; omega) ?_
    rw [map_dP_inj]
    refine wp_call (shape_Count_sp (iN s)) ?_
    simp only [getD_c0, getD_c1, toInt_int, int_bne]
    refine wp_decs (fun h => wp_ret (by rw [if_pos h]; rfl)) (fun h => wp_ret ?_)
    rw [if_neg h, h1, map_dP_inj, map_dP_inj]
  | L :: Ls, [], pre, lpre, ps, s, m6, h1, h2, h3, h4, h5, h6, h7, h8 => by simp at h4
  | L :: Ls, x :: xs, pre, lpre, ps, s, m6, h1, h2, h3, h4, h5, h6, h7, h8 => by
    obtain ⟨m, rfl⟩ : ∃ m, m6 = m + 1 := ⟨m6 - 1, by omega⟩
    have hxx := hx x (by rw [h2]; simp)
    have hcl := countS_len hc
    have hLle : L ≤ 2048 := by have := (hcl.2 (L : Int) (List.mem_map.2 ⟨L, by rw [h1]; simp, rfl⟩)).2; omega
    have gl : l[pre.length]? = some x := by rw [h2, ← h3, List.getElem?_append_right (Nat.le_refl _), Nat.sub_self]; rfl
    have gs : (iN s0)[pre.length]? = some (L : Int) := by unfold iN; rw [List.getElem?_map, h1, List.getElem?_append_right (Nat.le_refl _), Nat.sub_self]; rfl
    have ll : l.length = pre.length + 1 + xs.length := by rw [h2, List.length_append, List.length_cons]; omega
    have sl : s0.length = pre.length + 1 + Ls.length := by rw [h1, List.length_append, List.length_cons]; omega
    simp only [List.length_cons] at h4 h7 h8
    have hpt := part_sp x L hxx.1 hLle
    have hpl := partS_len2 (x := x) (L := L) hxx.1.len hLle
    have hpar : (partS x L).1 = iN (parN x L) := parN_iN x L
    rw [plR]
    simp only [pick_Places_l6_succ, dA_1, els_sl, els_dI, List.length_map, Int.toNat_natCast, getD_map gl, ha, getD_map gs, toInt_int, iN_len]
    refine wp_dec (by omega) (wp_dec (by omega) (wp_dec (by omega) (wp_dec (by omega) (wp_dec (by omega) (wp_call hpt ?_)))))
    simp only [getD_c0, getD_c1, toInt_int, int_bne, els_dI, List.length_map]
    refine wp_decs (fun h => wp_ret (by rw [if_pos h]; rfl)) (fun h => ?_)
    rw [if_neg h]
    have hm : ps.length * (partS x L).1.length ≤ 2048 * 2048 := Nat.mul_le_mul h6 hpl
    have w2 : IntKind.wrap .i64 ((ps.length : Int) * ((partS x L).1.length : Int)) = ((ps.length * (partS x L).1.length : Nat) : Int) := by
      rw [← Int.natCast_mul, wrap64 (by omega) (by omega)]
    rw [w2, parN_len]
    refine wp_decs (fun g => wp_ret (by rw [if_pos (by omega)]; rfl)) (fun g => ?_)
    rw [if_neg (by omega)]
    refine wp_dec (by decide) (wp_dec (by omega) (wp_dec (by simp only [bigN]; omega) ?_))
    have IH := pl_l6 a l s0 ha hc hl8 hx Ls xs (pre ++ [L]) (lpre ++ [x]) (stepP ps (parN x L)) (s ++ shX x L) m (by rw [h1]; simp) (by rw [h2]; simp) (by simp [h3]) (by omega) (by rw [List.reverse_append]; exact stepP_in h5 parN_lt) (by rw [stepP_len, parN_len]; omega) (by
      have : (shX x L).length ≤ 6 := by
        unfold shX
        split
        · simp
        · have := (rightA_len hxx.2).2.1; simpa using this
      rw [List.length_append]; omega) (by omega)
    have e1 : ((ps.map (horR pre.reverse)).flatMap (fun k => (parN x L).map (fun m => k * L + m))) = (stepP ps (parN x L)).map (horR (pre ++ [L]).reverse) := by
      unfold stepP
      rw [List.map_flatMap, List.flatMap_map]
      congr 1
      funext p
      rw [List.map_map, List.reverse_append]
      rfl
    have hwr : ∀ k ∈ ps.map (horR pre.reverse), ∀ m ∈ parN x L, k * L + m < 9223372036854775807 := by
      intro k hk m hm
      obtain ⟨p, hp, rfl⟩ := List.mem_map.1 hk
      have hmL := parN_lt m hm
      have hb : inB (pre ++ [L]).reverse (m :: p) := by rw [List.reverse_append]; exact ⟨hmL, h5 p hp⟩
      have h9 := horR_lt hb
      rw [prodN_reverse] at h9
      have h10 := prod_ahead hc (u := pre ++ [L]) (v := Ls) (by rw [h1]; simp) (fun y hy => inB_pos hb y (List.mem_reverse.2 hy))
      have : horR (pre ++ [L]).reverse (m :: p) = horR pre.reverse p * L + m := by rw [List.reverse_append]; rfl
      omega
    have e2 : (dI (partS x L).1) = .sl ((parN x L).map dP) := by rw [hpar, dI_iN]
    have key := pl_l16 (Z := [.sl (((plR Ls xs (stepP ps (parN x L)) (s ++ shX x L)).1.map (horR s0.reverse)).map dP), .sl ((plR Ls xs (stepP ps (parN x L)) (s ++ shX x L)).2.1.map dP), .int (plR Ls xs (stepP ps (parN x L)) (s ++ shX x L)).2.2]) m L (parN x L) (ps.map (horR pre.reverse)) (.sl (l.map dX)) (l.length : Int) pre.length (dA a) s 0 x (dI (partS x L).1) (.sl ((ps.map (horR pre.reverse)).map dP)) (by rw [parN_len]; exact hpl) (by rw [List.length_map]; exact h6) hwr e2 (by omega) (fun _ => ⟨fun y hy => ((rightA_len hxx.2).2.2 y hy).1, by have := (rightA_len hxx.2).2.1; omega⟩) (by omega) (by
      rw [e1]
      rw [List.length_append] at IH
      exact IH)
    rw [List.length_map] at key
    exact key
theorem pick_Places_sp (a : Arr) (l : List Ax) (ha : rightA 8 a = true) (hl8 : l.length ≤ 1000) (hx : ∀ x ∈ l, FineX x ∧ rightA 8 x.at_ = true) : Sp 22 [dA a, .sl (l.map dX)] [dI (iN ((placesR a l).1.map (horR (a.shape.map Int.toNat).reverse))), dI (iN (placesR a l).2.1), .int (placesR a l).2.2] := by
  obtain ⟨s0, hs0⟩ := iN_of (l := a.shape) (fun y hy => ((rightA_len ha).2.2 y hy).1)
  have e0 : a.shape.map Int.toNat = s0 := by rw [hs0]; unfold iN; rw [List.map_map]; simp [Function.comp_def]
  have hc : (countS (iN s0)).2 = 0 := by rw [← hs0, (rightA_cells ha).1]
  have hsl : a.shape.length = s0.length := by rw [hs0, iN_len]
  refine sound_ 4096 (pick_Places_tree _ _ _) ?_
  unfold placesR
  rw [e0]
  simp only [els_sl, dA_1, els_dI, List.length_map, int_beq, int_bne]
  refine wp_decs (fun h => wp_ret ?_) (fun h => wp_decs (fun g => wp_ret ?_) (fun g => ?_))
  · rw [if_pos (by
      by_cases g : a.shape = []
      · exact .inl g
      · refine .inr (fun hh => g (List.length_eq_zero_iff.1 (by omega))))]; rfl
  · rw [if_pos (.inr (by omega))]; rfl
  · have hll : l.length = a.shape.length := by omega
    rw [if_neg (by
      rintro (g2 | g2)
      · rw [g2] at hll; simp at hll; rw [hll] at h; simp at h
      · exact g2 hll)]
    have := pl_l6 a l s0 hs0 hc hl8 hx s0 l [] [] [[]] [] 4096 rfl rfl rfl (by omega) (by simp [inB]) (by simp) (by have := (countS_len hc).1; rw [iN_len] at this; simp; omega) (by have := (countS_len hc).1; rw [iN_len] at this; omega)
    simp only [map_dP_inj] at this
    exact this
theorem pick_At_sp (a : Arr) (l : List Ax) (ha : rightA 8 a = true) (hl8 : l.length ≤ 100) (hx : ∀ x ∈ l, FineX x ∧ rightA 8 x.at_ = true) : Sp 19 [dA a, .sl (l.map dX)] [dA (atR a l).1, .int (atR a l).2] := by
  obtain ⟨s0, hs0⟩ := iN_of (l := a.shape) (fun y hy => ((rightA_len ha).2.2 y hy).1)
  have e0 : a.shape.map Int.toNat = s0 := by rw [hs0]; unfold iN; rw [List.map_map]; simp [Function.comp_def]
  have hc : (countS (iN s0)).2 = 0 := by rw [← hs0, (rightA_cells ha).1]
  have hcl : a.cells.length = cntN s0 := by unfold cntN; rw [← hs0, (rightA_cells ha).1]; simp
  have hsl : a.shape.length = s0.length := by rw [hs0, iN_len]
  refine sound_ 4096 (pick_At_tree _ _ _) (wp_call (pick_Places_sp a l ha (by omega) hx) ?_)
  have hgood : (placesR a l).2.2 = 0 → (∀ p ∈ (placesR a l).1, inB s0.reverse p) ∧ (placesR a l).1.length = cntN (placesR a l).2.1 := by
    intro h
    unfold placesR at h ⊢
    split at h
    · cases h
    · rename_i g
      rw [if_neg g]
      rw [e0] at h ⊢
      have := plR_good s0 l [] [[]] [] (by omega) (fun x hxx => (hx x hxx).2) (by simp [inB]) (by simp [prodN]) h
      simp only [List.append_nil] at this
      exact ⟨this.1, this.2.1⟩
  unfold atR
  rw [e0]
  generalize placesR a l = R at *
  obtain ⟨ps, s, e⟩ := R
  simp only [getD_c0, getD_c1, getD_c2, toInt_int, int_bne, els_dI, List.length_map, iN_len] at hgood ⊢
  refine wp_decs (fun h => wp_ret (by rw [if_pos h, dA_none])) (fun h => ?_)
  obtain ⟨hin, hlen⟩ := hgood (Classical.not_not.1 h)
  rw [if_neg h]
  have hpl : ps.length ≤ 2048 := by rw [hlen]; have := countS_le (iN s); unfold cntN; omega
  simp only [Int.toNat_natCast, dC_none']
  refine wp_dec (by omega) (wp_dec (by omega) (wp_dec (by simp only [bigN]; omega) ?_))
  have key := loop_list (P := Tryz.prog) (md := md) ps (fun m k (cs : List Cell) => pick_At_l7 4096 m (.sl (l.map dX)) (dI (iN s)) (cs.map dC ++ List.replicate (ps.length - cs.length) (dC Cell.none)) (dI (iN (ps.map (horR s0.reverse)))) (ps.length : Int) (k : Int) (dA a) 0 e) (fun rest cs => [dA (.mk (a.s ||| totX l 0) (iN s) (cs ++ rest.map (fun p => a.cells.getD (horR s0.reverse p) Cell.none))), .int 0]) (fun rest cs => cs.length + rest.length = ps.length)
    (fun m k cs hk hI => by
      simp only [pick_At_l7_succ, List.length_nil, dA_0, toInt_dB, dInt_dB] at hI ⊢
      refine wp_ndec (by omega) (wp_call (pick_Total_sp l (fun y hy => (hx y hy).1) hl8) ?_)
      simp only [getD_c0, toInt_dB, dInt_dB]
      refine wp_call (label_Join_sp a.s _) (wp_ret ?_)
      rw [show ps.length - cs.length = 0 by omega, dA_eq]
      simp
      rw [dB, BitVec.toNat_or])
    (fun m k cs z rest hd hI ih => by
      obtain ⟨h1, h2, h3⟩ := drop_cons hd
      have hle := congrArg List.length hd
      rw [List.length_drop, List.length_cons] at hle
      rw [List.length_cons] at hI
      have hkc : k = cs.length := by omega
      have hb := hor_cnt (hin z (List.mem_of_getElem? h2)) hc
      have g2 : (iN (ps.map (horR s0.reverse)))[k]? = some ((horR s0.reverse z : Nat) : Int) := by unfold iN; rw [List.getElem?_map, List.getElem?_map, h2]; rfl
      have hzl : horR s0.reverse z < a.cells.length := by omega
      have gc : (a.cells.map dC).getD (horR s0.reverse z) D.nil = dC (a.cells.getD (horR s0.reverse z) Cell.none) := by
        rw [getD_map (List.getElem?_eq_getElem hzl), List.getD_eq_getElem?_getD, List.getElem?_eq_getElem hzl]; rfl
      simp only [pick_At_l7_succ, els_dI, dA_2, els_sl, List.length_map, iN_len, Int.toNat_natCast, getD_map g2, toInt_int, gc, wrap_succ (show k < 9223372036854775807 by omega), List.length_append, List.length_replicate]
      refine wp_dec (by omega) (wp_dec (by omega) (wp_dec (by omega) (wp_dec (by omega) (wp_dec (by omega) (wp_dec (by omega) (wp_dec (by omega) ?_))))))
      have e := set_next (f := dC) (z := dC Cell.none) cs (a.cells.getD (horR s0.reverse z) Cell.none) (ps.length - (cs.length + 1))
      rw [show ps.length - (cs.length + 1) + 1 = ps.length - cs.length by omega] at e
      rw [hkc, e]
      have := ih (cs ++ [a.cells.getD (horR s0.reverse z) Cell.none]) (by simp; omega)
      rw [List.length_append, List.length_cons, List.length_nil, hkc] at this
      refine Tree.wp_mono this (fun ys hy => hy.trans ?_)
      simp)
    4096 0 [] (by omega) (by omega) (by simp)
  simpa using key
end Go.Proofs.YtbgcadcpeabpgaaGreat

set_option maxRecDepth 100000
namespace Go.Proofs.YtbgcadcpeabpgaaGreat
def dQ (p : List Nat) : D := .sl (p.reverse.map dP)
theorem dQ_els (p : List Nat) : (dQ p).els = p.reverse.map dP := rfl
theorem dQ_cons (p : List Nat) (m : Nat) : D.sl (p.reverse.map dP ++ [dP m]) = dQ (m :: p) := by
  unfold dQ
  rw [List.reverse_cons, List.map_append]; rfl
theorem dQ_dI (p : List Nat) : dQ p = dI (iN p.reverse) := by rw [dI_iN]; rfl
theorem intsA_nosh (cs : List Cell) : intsA (.mk 0 [] cs) = intsA (vectA cs) := by
  unfold intsA
  rw [if_neg (by simp), if_neg (by simp [vectA])]; rfl
theorem ref15_list_sp (x : Ax) (L : Nat) (hx : FineX x) (hL : L ≤ 2048) : Sp 59 [dX x, .int (L : Int)] [dI (partS x L).1, dI (if (partS x L).2 ≠ 0 then [] else if x.all then [(L : Int)] else x.at_.shape), .int (partS x L).2] := by
  refine sound_ 4096 (ref15_list_tree _ _ _) ?_
  unfold partS
  simp only [dX_0, dX_1, dA_1, dA_2, toBool_bool, toInt_int]
  refine wp_br (fun h => ?_) (fun h => ?_)
  · simp only [h, if_true]
    rw [if_neg (by omega)]
    have key := loop_up (P := Tryz.prog) (md := md) L (fun m k (_ : Unit) => ref15_list_l4 4096 m (L : Int) ((List.range k).map (fun (i : Nat) => D.int (i : Int))) (k : Int)) (fun _ _ => [dI ((List.range L).map (fun (i : Nat) => (i : Int))), dI [(L : Int)], .int 0]) (fun _ _ => True)
      (fun m s _ => by
        simp only [ref15_list_l4_succ]
        refine wp_ndec (by omega) (wp_ret ?_)
        simp [dI])
      (fun m k s hk _ ih => by
        have ih := ih () trivial
        simp only [ref15_list_l4_succ, List.length_map, List.length_range, List.length_cons, List.length_nil, wrap_succ (show k < 9223372036854775807 by omega)]
        refine wp_dec (by omega) (wp_dec (by simp only [bigN]; omega) ?_)
        rw [List.range_succ, List.map_append] at ih
        exact ih)
      4096 0 () (by omega) (by omega) trivial
    simpa using key
  · have hlen := intsA_len (vectA x.at_.cells)
    have e : D.agg [D.int 0, D.sl [], D.sl (x.at_.cells.map dC)] = dA (.mk 0 [] x.at_.cells) := by rw [dA_eq]; rfl
    rw [e]
    simp only [h, Bool.false_eq_true, if_false]
    refine wp_call (ref08_Ints_sp _ hx.len hx.top) ?_
    rw [intsA_nosh]
    have hlen : (intsA (vectA x.at_.cells)).1.length ≤ 2048 := Nat.le_trans hlen hx.len
    have hin := intsA_inR (vectA x.at_.cells)
    generalize intsA (vectA x.at_.cells) = p at *
    obtain ⟨ks, e⟩ := p
    simp only [getD_c0, getD_c1, toInt_int, int_bne] at hlen hin ⊢
    refine wp_decs (fun h => wp_ret (by simp only [if_pos h]; rfl)) (fun h => ?_)
    simp only [if_neg h]
    have key := loop_list (P := Tryz.prog) (md := md) ks (fun m k (pre : List Int) => ref15_list_l12 4096 m (L : Int) (pre.map D.int) (dI ks) (k : Int) (dX x)) (fun rest pre => match subS L rest with
        | some r => [dI (pre ++ r), dI x.at_.shape, .int 0]
        | none => [dI [], dI [], .int 6]) (fun rest pre => pre.length + rest.length = ks.length)
      (fun m k pre hk hI => by
        simp only [ref15_list_l12_succ, els_dI, List.length_map, dX_1, dA_1]
        refine wp_ndec (by omega) (wp_ret ?_)
        simp [subS, dI])
      (fun m k pre z rest hd hI ih => by
        obtain ⟨h1, h2, h3⟩ := drop_cons hd
        have hle := congrArg List.length hd
        rw [List.length_drop, List.length_cons] at hle
        rw [List.length_cons] at hI
        have hir := hin z (List.mem_of_getElem? h2)
        simp only [ref15_list_l12_succ, els_dI, List.length_map, Int.toNat_natCast, getD_map h2, toInt_int, wrap_succ (show k < 9223372036854775807 by omega), subS, List.length_cons, List.length_nil]
        refine wp_dec (by omega) (wp_dec (by omega) (wp_dec (by omega) (wp_decs (fun g => wp_ret (by rw [if_pos g]; rfl)) (fun g => ?_))))
        simp only [if_neg g]
        refine wp_dec (by omega) (wp_dec (by omega) (wp_decs (fun g2 => wp_ret (by rw [if_pos g2]; rfl)) (fun g2 => ?_)))
        simp only [if_neg g2]
        have w : IntKind.wrap .i64 (z - 1) = z - 1 := wrap64 (by omega) (by omega)
        refine wp_dec (by omega) (wp_dec (by omega) (wp_dec (by simp only [bigN]; omega) ?_))
        rw [w]
        have := ih (pre ++ [z - 1]) (by simp; omega)
        rw [List.map_append] at this
        refine Tree.wp_mono this (fun ys hy => hy.trans ?_)
        cases subS L rest with
        | none => rfl
        | some r => simp)
      4096 0 [] (by omega) (by omega) (by simp)
    refine Tree.wp_mono key (fun ys hy => hy.trans ?_)
    rw [List.drop_zero]
    cases subS L ks with
    | none => rfl
    | some r => simp
theorem rl_l19 {Z : List D} (m6 m16 i p : Nat) (part q : List Nat) (ps next : List (List Nat)) (l1 : D) (s8 : List D) (a2 : D) (hq : ps[p]? = some q) (hql : q.length ≤ 1000) (hpp : p < 9223372036854775807) (hp : part.length ≤ 2048) (hn : next.length ≤ 4194304)
    (hK : Tw (ref15_Places_l16 4096 m6 m16 l1 (ps.map dQ) s8 (i : Int) (.sl (part.map dP)) ((next ++ part.map (fun m => m :: q)).map dQ) ((p + 1 : Nat) : Int) a2) Z) :
    Tw (ref15_Places_l19 4096 m6 m16 4096 l1 (ps.map dQ) s8 (i : Int) (.sl (part.map dP)) (next.map dQ) (p : Int) 0 a2) Z := by
  have hpl := (List.getElem?_eq_some_iff.1 hq).1
  have key := loop_list (P := Tryz.prog) (md := md) part (fun m j (out : List (List Nat)) => ref15_Places_l19 4096 m6 m16 m l1 (ps.map dQ) s8 (i : Int) (.sl (part.map dP)) (out.map dQ) (p : Int) (j : Int) a2) (fun _ _ => Z) (fun rest out => next ++ part.map (fun m => m :: q) = out ++ rest.map (fun m => m :: q))
    (fun m j out hj hI => by
      rw [List.map_nil, List.append_nil] at hI
      rw [ref15_Places_l19_succ]
      simp only [els_sl, List.length_map]
      refine wp_ndec (by omega) ?_
      rw [wrap_succ hpp, ← hI]
      exact hK)
    (fun m j out z rest hd hI ih => by
      obtain ⟨h1, h2, h3⟩ := drop_cons hd
      have hol : out.length ≤ 5000000 := by have := congrArg List.length hI; simp at this; omega
      simp only [ref15_Places_l19_succ, els_sl, List.length_map, Int.toNat_natCast, getD_map h2, getD_map hq, dQ_els, dP_int, List.length_reverse, wrap_succ (show j < 9223372036854775807 by omega), List.length_cons, List.length_nil]
      refine wp_dec (by omega) (wp_dec (by omega) (wp_dec (by omega) (wp_dec (by simp only [bigN]; omega) (wp_dec (by omega) (wp_dec (by omega) (wp_dec (by simp only [bigN]; omega) (wp_dec (by simp only [bigN]; omega) ?_)))))))
      have := ih (out ++ [z :: q]) (by rw [hI]; simp)
      rw [List.map_append] at this
      have e : D.sl (q.reverse.map dP ++ [D.int (z : Int)]) = dQ (z :: q) := dQ_cons q z
      rw [e]
      exact this)
    4096 0 next (by omega) (by omega) rfl
  exact key
theorem rl_l16 {Z : List D} (m6 i : Nat) (part : List Nat) (ps : List (List Nat)) (l1 : D) (s8 : List D) (a2 : D) (hql : ∀ q ∈ ps, q.length ≤ 1000) (hp : part.length ≤ 2048) (hps : ps.length ≤ 2048) (hi : i < 9223372036854775807)
    (hK : Tw (ref15_Places_l6 4096 m6 l1 ((stepP ps part).map dQ) s8 ((i + 1 : Nat) : Int) a2) Z) :
    Tw (ref15_Places_l16 4096 m6 4096 l1 (ps.map dQ) s8 (i : Int) (.sl (part.map dP)) [] 0 a2) Z := by
  have key := loop_list (P := Tryz.prog) (md := md) ps (fun m p (out : List (List Nat)) => ref15_Places_l16 4096 m6 m l1 (ps.map dQ) s8 (i : Int) (.sl (part.map dP)) (out.map dQ) (p : Int) a2) (fun _ _ => Z) (fun rest out => stepP ps part = out ++ stepP rest part ∧ out.length + rest.length * part.length = ps.length * part.length)
    (fun m j out hj hI => by
      have hI := hI.1
      have e0 : stepP [] part = [] := rfl
      rw [e0, List.append_nil] at hI
      rw [hI] at hK
      rw [ref15_Places_l16_succ]
      simp only [List.length_map]
      refine wp_ndec (by omega) ?_
      rw [wrap_succ hi]
      exact hK)
    (fun m j out q rest hd hI ih => by
      obtain ⟨h1, h2, h3⟩ := drop_cons hd
      obtain ⟨hI1, hI2⟩ := hI
      have hol : out.length ≤ 4194304 := by
        have : ps.length * part.length ≤ 2048 * 2048 := Nat.mul_le_mul hps hp
        omega
      have ih := ih (out ++ part.map (fun m => m :: q)) ⟨by rw [hI1]; simp [stepP], by rw [List.length_cons, Nat.add_mul, Nat.one_mul] at hI2; rw [List.length_append, List.length_map]; omega⟩
      rw [ref15_Places_l16_succ]
      simp only [List.length_map]
      refine wp_dec (by omega) ?_
      exact rl_l19 m6 m i j part q ps out l1 s8 a2 h2 (hql q (List.mem_of_getElem? h2)) (by omega) hp hol ih)
    4096 0 [] (by omega) (by omega) (by simp)
  exact key
theorem rl_l30 (a : Arr) (s0 : List Nat) (ha : a.shape = iN s0) (hc : (countS (iN s0)).2 = 0) (ps : List (List Nat)) (s8 : List D) (hps : ps.length ≤ 2048) (hin : ∀ p ∈ ps, inB s0.reverse p) :
    Tw (ref15_Places_l30 4096 4096 (ps.map dQ) s8 [] 0 (dA a)) [.sl ((ps.map (horR s0.reverse)).map dP), .sl s8, .int 0] := by
  have h6 : s0.length ≤ 6 := by have := (countS_len hc).1; rwa [iN_len] at this
  have key := loop_list (P := Tryz.prog) (md := md) ps (fun m k (out : List Nat) => ref15_Places_l30 4096 m (ps.map dQ) s8 (out.map dP) (k : Int) (dA a)) (fun rest out => [.sl ((out ++ rest.map (horR s0.reverse)).map dP), .sl s8, .int 0]) (fun rest out => out.length + rest.length = ps.length)
    (fun m k out hk hI => by
      simp only [ref15_Places_l30_succ, List.length_map]
      refine wp_ndec (by omega) (wp_ret ?_)
      simp)
    (fun m k out p rest hd hI ih => by
      obtain ⟨h1, h2, h3⟩ := drop_cons hd
      rw [List.length_cons] at hI
      have hb := hin p (List.mem_of_getElem? h2)
      have hpl := inB_len hb
      have ix := ref07_Index_sp s0 p.reverse (by rw [List.length_reverse, hpl, List.length_reverse]; omega)
      rw [fid_hor hb hc] at ix
      simp only [ref15_Places_l30_succ, List.length_map, dA_1, ha, Int.toNat_natCast, getD_map h2, dQ_dI, wrap_succ (show k < 9223372036854775807 by omega)]
      refine wp_dec (by omega) (wp_dec (by omega) (wp_dec (by omega) (wp_call ix ?_)))
      simp only [getD_c0, toInt_int, List.length_cons, List.length_nil]
      refine wp_dec (by simp only [bigN]; omega) ?_
      have := ih (out ++ [horR s0.reverse p]) (by simp; omega)
      rw [List.map_append] at this
      refine Tree.wp_mono this (fun ys hy => hy.trans ?_)
      simp)
    4096 0 [] (by omega) (by omega) (by simp)
  simpa using key
theorem rl_l6 (a : Arr) (l : List Ax) (s0 : List Nat) (ha : a.shape = iN s0) (hc : (countS (iN s0)).2 = 0) (hl8 : l.length ≤ 1000) (hx : ∀ x ∈ l, FineX x ∧ rightA 8 x.at_ = true) : ∀ (Ls : List Nat) (xs : List Ax) (pre : List Nat) (lpre : List Ax) (ps : List (List Nat)) (s : List Nat) (m6 : Nat), s0 = pre ++ Ls → l = lpre ++ xs → lpre.length = pre.length → xs.length = Ls.length → (∀ p ∈ ps, inB pre.reverse p) → ps.length ≤ 2048 → s.length + 10 * Ls.length ≤ 100000 → Ls.length < m6 →
    Tw (ref15_Places_l6 4096 m6 (.sl (l.map dX)) (ps.map dQ) (s.map dP) (pre.length : Int) (dA a)) [.sl (((plR Ls xs ps s).1.map (horR s0.reverse)).map dP), .sl ((plR Ls xs ps s).2.1.map dP), .int (plR Ls xs ps s).2.2]
  | [], xs, pre, lpre, ps, s, m6, h1, h2, h3, h4, h5, h6, h7, h8 => by
    obtain ⟨m, rfl⟩ : ∃ m, m6 = m + 1 := ⟨m6 - 1, by omega⟩
    have hxs : xs = [] := List.length_eq_zero_iff.1 h4
    subst hxs
    have e : plR [] [] ps s = (if (countS (iN s)).2 ≠ 0 then ([], [], (countS (iN s)).2) else (ps, s, 0)) := by simp [plR]
    rw [List.append_nil] at h1 h2
    rw [e, ref15_Places_l6_succ]
    simp only [els_sl, List.length_map]
    refine wp_ndec (by rw [h2]; omega) ?_
    rw [map_dP_inj]
    refine wp_call (ref07_Count_sp (iN s)) ?_
    simp only [getD_c0, getD_c1, toInt_int, int_bne]
    refine wp_decs (fun h => wp_ret (by rw [if_pos h]; rfl)) (fun h => ?_)
    rw [if_neg h]
    exact rl_l30 a s0 ha hc ps _ h6 (by rw [h1]; exact h5)
  | L :: Ls, [], pre, lpre, ps, s, m6, h1, h2, h3, h4, h5, h6, h7, h8 => by simp at h4
  | L :: Ls, x :: xs, pre, lpre, ps, s, m6, h1, h2, h3, h4, h5, h6, h7, h8 => by
    obtain ⟨m, rfl⟩ : ∃ m, m6 = m + 1 := ⟨m6 - 1, by omega⟩
    have hxx := hx x (by rw [h2]; simp)
    have hcl := countS_len hc
    have hLle : L ≤ 2048 := by have := (hcl.2 (L : Int) (List.mem_map.2 ⟨L, by rw [h1]; simp, rfl⟩)).2; omega
    have gl : l[pre.length]? = some x := by rw [h2, ← h3, List.getElem?_append_right (Nat.le_refl _), Nat.sub_self]; rfl
    have gs : (iN s0)[pre.length]? = some (L : Int) := by unfold iN; rw [List.getElem?_map, h1, List.getElem?_append_right (Nat.le_refl _), Nat.sub_self]; rfl
    have ll : l.length = pre.length + 1 + xs.length := by rw [h2, List.length_append, List.length_cons]; omega
    have sl : s0.length = pre.length + 1 + Ls.length := by rw [h1, List.length_append, List.length_cons]; omega
    simp only [List.length_cons] at h4 h7 h8
    have hpt := ref15_list_sp x L hxx.1 hLle
    have hpl := partS_len2 (x := x) (L := L) hxx.1.len hLle
    have hpar : (partS x L).1 = iN (parN x L) := parN_iN x L
    have hshl : (shX x L).length ≤ 6 := by
      unfold shX
      split
      · simp
      · have := (rightA_len hxx.2).2.1; simpa using this
    have hshi : (if x.all = true then [(L : Int)] else x.at_.shape) = iN (shX x L) := by
      unfold shX
      split
      · rfl
      · obtain ⟨t, ht⟩ := iN_of (l := x.at_.shape) (fun y hy => ((rightA_len hxx.2).2.2 y hy).1)
        rw [ht]; unfold iN; rw [List.map_map]; simp [Function.comp_def]
    rw [plR]
    simp only [ref15_Places_l6_succ, dA_1, els_sl, els_dI, List.length_map, Int.toNat_natCast, getD_map gl, ha, getD_map gs, toInt_int, iN_len]
    refine wp_dec (by omega) (wp_dec (by omega) (wp_dec (by omega) (wp_dec (by omega) (wp_dec (by omega) (wp_call hpt ?_)))))
    simp only [getD_c0, getD_c1, getD_c2, toInt_int, int_bne, els_dI, List.length_map]
    refine wp_decs (fun h => wp_ret (by rw [if_pos h]; rfl)) (fun h => ?_)
    rw [if_neg h]
    simp only [if_neg h, hshi]
    have hm : ps.length * (partS x L).1.length ≤ 2048 * 2048 := Nat.mul_le_mul h6 hpl
    have w2 : IntKind.wrap .i64 ((ps.length : Int) * ((partS x L).1.length : Int)) = ((ps.length * (partS x L).1.length : Nat) : Int) := by
      rw [← Int.natCast_mul, wrap64 (by omega) (by omega)]
    rw [w2, parN_len]
    refine wp_decs (fun g => wp_ret (by rw [if_pos (by omega)]; rfl)) (fun g => ?_)
    rw [if_neg (by omega)]
    refine wp_dec (by simp only [bigN, iN_len]; omega) ?_
    have IH := rl_l6 a l s0 ha hc hl8 hx Ls xs (pre ++ [L]) (lpre ++ [x]) (stepP ps (parN x L)) (s ++ shX x L) m (by rw [h1]; simp) (by rw [h2]; simp) (by simp [h3]) (by omega) (by rw [List.reverse_append]; exact stepP_in h5 parN_lt) (by rw [stepP_len, parN_len]; omega) (by rw [List.length_append]; omega) (by omega)
    rw [List.length_append, List.map_append, ← iN_D (shX x L)] at IH
    rw [hpar, dI_iN]
    refine rl_l16 m pre.length (parN x L) ps _ _ _ (fun q hq => ?_) (by rw [parN_len]; exact hpl) h6 (by omega) IH
    rw [inB_len (h5 q hq), List.length_reverse]
    have := hcl.1
    rw [iN_len] at this
    omega
theorem ref15_Places_sp (a : Arr) (l : List Ax) (ha : rightA 8 a = true) (hl8 : l.length ≤ 1000) (hx : ∀ x ∈ l, FineX x ∧ rightA 8 x.at_ = true) : Sp 23 [dA a, .sl (l.map dX)] [dI (iN ((placesR a l).1.map (horR (a.shape.map Int.toNat).reverse))), dI (iN (placesR a l).2.1), .int (placesR a l).2.2] := by
  obtain ⟨s0, hs0⟩ := iN_of (l := a.shape) (fun y hy => ((rightA_len ha).2.2 y hy).1)
  have e0 : a.shape.map Int.toNat = s0 := by rw [hs0]; unfold iN; rw [List.map_map]; simp [Function.comp_def]
  have hc : (countS (iN s0)).2 = 0 := by rw [← hs0, (rightA_cells ha).1]
  have hsl : a.shape.length = s0.length := by rw [hs0, iN_len]
  refine sound_ 4096 (ref15_Places_tree _ _ _) ?_
  unfold placesR
  rw [e0]
  simp only [els_sl, dA_1, els_dI, List.length_map, int_beq, int_bne]
  refine wp_decs (fun h => wp_ret ?_) (fun h => wp_decs (fun g => wp_ret ?_) (fun g => ?_))
  · rw [if_pos (.inl (List.length_eq_zero_iff.1 (by omega)))]; rfl
  · rw [if_pos (.inr (by omega))]; rfl
  · have hll : l.length = a.shape.length := by omega
    rw [if_neg (by
      rintro (g2 | g2)
      · rw [g2] at h; simp at h
      · exact g2 hll)]
    have := rl_l6 a l s0 hs0 hc hl8 hx s0 l [] [] [[]] [] 4096 rfl rfl rfl (by omega) (by simp [inB]) (by simp) (by have := (countS_len hc).1; rw [iN_len] at this; simp; omega) (by have := (countS_len hc).1; rw [iN_len] at this; omega)
    simp only [map_dP_inj] at this
    exact this
theorem ref15_Total_sp (l : List Ax) (hl : ∀ x ∈ l, FineX x) (hlen : l.length ≤ 100) : Sp 26 [.sl (l.map dX)] [dB (totX l 0)] := by
  refine sound_ 4096 (ref15_Total_tree _ _) ?_
  have key := loop_list (P := Tryz.prog) (md := md) l (fun m k (s : Lab) => ref15_Total_l3 4096 m (.sl (l.map dX)) (s.toNat : Int) (k : Int)) (fun rest s => [dB (totX rest s)]) (fun _ _ => True)
    (fun m k s hk _ => by
      simp only [ref15_Total_l3_succ, els_sl, List.length_map]
      exact wp_ndec (by omega) (wp_ret (by rw [dInt_dB]; rfl)))
    (fun m k s x rest hd _ ih => by
      obtain ⟨h1, h2, h3⟩ := drop_cons hd
      simp only [ref15_Total_l3_succ, els_sl, List.length_map, Int.toNat_natCast, getD_map h2, dX_0, dX_1, toBool_bool, wrap_succ (show k < 9223372036854775807 by omega)]
      refine wp_dec (by omega) (wp_dec (by omega) (wp_dec (by omega) (wp_br (fun g => ?_) (fun g => ?_))))
      · have g : x.all = false := by simpa using g
        refine wp_dec (by omega) (wp_dec (by omega) (wp_call (ref08_Total_sp _ (hl x (List.mem_of_getElem? h2)).sml.fits) ?_))
        simp only [getD_c0, toInt_dB, dInt_dB]
        refine wp_call (ref01_Join_sp s _) ?_
        simp only [getD_c0, toInt_dB]
        have := ih (s ||| totA x.at_) trivial
        rw [show totX (x :: rest) s = totX rest (s ||| totA x.at_) by simp [totX, g]]
        exact this
      · have g : x.all = true := by simpa using g
        rw [show totX (x :: rest) s = totX rest s by simp [totX, g]]
        exact ih s trivial)
    4096 0 0 (by omega) (by omega) trivial
  exact key
theorem ref15_At_sp (a : Arr) (l : List Ax) (ha : rightA 8 a = true) (hl8 : l.length ≤ 100) (hx : ∀ x ∈ l, FineX x ∧ rightA 8 x.at_ = true) : Sp 21 [dA a, .sl (l.map dX)] [dA (atR a l).1, .int (atR a l).2] := by
  obtain ⟨s0, hs0⟩ := iN_of (l := a.shape) (fun y hy => ((rightA_len ha).2.2 y hy).1)
  have e0 : a.shape.map Int.toNat = s0 := by rw [hs0]; unfold iN; rw [List.map_map]; simp [Function.comp_def]
  have hc : (countS (iN s0)).2 = 0 := by rw [← hs0, (rightA_cells ha).1]
  have hcl : a.cells.length = cntN s0 := by unfold cntN; rw [← hs0, (rightA_cells ha).1]; simp
  have hsl : a.shape.length = s0.length := by rw [hs0, iN_len]
  refine sound_ 4096 (ref15_At_tree _ _ _) (wp_call (ref15_Places_sp a l ha (by omega) hx) ?_)
  have hgood : (placesR a l).2.2 = 0 → (∀ p ∈ (placesR a l).1, inB s0.reverse p) ∧ (placesR a l).1.length = cntN (placesR a l).2.1 := by
    intro h
    unfold placesR at h ⊢
    split at h
    · cases h
    · rename_i g
      rw [if_neg g]
      rw [e0] at h ⊢
      have := plR_good s0 l [] [[]] [] (by omega) (fun x hxx => (hx x hxx).2) (by simp [inB]) (by simp [prodN]) h
      simp only [List.append_nil] at this
      exact ⟨this.1, this.2.1⟩
  unfold atR
  rw [e0]
  generalize placesR a l = R at *
  obtain ⟨ps, s, e⟩ := R
  simp only [getD_c0, getD_c1, getD_c2, toInt_int, int_bne] at hgood ⊢
  refine wp_decs (fun h => wp_ret (by rw [if_pos h, dA_none])) (fun h => ?_)
  obtain ⟨hin, hlen⟩ := hgood (Classical.not_not.1 h)
  rw [if_neg h]
  have hpl : ps.length ≤ 2048 := by rw [hlen]; have := countS_le (iN s); unfold cntN; omega
  refine wp_call (ref15_Total_sp l (fun y hy => (hx y hy).1) hl8) ?_
  simp only [getD_c0, dA_0, toInt_dB, dInt_dB]
  refine wp_call (ref01_Join_sp a.s _) ?_
  simp only [getD_c0, toInt_dB]
  have key := loop_list (P := Tryz.prog) (md := md) ps (fun m k (cs : List Cell) => ref15_At_l6 4096 m (dI (iN (ps.map (horR s0.reverse)))) (k : Int) (dA a) 0 ((a.s ||| totX l 0).toNat : Int) (dI (iN s)) (cs.map dC)) (fun rest cs => [dA (.mk (a.s ||| totX l 0) (iN s) (cs ++ rest.map (fun p => a.cells.getD (horR s0.reverse p) Cell.none))), .int 0]) (fun rest cs => cs.length + rest.length = ps.length)
    (fun m k cs hk hI => by
      simp only [ref15_At_l6_succ, els_dI, List.length_map, iN_len]
      refine wp_ndec (by omega) (wp_ret ?_)
      rw [dA_eq]
      simp [dB])
    (fun m k cs z rest hd hI ih => by
      obtain ⟨h1, h2, h3⟩ := drop_cons hd
      rw [List.length_cons] at hI
      have hb := hor_cnt (hin z (List.mem_of_getElem? h2)) hc
      have g2 : (iN (ps.map (horR s0.reverse)))[k]? = some ((horR s0.reverse z : Nat) : Int) := by unfold iN; rw [List.getElem?_map, List.getElem?_map, h2]; rfl
      have hzl : horR s0.reverse z < a.cells.length := by omega
      have gc : (a.cells.map dC).getD (horR s0.reverse z) D.nil = dC (a.cells.getD (horR s0.reverse z) Cell.none) := by
        rw [getD_map (List.getElem?_eq_getElem hzl), List.getD_eq_getElem?_getD, List.getElem?_eq_getElem hzl]; rfl
      simp only [ref15_At_l6_succ, els_dI, dA_2, els_sl, List.length_map, iN_len, Int.toNat_natCast, getD_map g2, toInt_int, gc, wrap_succ (show k < 9223372036854775807 by omega), List.length_cons, List.length_nil]
      refine wp_dec (by omega) (wp_dec (by omega) (wp_dec (by omega) (wp_dec (by omega) (wp_dec (by omega) (wp_dec (by simp only [bigN]; omega) ?_)))))
      have := ih (cs ++ [a.cells.getD (horR s0.reverse z) Cell.none]) (by simp; omega)
      rw [List.map_append] at this
      refine Tree.wp_mono this (fun ys hy => hy.trans ?_)
      simp)
    4096 0 [] (by omega) (by omega) (by simp)
  simpa using key
end Go.Proofs.YtbgcadcpeabpgaaGreat

set_option maxRecDepth 100000
namespace Go.Proofs.YtbgcadcpeabpgaaGreat
open Go.ChangeShapes Go.WideShapes Go.ChangeAt Go.RowKit
theorem fields_Axis15 : (fieldsOf Tryz.prog 85).map (fun fs => fs.map (·.type)) = some [4, 26] := by kernel_rfl
theorem len2' {α : Type} {l : List α} (h : l.length = 2) : ∃ a b, l = [a, b] := by
  match l, h with
  | [a, b], _ => exact ⟨a, b, rfl⟩
theorem rd_axis {w : World} {M : Nat → Prop} {y : D} {c : Nat → Option Value} (hx : RdC Tryz.prog md w M (.ty 85) y c) : ∃ x : Ax, y = dX x ∧ Fits x.at_ := by
  obtain ⟨fs, hf, ht⟩ := Option.map_eq_some_iff.1 fields_Axis15
  obtain ⟨ds, rfl, hl, hh⟩ := rd_struct hx hf
  have : fs.length = 2 := by rw [← List.length_map (f := (·.type)), ht]; rfl
  obtain ⟨a, b, rfl⟩ := len2' (by rw [hl, this])
  obtain ⟨f0, hf0, e0⟩ := types_at ht (i := 0) rfl
  obtain ⟨f1, hf1, e1⟩ := types_at ht (i := 1) rfl
  obtain ⟨_, h0⟩ := hh 0 f0 a hf0 rfl
  obtain ⟨_, h1⟩ := hh 1 f1 b hf1 rfl
  rw [e0] at h0; rw [e1] at h1
  obtain ⟨n, rfl⟩ := rd_bool h0 (by kernel_rfl)
  obtain ⟨y, rfl, hy⟩ := rd_arr _ (Nat.lt_succ_self _) h1
  exact ⟨⟨n, y⟩, rfl, hy⟩
def axTs : List Nat := 37 :: 85 :: lawTs
theorem axTs_plain : plainTs Tryz.prog axTs = true := by kernel_rfl
section
variable {H : Type} {enc : TypeId × Value → H} {W : World} {sp : Nat → Bool} {held : Bool} {r : Reach} {b0 : Nat} {v : Value} {d : DataW H} {ps : List MemPlace}
theorem arg_axes (hval : Value.okWide Tryz.prog W r b0 37 v) (h : DataW.Trod enc Tryz.prog W 0 sp held 37 v d ps) : ∃ l : List Ax, (l.length ≤ maxLen ∧ ∀ x ∈ l, Fits x.at_) ∧ Rd Tryz.prog md W (fun _ => False) (.ty 37) (.sl (l.map dX)) v := by
  obtain ⟨y, hy, hyw⟩ := arg_rd (md := md) wfP axTs_plain (by decide) hval h
  obtain ⟨es, rfl, l2, hes⟩ := rd_slc hy.rd (e := 85) (by kernel_rfl)
  have key : ∃ cs : List Ax, es = cs.map dX ∧ ∀ x ∈ cs, Fits x.at_ := by
    clear l2 hy hyw
    induction es with
    | nil => exact ⟨[], rfl, (fun _ h => by cases h)⟩
    | cons x es ih =>
      obtain ⟨cs, rfl, g1⟩ := ih (fun y hy => hes y (by simp [hy]))
      obtain ⟨_, hx⟩ := hes x (by simp)
      obtain ⟨z, rfl, hz⟩ := rd_axis hx
      exact ⟨z :: cs, rfl, fun y hy => by rcases List.mem_cons.1 hy with rfl | hy; exact hz; exact g1 y hy⟩
  obtain ⟨cs, rfl, g1⟩ := key
  exact ⟨cs, ⟨by simpa using l2, g1⟩, hy⟩
end
def fine15 (l : List Ax) : Bool := l.all (fun x => light15 x.at_ && decide (x.at_.cells.length ≤ 12))
theorem law15_fine_sp (l : List Ax) (hl : ∀ x ∈ l, Fits x.at_) : Sp 18 [.sl (l.map dX)] [.bool (decide (l.length ≤ 8) && fine15 l)] := by
  refine sound_ 4096 (law15_fine_tree _ _) ?_
  simp only [els_sl, List.length_map]
  refine wp_decs (fun h => wp_ret ?_) (fun h => ?_)
  · rw [decide_eq_false (by omega)]; rfl
  rw [decide_eq_true (show l.length ≤ 8 by omega), Bool.true_and]
  have key := loop_list (P := Tryz.prog) (md := md) l (fun m k (_ : Unit) => law15_fine_l4 4096 m (.sl (l.map dX)) (k : Int)) (fun rest _ => [.bool (fine15 rest)]) (fun _ _ => True)
    (fun m k t hk _ => by
      simp only [law15_fine_l4_succ, els_sl, List.length_map]
      exact wp_ndec (by omega) (wp_ret rfl))
    (fun m k t x rest hd _ ih => by
      obtain ⟨h1, h2, h3⟩ := drop_cons hd
      have ih := ih () trivial
      simp only [law15_fine_l4_succ, els_sl, List.length_map, Int.toNat_natCast, getD_map h2, dX_1, dA_2, wrap_succ (show k < 9223372036854775807 by omega)]
      refine wp_dec (by omega) (wp_dec (by omega) (wp_dec (by omega) (wp_call (law15_light_sp x.at_ (hl x (List.mem_of_getElem? h2))) ?_)))
      simp only [getD_c0, toBool_bool, fine15, List.all_cons]
      refine wp_br (fun g => wp_ret ?_) (fun g => ?_)
      · rw [show light15 x.at_ = false by simpa using g]; rfl
      rw [show light15 x.at_ = true by simpa using g]
      refine wp_dec (by omega) (wp_dec (by omega) (wp_decs (fun g2 => wp_ret ?_) (fun g2 => ?_)))
      · rw [decide_eq_false (by omega)]; rfl
      · rw [decide_eq_true (show x.at_.cells.length ≤ 12 by omega)]
        simp only [Bool.true_and]
        exact ih)
    4096 0 () (by omega) (by omega) trivial
  exact key
theorem dX_mk (x : Ax) : D.agg [D.bool ((dX x).fld 0).toBool, (dX x).fld 1] = dX x := rfl
theorem law15_mine_sp (l : List Ax) (hl : l.length ≤ 8) : Sp 20 [.sl (l.map dX)] [.sl (l.map dX)] := by
  refine sound_ 4096 (law15_mine_tree _ _) ?_
  have key := loop_list (P := Tryz.prog) (md := md) l (fun m k (pre : List Ax) => law15_mine_l3 4096 m (.sl (l.map dX)) (pre.map dX) (k : Int)) (fun rest pre => [.sl ((pre ++ rest).map dX)]) (fun rest pre => pre.length + rest.length = l.length)
    (fun m k t hk _ => by
      simp only [law15_mine_l3_succ, els_sl, List.length_map]
      exact wp_ndec (by omega) (wp_ret (by simp)))
    (fun m k t x rest hd hI ih => by
      obtain ⟨h1, h2, h3⟩ := drop_cons hd
      rw [List.length_cons] at hI
      have ih := ih (t ++ [x]) (by simp; omega)
      simp only [law15_mine_l3_succ, els_sl, List.length_map, Int.toNat_natCast, getD_map h2, dX_mk, wrap_succ (show k < 9223372036854775807 by omega), List.length_cons, List.length_nil]
      refine wp_dec (by omega) (wp_dec (by omega) (wp_dec (by omega) (wp_dec (by omega) (wp_dec (by omega) (wp_dec (by simp only [bigN]; omega) ?_)))))
      rw [List.map_append] at ih
      refine Tree.wp_mono ih (fun ys hy => hy.trans ?_)
      simp)
    4096 0 [] (by omega) (by omega) (by simp)
  exact key
theorem atR_good {a : Arr} {l : List Ax} (ha : rightA 8 a = true) (hx : ∀ x ∈ l, rightA 8 x.at_ = true) : ((atR a l).2 = 0 → rightA 8 (atR a l).1 = true) ∧ ((atR a l).2 ≠ 0 → (atR a l).1 = .none) := by
  obtain ⟨s0, hs0⟩ := iN_of (l := a.shape) (fun y hy => ((rightA_len ha).2.2 y hy).1)
  have e0 : a.shape.map Int.toNat = s0 := by rw [hs0]; unfold iN; rw [List.map_map]; simp [Function.comp_def]
  have hc : (countS (iN s0)).2 = 0 := by rw [← hs0, (rightA_cells ha).1]
  have hcl : a.cells.length = cntN s0 := by unfold cntN; rw [← hs0, (rightA_cells ha).1]; simp
  have hsl : a.shape.length = s0.length := by rw [hs0, iN_len]
  refine ⟨fun h => ?_, fun h => ?_⟩
  · unfold atR at h ⊢
    split at h
    · rename_i g; exact absurd h g
    rename_i g
    rw [if_neg g]
    have g := Classical.not_not.1 g
    have hg : (∀ p ∈ (placesR a l).1, inB s0.reverse p) ∧ (placesR a l).1.length = cntN (placesR a l).2.1 ∧ (countS (iN (placesR a l).2.1)).2 = 0 := by
      unfold placesR at g ⊢
      split at g
      · cases g
      · rename_i g2
        rw [if_neg g2]
        rw [e0] at g ⊢
        have := plR_good s0 l [] [[]] [] (by omega) hx (by simp [inB]) (by simp [prodN]) g
        simp only [List.append_nil] at this
        exact this
    rw [e0]
    generalize placesR a l = R at *
    obtain ⟨h1, h2, h3⟩ := hg
    refine rightA_of ?_ (fun c hcc => ?_)
    · simp only [Arr.shape_mk, Arr.cells_mk, List.length_map, h2]
      have := countS_le (iN R.2.1)
      exact Prod.ext (by simp only; unfold cntN; omega) h3
    · simp only [Arr.cells_mk, List.mem_map] at hcc
      obtain ⟨p, hp, rfl⟩ := hcc
      have hb := hor_cnt (h1 p hp) hc
      rw [List.getD_eq_getElem?_getD, List.getElem?_eq_getElem (by omega)]
      exact (rightA_cells ha).2 _ (List.getElem_mem _)
  · unfold atR at h ⊢
    split
    · rfl
    · rename_i g; rw [if_neg g] at h; exact absurd rfl h
theorem pickAt_sp (a : Arr) (l : List Ax) (ha : Fits a) (hl : l.length ≤ maxLen ∧ ∀ x ∈ l, Fits x.at_) : Sp 5 [dA a, .sl (l.map dX)] [.bool true] := by
  refine sound_ 0 (law15_PickAt_tree _ _ _) (wp_call (law15_light_sp a ha) (wp_br (fun _ => awake15) (fun e1 => wp_call (law15_fine_sp l hl.2) (wp_br (fun _ => awake15) (fun e2 => ?_)))))
  obtain ⟨g1, l1⟩ := light15_good (a := a) (by simpa using e1)
  have e2 : (decide (l.length ≤ 8) && fine15 l) = true := by simpa using e2
  rw [Bool.and_eq_true, decide_eq_true_eq] at e2
  obtain ⟨h8, hf⟩ := e2
  have hx : ∀ x ∈ l, FineX x ∧ rightA 8 x.at_ = true := fun x hxx => by
    have := List.all_eq_true.1 hf x hxx
    rw [Bool.and_eq_true] at this
    obtain ⟨g2, l2⟩ := light15_good this.1
    exact ⟨⟨rightA_sml g2, by omega, rightA_top g2⟩, g2⟩
  have hg := atR_good g1 (fun x hxx => (hx x hxx).2)
  have p1 := pick_At_sp a l g1 (by omega) hx
  have p2 := ref15_At_sp a l g1 (by omega) hx
  have p3 := pick_Places_sp a l g1 (by omega) hx
  have p4 := ref15_Places_sp a l g1 (by omega) hx
  have p5 := pick_Total_sp l (fun x hxx => (hx x hxx).1) (by omega)
  have p6 := ref15_Total_sp l (fun x hxx => (hx x hxx).1) (by omega)
  have i1 : ∀ q : List Int, q.length ≤ 9223372036854775807 → Sp 24 [dI q, dI q] [.bool true] := fun q hq => by
    have := ref07_Ints_sp q q hq
    rwa [decide_eq_true rfl] at this
  have hpl : (iN ((placesR a l).1.map (horR (a.shape.map Int.toNat).reverse))).length ≤ 9223372036854775807 ∧ (iN (placesR a l).2.1).length ≤ 9223372036854775807 := by
    rw [iN_len, iN_len, List.length_map]
    by_cases h0 : (placesR a l).2.2 = 0
    · have hgg : (placesR a l).1.length = cntN (placesR a l).2.1 ∧ (countS (iN (placesR a l).2.1)).2 = 0 := by
        unfold placesR at h0 ⊢
        split at h0
        · cases h0
        · rename_i g2
          rw [if_neg g2]
          exact (plR_good _ l [] [[]] [] (by simp; by_cases q : l.length = a.shape.length; exact q; exact absurd (.inr q) g2) (fun x hxx => (hx x hxx).2) (by simp [inB]) (by simp [prodN]) h0).2
      have := countS_le (iN (placesR a l).2.1)
      have h6 := (countS_len hgg.2).1
      rw [iN_len] at h6
      rw [hgg.1]; unfold cntN; omega
    · have : (placesR a l).1 = [] ∧ (placesR a l).2.1 = [] := by
        unfold placesR at h0 ⊢
        split
        · exact ⟨rfl, rfl⟩
        · rename_i g2
          rw [if_neg g2] at h0
          exact plR_err _ _ _ _ h0
      rw [this.1, this.2]; simp
  have q1 := i1 _ hpl.1
  have q2 := i1 _ hpl.2
  clear hpl
  generalize placesR a l = R at *
  generalize atR a l = r at *
  have fr : Fits r.1 := by
    by_cases h : r.2 = 0
    · exact (rightA_sml (hg.1 h)).fits
    · rw [hg.2 h]; exact fits_none
  have ss := ref10_Same_sp r.1 r.1 r.2 r.2 fr
  rw [eqA_self, decide_eq_true rfl] at ss
  have rr := ref08_Right_sp r.1 fr
  have mm := law15_mine_sp l h8
  refine wp_call mm (wp_call p1 (wp_call p2 (wp_call mm (wp_call p3 (wp_call p4 (wp_call ss (wp_ff rfl (wp_call q1 (wp_ff rfl (wp_call q2 (wp_ff rfl (wp_ff (by simp) (wp_call mm (wp_call p5 (wp_call p6 (wp_ff (by simp) ?_))))))))))))))))
  simp only [getD_c0, getD_c1, toInt_int, int_bne]
  refine wp_decs (fun _ => awake15) (fun h => ?_)
  rw [hg.1 (Classical.not_not.1 h)] at rr
  exact wp_call rr (wp_tt rfl awake15)
end Go.Proofs.YtbgcadcpeabpgaaGreat

set_option maxRecDepth 100000
namespace Go.Proofs.YtbgcadcpeabpgaaGreat
open Go.ChangeShapes Go.WideShapes Go.ChangeAt Go.RowKit

set_option maxRecDepth 100000 in
theorem pickAt_lifted (os : Os) (started : os.Started) (H : Type) (enc : TypeId × Value → H) :
    ReturnsInHanded {} Tryz.checked os 5 .any (Rows.pickAtSpec.pre6 enc Tryz.prog Tryz.f5 Rows.pickAtRow.domain false) (Rows.pickAtSpec.post enc Tryz.prog Tryz.f5 false true false false) := by
  refine returnsInHanded_of_change_sized (C := Tryz.checked) knob started (by kernel_rfl) Tryz.func5
    (ChangeSpec.witness6 (enc := enc) (C := Tryz.checked) false ⟨#[], #[.agg #[.int .u64 0, .slice none 0 0, .slice none 0 0], .slice none 0 0], []⟩ 16 (by kernel_rfl) (by kernel_rfl) (by kernel_rfl) (by kernel_rfl)) ?_
  intro W base args ds gs before hval0 hW hcnd hwt0 _
  have hval : ∀ (j : Nat) t v, Tryz.f5.params[j]? = some t → args[j]? = some v → Value.okWide Tryz.prog W .any base t v := hval0
  have hW' := hW
  obtain ⟨p, q, hA0, hV, rfl, hfz, hnd⟩ := hW
  have hA : DataW.TrodAll enc Tryz.prog W 0 (fun _ => true) true Tryz.f5.params.toList args.toList ds p := hA0
  rw [Tryz.params5] at hA hval
  obtain ⟨v0, vs0, d0, ds0, p0, q0, hargs, rfl, rfl, h0, r0⟩ := trodAll_cons hA
  obtain ⟨v1, vs1, d1, ds1, p1, q1, rfl, rfl, rfl, h1, r1⟩ := trodAll_cons r0
  obtain ⟨rfl, rfl, rfl⟩ := trodAll_nil r1
  obtain rfl : args = #[v0, v1] := by cases args; simp_all
  have hwt : ∀ (j t : Nat) d, (Tryz.f5.params.toList)[j]? = some t → ([d0, d1])[j]? = some d → ∀ z ∈ DataW.weights Tryz.prog t d, z ≤ reachBytes := fun j t d ht hd z hz => by
    have hl := (List.getElem?_eq_some_iff.1 ht).1
    have hl2 := (List.getElem?_eq_some_iff.1 hd).1
    have := List.all_eq_true.1 hwt0 z (DataW.weights_mem_each (j := j) (t := t) (d := d) (by rw [List.getElem?_append_left hl]; exact ht) (by rw [List.getElem?_append_left hl2]; exact hd) z hz)
    simpa using this
  obtain ⟨x0, hx0, hr0⟩ := arg_arr (hval 0 26 v0 rfl rfl) h0
  obtain ⟨x1, hx1, hr1⟩ := arg_axes (hval 1 37 v1 rfl rfl) h1
  refine (law_calls (vs := [v0, v1]) (pickAt_sp x0 x1 hx0 hx1) Tryz.func5 (by kernel_rfl) (by kernel_rfl) Tryz.underlying4 rfl rfl ?_).mono fun e W' ⟨he, hx⟩ => ⟨_, he, law_post laidOut hW' rfl (by kernel_rfl) Tryz.underlying4 rfl (by kernel_rfl) hx⟩
  intro i t x v ht hx hv
  match i with
  | 0 => cases (show some 26 = some t from ht); cases hx; cases hv; exact hr0
  | 1 => cases (show some 37 = some t from ht); cases hx; cases hv; exact hr1
  | i + 2 => cases hx

theorem pickAt_holds : Rows.PickAtSaid :=
  OpenClaim.holds_of_wide 5 Tryz.f5 rfl rfl rfl rfl rfl rfl rfl ⟨rfl, rfl, rfl, rfl, rfl⟩ rfl rfl rfl rfl rfl (by kernel_rfl) Tryz.func5 (by kernel_rfl)
    (of_decide_eq_true (by kernel_rfl)) (by unfold Func.isWrapper; first | (rw [if_pos (by decide +kernel)]; kernel_rfl) | (rw [if_neg (by decide +kernel)]; exact ⟨rfl, rfl⟩))
    (fun os started H enc _ => pickAt_lifted os started H enc)

end Go.Proofs.YtbgcadcpeabpgaaGreat

