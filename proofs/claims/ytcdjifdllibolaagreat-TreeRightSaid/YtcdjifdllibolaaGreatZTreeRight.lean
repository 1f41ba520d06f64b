/- Proved: for any arguments, the law TreeRight returns true and changes nothing. No condition. -/
import Derived.Test.YtcdjifdllibolaaGreatRows
import Derived.WalkKit
import Derived.WalkSpells
import Derived.WalkLawsBesides
import Derived.Lib.Hide
import Derived.Laws.CopyOwn
import Derived.Deep.QuietTactic
import Derived.BigQuiet
import Derived.Orders
import Derived.Defers
import Derived.ProofKit
import Derived.OpenShut
import Derived.Recover
import Derived.Test.YtcdjifdllibolaaGreatProg
import Derived.KernelRfl
import Derived.Test.YtcdjifdllibolaaGreatZ5a6b9587
set_option linter.unusedSimpArgs false
set_option linter.unusedVariables false
set_option maxRecDepth 100000
namespace Go.Proofs.YtcdjifdllibolaaGreat
def portB (n : Int) : Bool := decide (0 ≤ n) && decide (n < 8)
def leafI (e : Ex1) : Bool :=
  if e.kind = 1 then (decide (fieN e = 4) || decide (fieN e = 0)) && rightN e.n
  else if e.kind = 2 then (decide (fieN e = 8) || decide (fieN e = 0)) && (decide ((e.text.length : Int) ≤ 2048) && e.text.all mayC)
  else if e.kind = 3 then decide (fieN e = 2) && nameB e.name false
  else if e.kind = 4 ∨ e.kind = 5 ∨ e.kind = 10 ∨ e.kind = 19 then decide (fieN e = 0)
  else if e.kind = 6 ∨ e.kind = 7 then (decide (fieN e = 0) || decide (fieN e = 1)) && portB e.op
  else if e.kind = 17 then decide (fieN e = 1) && glyC e.op
  else if e.kind = 18 then decide (fieN e = 2) && nameB e.name true
  else if e.kind = 21 then (decide (fieN e = 0) || decide (fieN e = 1)) && (decide (e.op = 0) || decide (e.op = 1))
  else false
def leafB (e : Ex1) : Bool := partsB e.kids [] && leafI e
theorem ref21_leaf_sp (e : Ex1) (he : FitsE e) : Sp 49 [dE e] [.bool (leafB e)] := by
  refine sound_ 0 (ref21_leaf_tree _ _) (wp_call (ref21_fields_sp e he) ?_)
  simp only [getD_c0, toInt_int, int_beq, dE_0, dE_1, dE_2, dE_3, dE_4, dE_5, els_sl, els_dI, List.length_map, D.toStr]
  unfold leafB
  refine wp_decs (fun h => wp_ret ?_) (fun h => ?_)
  · rw [partsB_len (by show e.kids.length ≠ 0; omega)]; rfl
  have hk : e.kids = [] := List.length_eq_zero_iff.1 (by omega)
  rw [hk, partsB, Bool.true_and]
  have o2 : ∀ {a b : Prop} [Decidable a] [Decidable b] {r : Bool} {t : Tree}, Tw t [.bool r] → Tw (.br (decide a) t (.br (decide b) t (.ret [D.bool false]))) [.bool ((decide a || decide b) && r)] := fun {a b} _ _ {r t} h => by
    refine wp_decs (fun g => ?_) (fun g => wp_decs (fun g2 => ?_) (fun g2 => wp_ret ?_))
    · rw [decide_eq_true g, Bool.true_or, Bool.true_and]; exact h
    · rw [decide_eq_true g2, Bool.or_true, Bool.true_and]; exact h
    · rw [decide_eq_false g, decide_eq_false g2]; rfl
  have o1 : ∀ {a : Prop} [Decidable a] {r : Bool} {t : Tree}, Tw t [.bool r] → Tw (.br (decide a) t (.ret [D.bool false])) [.bool (decide a && r)] := fun {a} _ {r t} h => by
    refine wp_decs (fun g => ?_) (fun g => wp_ret ?_)
    · rw [decide_eq_true g, Bool.true_and]; exact h
    · rw [decide_eq_false g]; rfl
  have ch : Tw (.br (decide ((e.text.length : Int) ≤ 2048)) (.call 72 [] [dI e.text] fun y => .ret [D.bool ((y.getD 0 D.nil).toBool)]) (.ret [D.bool false])) [.bool (decide ((e.text.length : Int) ≤ 2048) && e.text.all mayC)] := by
    refine wp_decs (fun g => ?_) (fun g => wp_ret (by rw [decide_eq_false g]; rfl))
    rw [decide_eq_true g, Bool.true_and]
    exact wp_call (ref21_chars_sp e.text (by omega)) (wp_ret rfl)
  have f0 : leafI e = decide (fieN e = 0) → Tw (.ret [D.bool (decide (fieN e = 0))]) [.bool (leafI e)] := fun h => by rw [h]; exact wp_ret rfl
  have pt : Tw (.call 46 [] [D.int e.op] fun y => .ret [D.bool ((y.getD 0 D.nil).toBool)]) [.bool (portB e.op)] := wp_call (ref21_port_sp e.op) (wp_ret rfl)
  refine wp_decs (fun h => ?_) (fun n1 => ?_)
  · rw [show leafI e = ((decide (fieN e = 4) || decide (fieN e = 0)) && rightN e.n) by unfold leafI; rw [h]; rfl]
    exact o2 (wp_call (ref04_Right_sp e.n) (wp_ret rfl))
  refine wp_decs (fun h => ?_) (fun n2 => ?_)
  · rw [show leafI e = ((decide (fieN e = 8) || decide (fieN e = 0)) && (decide ((e.text.length : Int) ≤ 2048) && e.text.all mayC)) by unfold leafI; rw [h]; rfl]
    exact o2 ch
  refine wp_decs (fun h => ?_) (fun n3 => ?_)
  · rw [show leafI e = (decide (fieN e = 2) && nameB e.name false) by unfold leafI; rw [h]; rfl]
    exact o1 (wp_call (ref21_name_sp e.name false) (wp_ret rfl))
  refine wp_decs (fun h => f0 (by unfold leafI; rw [h]; rfl)) (fun n4 => ?_)
  refine wp_decs (fun h => f0 (by unfold leafI; rw [h]; rfl)) (fun n5 => ?_)
  refine wp_decs (fun h => f0 (by unfold leafI; rw [h]; rfl)) (fun n10 => ?_)
  refine wp_decs (fun h => f0 (by unfold leafI; rw [h]; rfl)) (fun n19 => ?_)
  refine wp_decs (fun h => ?_) (fun n6 => ?_)
  · rw [show leafI e = ((decide (fieN e = 0) || decide (fieN e = 1)) && portB e.op) by unfold leafI; rw [h]; rfl]; exact o2 pt
  refine wp_decs (fun h => ?_) (fun n7 => ?_)
  · rw [show leafI e = ((decide (fieN e = 0) || decide (fieN e = 1)) && portB e.op) by unfold leafI; rw [h]; rfl]; exact o2 pt
  refine wp_decs (fun h => ?_) (fun n17 => ?_)
  · rw [show leafI e = (decide (fieN e = 1) && glyC e.op) by unfold leafI; rw [h]; rfl]
    exact o1 (wp_call (ref21_Glyph_sp e.op) (wp_ret rfl))
  refine wp_decs (fun h => ?_) (fun n18 => ?_)
  · rw [show leafI e = (decide (fieN e = 2) && nameB e.name true) by unfold leafI; rw [h]; rfl]
    exact o1 (wp_call (ref21_name_sp e.name true) (wp_ret rfl))
  refine wp_decs (fun h => ?_) (fun n21 => wp_ret ?_)
  · rw [show leafI e = ((decide (fieN e = 0) || decide (fieN e = 1)) && (decide (e.op = 0) || decide (e.op = 1))) by unfold leafI; rw [h]; rfl]
    refine o2 (wp_decs (fun g => wp_ret ?_) (fun g => wp_ret ?_))
    · rw [decide_eq_true g]; rfl
    · rw [decide_eq_false g]; rfl
  · unfold leafI
    rw [if_neg n1, if_neg n2, if_neg n3, if_neg (by omega), if_neg (by omega), if_neg n17, if_neg n18, if_neg n21]
def oneB (e : Ex1) : Bool :=
  if e.kind = 8 then decide (fieN e = 0) && kidsW e.kids [97, 97] 97 true
  else if e.kind = 9 then decide (fieN e = 0) && kidsW e.kids [97, 120] 120 true
  else if e.kind = 11 then decide (fieN e = 0) && kidsW e.kids [102, 97] 97 false
  else if e.kind = 12 then decide (fieN e = 0) && kidsW e.kids [97, 102, 97] 97 false
  else if e.kind = 13 then decide (fieN e = 2) && (nameB e.name false && kidsW e.kids [97] 97 false)
  else if e.kind = 14 then decide (fieN e = 2) && (nameB e.name false && kidsW e.kids [97, 120] 120 true)
  else if e.kind = 15 then decide (fieN e = 2) && (nameB e.name false && kidsW e.kids [102, 97] 97 false)
  else if e.kind = 16 then (decide (fieN e = 0) || decide (fieN e = 1)) && (portB e.op && kidsW e.kids [97] 97 false)
  else if e.kind = 20 then decide (fieN e = 0) && (decide (0 < (e.kids.length : Int)) && e.kids.all (staB true))
  else if e.kind = 22 ∨ e.kind = 23 then opeB e
  else if e.kind = 24 then decide (fieN e = 0) && kidsW e.kids [112] 112 false
  else if e.kind = 25 ∨ e.kind = 26 then decide (fieN e = 0) && kidsW e.kids [97, 97] 97 false
  else if e.kind = 27 then decide (fieN e = 2) && (nameB e.name true && kidsW e.kids [102] 102 false)
  else if e.kind = 28 then decide (fieN e = 0) && (decide (0 < (e.kids.length : Int)) && e.kids.all (staB false))
  else leafB e
theorem ref21_one_sp (e : Ex1) (he : FitsE e) : Sp 20 [dE e] [.bool (oneB e)] := by
  refine sound_ 0 (ref21_one_tree _ _) (wp_call (ref21_fields_sp e he) ?_)
  simp only [getD_c0, toInt_int, int_beq, dE_0, dE_1, dE_2, D.toStr]
  have o1 : ∀ {a : Prop} [Decidable a] {r : Bool} {t : Tree}, Tw t [.bool r] → Tw (.br (decide a) t (.ret [D.bool false])) [.bool (decide a && r)] := fun {a} _ {r t} h => by
    refine wp_decs (fun g => ?_) (fun g => wp_ret ?_)
    · rw [decide_eq_true g, Bool.true_and]; exact h
    · rw [decide_eq_false g]; rfl
  have o2 : ∀ {a b : Prop} [Decidable a] [Decidable b] {r : Bool} {t : Tree}, Tw t [.bool r] → Tw (.br (decide a) t (.br (decide b) t (.ret [D.bool false]))) [.bool ((decide a || decide b) && r)] := fun {a b} _ _ {r t} h => by
    refine wp_decs (fun g => ?_) (fun g => wp_decs (fun g2 => ?_) (fun g2 => wp_ret ?_))
    · rw [decide_eq_true g, Bool.true_or, Bool.true_and]; exact h
    · rw [decide_eq_true g2, Bool.or_true, Bool.true_and]; exact h
    · rw [decide_eq_false g, decide_eq_false g2]; rfl
  have kd : ∀ (s : ByteArray) (l : List UInt8) (z : UInt8) (more : Bool), s.data.toList = l ++ [z] → l.length ≤ 10 → Tw (.call 44 [] [dE e, D.str s, D.bool more] fun y => .ret [D.bool ((y.getD 0 D.nil).toBool)]) [.bool (kidsW e.kids (l ++ [z]) z more)] := fun s l z more h1 h2 => wp_call (ref21_kids_sp e he s l z more h1 h2) (wp_ret rfl)
  have nk : ∀ (f : Bool) (s : ByteArray) (l : List UInt8) (z : UInt8) (more : Bool), s.data.toList = l ++ [z] → l.length ≤ 10 → Tw (.call 45 [] [D.str e.name, D.bool f] fun y1 => .br ((y1.getD 0 D.nil).toBool) (.call 44 [] [dE e, D.str s, D.bool more] fun y => .ret [D.bool ((y.getD 0 D.nil).toBool)]) (.ret [D.bool false])) [.bool (nameB e.name f && kidsW e.kids (l ++ [z]) z more)] := fun f s l z more h1 h2 => by
    refine wp_call (ref21_name_sp e.name f) (wp_br (fun g => ?_) (fun g => wp_ret ?_))
    · rw [show nameB e.name f = true from g, Bool.true_and]; exact kd s l z more h1 h2
    · rw [show nameB e.name f = false from g]; rfl
  have op : oneB e = opeB e → Tw (.call 48 [] [dE e] fun y => .ret [D.bool ((y.getD 0 D.nil).toBool)]) [.bool (oneB e)] := fun h => by rw [h]; exact wp_call (ref21_operators_sp e he) (wp_ret rfl)
  have st : ∀ b : Bool, Tw (.call 47 [] [dE e, D.bool b] fun y => .ret [D.bool ((y.getD 0 D.nil).toBool)]) [.bool (decide (0 < (e.kids.length : Int)) && e.kids.all (staB b))] := fun b => wp_call (ref21_statements_sp e he b) (wp_ret rfl)
  refine wp_decs (fun h => ?_) (fun n8 => ?_)
  · rw [show oneB e = (decide (fieN e = 0) && kidsW e.kids ([97] ++ [97]) 97 true) by unfold oneB; rw [h]; rfl]
    exact o1 (kd ⟨#[97, 97]⟩ [97] 97 true rfl (by simp))
  refine wp_decs (fun h => ?_) (fun n9 => ?_)
  · rw [show oneB e = (decide (fieN e = 0) && kidsW e.kids ([97] ++ [120]) 120 true) by unfold oneB; rw [h]; rfl]
    exact o1 (kd ⟨#[97, 120]⟩ [97] 120 true rfl (by simp))
  refine wp_decs (fun h => ?_) (fun n11 => ?_)
  · rw [show oneB e = (decide (fieN e = 0) && kidsW e.kids ([102] ++ [97]) 97 false) by unfold oneB; rw [h]; rfl]
    exact o1 (kd ⟨#[102, 97]⟩ [102] 97 false rfl (by simp))
  refine wp_decs (fun h => ?_) (fun n12 => ?_)
  · rw [show oneB e = (decide (fieN e = 0) && kidsW e.kids ([97, 102] ++ [97]) 97 false) by unfold oneB; rw [h]; rfl]
    exact o1 (kd ⟨#[97, 102, 97]⟩ [97, 102] 97 false rfl (by simp))
  refine wp_decs (fun h => ?_) (fun n13 => ?_)
  · rw [show oneB e = (decide (fieN e = 2) && (nameB e.name false && kidsW e.kids ([] ++ [97]) 97 false)) by unfold oneB; rw [h]; rfl]
    exact o1 (nk false ⟨#[97]⟩ [] 97 false rfl (by simp))
  refine wp_decs (fun h => ?_) (fun n14 => ?_)
  · rw [show oneB e = (decide (fieN e = 2) && (nameB e.name false && kidsW e.kids ([97] ++ [120]) 120 true)) by unfold oneB; rw [h]; rfl]
    exact o1 (nk false ⟨#[97, 120]⟩ [97] 120 true rfl (by simp))
  refine wp_decs (fun h => ?_) (fun n15 => ?_)
  · rw [show oneB e = (decide (fieN e = 2) && (nameB e.name false && kidsW e.kids ([102] ++ [97]) 97 false)) by unfold oneB; rw [h]; rfl]
    exact o1 (nk false ⟨#[102, 97]⟩ [102] 97 false rfl (by simp))
  refine wp_decs (fun h => ?_) (fun n16 => ?_)
  · rw [show oneB e = ((decide (fieN e = 0) || decide (fieN e = 1)) && (portB e.op && kidsW e.kids ([] ++ [97]) 97 false)) by unfold oneB; rw [h]; rfl]
    refine o2 (wp_call (ref21_port_sp e.op) (wp_br (fun g => ?_) (fun g => wp_ret ?_)))
    · rw [show portB e.op = true from g, Bool.true_and]; exact kd ⟨#[97]⟩ [] 97 false rfl (by simp)
    · rw [show portB e.op = false from g]; rfl
  refine wp_decs (fun h => ?_) (fun n20 => ?_)
  · rw [show oneB e = (decide (fieN e = 0) && (decide (0 < (e.kids.length : Int)) && e.kids.all (staB true))) by unfold oneB; rw [h]; rfl]
    exact o1 (st true)
  refine wp_decs (fun h => op (by unfold oneB; rw [h]; rfl)) (fun n22 => ?_)
  refine wp_decs (fun h => op (by unfold oneB; rw [h]; rfl)) (fun n23 => ?_)
  refine wp_decs (fun h => ?_) (fun n24 => ?_)
  · rw [show oneB e = (decide (fieN e = 0) && kidsW e.kids ([] ++ [112]) 112 false) by unfold oneB; rw [h]; rfl]
    exact o1 (kd ⟨#[112]⟩ [] 112 false rfl (by simp))
  refine wp_decs (fun h => ?_) (fun n25 => ?_)
  · rw [show oneB e = (decide (fieN e = 0) && kidsW e.kids ([97] ++ [97]) 97 false) by unfold oneB; rw [h]; rfl]
    exact o1 (kd ⟨#[97, 97]⟩ [97] 97 false rfl (by simp))
  refine wp_decs (fun h => ?_) (fun n26 => ?_)
  · rw [show oneB e = (decide (fieN e = 0) && kidsW e.kids ([97] ++ [97]) 97 false) by unfold oneB; rw [h]; rfl]
    exact o1 (kd ⟨#[97, 97]⟩ [97] 97 false rfl (by simp))
  refine wp_decs (fun h => ?_) (fun n27 => ?_)
  · rw [show oneB e = (decide (fieN e = 2) && (nameB e.name true && kidsW e.kids ([] ++ [102]) 102 false)) by unfold oneB; rw [h]; rfl]
    exact o1 (nk true ⟨#[102]⟩ [] 102 false rfl (by simp))
  refine wp_decs (fun h => ?_) (fun n28 => ?_)
  · rw [show oneB e = (decide (fieN e = 0) && (decide (0 < (e.kids.length : Int)) && e.kids.all (staB false))) by unfold oneB; rw [h]; rfl]
    exact o1 (st false)
  rw [show oneB e = leafB e by
    unfold oneB
    rw [if_neg n8, if_neg n9, if_neg n11, if_neg n12, if_neg n13, if_neg n14, if_neg n15, if_neg n16, if_neg n20, if_neg (by omega), if_neg n24, if_neg (by omega), if_neg n27, if_neg n28]]
  exact wp_call (ref21_leaf_sp e he) (wp_ret rfl)
/-! The program's rules are the document's. -/
theorem fie_eq (e : Ex1) (k : Int) : decide (fieN e = k) = decide ((if decide (e.op = 0) then (0 : Int) else 1) + (if decide (e.name.data.toList = []) then 0 else 2) + (if decide (e.n = .zero) then 0 else 4) + (if decide ((e.text.length : Int) = 0) then 0 else 8) = k) := by
  unfold fieN
  simp only [decide_eq_true_eq]
theorem fie0 (e : Ex1) : decide (fieN e = 0) = (decide (e.n = .zero) && (decide ((e.text.length : Int) = 0) && (decide (e.name.data.toList = []) && decide (e.op = 0)))) := by
  rw [fie_eq]
  generalize decide (e.n = .zero) = N; generalize decide ((e.text.length : Int) = 0) = T; generalize decide (e.name.data.toList = []) = M; generalize decide (e.op = 0) = O
  revert N T M O; decide
theorem fie1 (e : Ex1) : decide (fieN e = 1) = (decide (e.n = .zero) && (decide ((e.text.length : Int) = 0) && (decide (e.name.data.toList = []) && !decide (e.op = 0)))) := by
  rw [fie_eq]
  generalize decide (e.n = .zero) = N; generalize decide ((e.text.length : Int) = 0) = T; generalize decide (e.name.data.toList = []) = M; generalize decide (e.op = 0) = O
  revert N T M O; decide
theorem fie2 (e : Ex1) : decide (fieN e = 2) = (decide (e.n = .zero) && (decide ((e.text.length : Int) = 0) && (!decide (e.name.data.toList = []) && decide (e.op = 0)))) := by
  rw [fie_eq]
  generalize decide (e.n = .zero) = N; generalize decide ((e.text.length : Int) = 0) = T; generalize decide (e.name.data.toList = []) = M; generalize decide (e.op = 0) = O
  revert N T M O; decide
theorem fie4 (e : Ex1) : decide (fieN e = 4) = (!decide (e.n = .zero) && (decide ((e.text.length : Int) = 0) && (decide (e.name.data.toList = []) && decide (e.op = 0)))) := by
  rw [fie_eq]
  generalize decide (e.n = .zero) = N; generalize decide ((e.text.length : Int) = 0) = T; generalize decide (e.name.data.toList = []) = M; generalize decide (e.op = 0) = O
  revert N T M O; decide
theorem fie8 (e : Ex1) : decide (fieN e = 8) = (decide (e.n = .zero) && (!decide ((e.text.length : Int) = 0) && (decide (e.name.data.toList = []) && decide (e.op = 0)))) := by
  rw [fie_eq]
  generalize decide (e.n = .zero) = N; generalize decide ((e.text.length : Int) = 0) = T; generalize decide (e.name.data.toList = []) = M; generalize decide (e.op = 0) = O
  revert N T M O; decide
theorem kidsS_nil (ks : List Ex1) (z : UInt8) : kidsS ks [] z = ks.all (fun k => kidB k.kind (z.toNat : Int)) := by
  induction ks with
  | nil => rfl
  | cons k ks ih => rw [kidsS, ih, List.all_cons]
theorem kw1 (ks : List Ex1) (z : UInt8) : kidsW ks [z] z false = partsB ks [fun k => kidB k.kind (z.toNat : Int)] := by
  match ks with
  | [] => rfl
  | [a] => simp [kidsW, kidsS, partsB]
  | a :: b :: l => rw [partsB_len (by simp)]; simp [kidsW]
theorem kw2 (ks : List Ex1) (y z : UInt8) : kidsW ks [y, z] z false = partsB ks [fun k => kidB k.kind (y.toNat : Int), fun k => kidB k.kind (z.toNat : Int)] := by
  match ks with
  | [] => rfl
  | [a] => rw [partsB_len (by simp)]; simp [kidsW]
  | [a, b] => simp [kidsW, kidsS, partsB]
  | a :: b :: c :: l => rw [partsB_len (by simp)]; simp [kidsW]
theorem kw3 (ks : List Ex1) (x y z : UInt8) : kidsW ks [x, y, z] z false = partsB ks [fun k => kidB k.kind (x.toNat : Int), fun k => kidB k.kind (y.toNat : Int), fun k => kidB k.kind (z.toNat : Int)] := by
  match ks with
  | [] => rfl
  | [a] => rw [partsB_len (by simp)]; simp [kidsW]
  | [a, b] => rw [partsB_len (by simp)]; simp [kidsW]
  | [a, b, c] => simp [kidsW, kidsS, partsB]
  | a :: b :: c :: d :: l => rw [partsB_len (by simp)]; simp [kidsW]
theorem kwm (ks : List Ex1) (y z : UInt8) : kidsW ks [y, z] z true = (decide (2 ≤ (ks.length : Int)) && (hdB (fun k => kidB k.kind (y.toNat : Int)) ks && (ks.drop 1).all (fun k => kidB k.kind (z.toNat : Int)))) := by
  match ks with
  | [] => rfl
  | [a] => simp [kidsW]
  | a :: b :: l =>
    have h1 : decide (2 ≤ (((a :: b :: l).length : Nat) : Int)) = true := decide_eq_true (by simp only [List.length_cons]; omega)
    have h2 : decide ([y, z].length ≤ (a :: b :: l).length) = true := decide_eq_true (by simp)
    rw [kidsW, h1, h2]
    simp only [Bool.or_true, Bool.true_and, kidsS, kidsS_nil, hdB, List.drop_succ_cons, List.drop_zero, List.all_cons]
theorem all_hd (ks : List Ex1) (p : Ex1 → Bool) : (decide (2 ≤ (ks.length : Int)) && (hdB p ks && (ks.drop 1).all p)) = (decide (2 ≤ (ks.length : Int)) && ks.all p) := by
  match ks with
  | [] => rfl
  | a :: l => simp [hdB]
theorem name_ne (e : Ex1) (f : Bool) : decide (e.name.data.toList = []) = true → nameB e.name f = false := fun h => by
  unfold nameB; rw [of_decide_eq_true h]; rfl
theorem gly_ne (e : Ex1) : decide (e.op = 0) = true → glyC e.op = false := fun h => by rw [of_decide_eq_true h]; rfl
theorem mon_ne (e : Ex1) : decide (e.op = 0) = true → decide (e.op ∈ monsL) = false := fun h => by rw [of_decide_eq_true h]; rfl
theorem dyo_ne (e : Ex1) : decide (e.op = 0) = true → decide (e.op ∈ dyosL) = false := fun h => by rw [of_decide_eq_true h]; rfl
theorem sta_eq (kd : Int) (b : Bool) (h : decide (kd = 20) = b) (k : Ex1) : staB b k = pSta kd k := by
  unfold staB pSta
  rw [h]
  by_cases h1 : k.kind = 27
  · simp [h1]
  by_cases h2 : k.kind = 25
  · rw [show arrK k.kind = false by rw [h2]; rfl]; simp [h2]
  by_cases h3 : k.kind = 26
  · rw [show arrK k.kind = false by rw [h3]; rfl]; simp [h3]
  simp [h1, h2, h3]
theorem bb2 : ∀ N T M O B K : Bool, (M = true → B = false) → ((N && (T && (!M && O))) && (B && K)) = ((N && (T && (B && O))) && K) := by decide
theorem bb2' : ∀ N T M O B : Bool, (M = true → B = false) → ((N && (T && (!M && O))) && B) = (N && (T && (B && O))) := by decide
theorem bb1 : ∀ N T M O B K : Bool, (O = true → B = false) → ((N && (T && (M && !O))) && (B && K)) = ((N && (T && (M && B))) && K) := by decide
theorem bb1' : ∀ N T M O B : Bool, (O = true → B = false) → ((N && (T && (M && !O))) && B) = (N && (T && (M && B))) := by decide
theorem bb01 : ∀ N T M O B K : Bool, (((N && (T && (M && O))) || (N && (T && (M && !O)))) && (B && K)) = ((N && (T && (M && B))) && K) := by decide
theorem bb01' : ∀ N T M O B : Bool, (((N && (T && (M && O))) || (N && (T && (M && !O)))) && B) = (N && (T && (M && B))) := by decide
theorem bb04 : ∀ N T M O B : Bool, (((!N && (T && (M && O))) || (N && (T && (M && O)))) && B) = (B && (T && (M && O))) := by decide
theorem bb08 : ∀ N T M O B : Bool, (((N && (!T && (M && O))) || (N && (T && (M && O)))) && B) = (N && (B && (M && O))) := by decide
/-- ████ What one expression has to have, and is made of, is one rule. -/
theorem one_eq (e : Ex1) : oneB e = (heldB e && madeB e) := by
  have nn := name_ne e
  have lf : oneB e = leafB e → leafI e = heldB e → madeB e = partsB e.kids [] → oneB e = (heldB e && madeB e) := fun h1 h2 h3 => by
    rw [h1, h3, leafB, h2, Bool.and_comm]
  have ho : ∀ {a : Bool}, oneB e = a → a = (heldB e && madeB e) → oneB e = (heldB e && madeB e) := fun h1 h2 => h1.trans h2
  by_cases h : e.kind = 1
  · refine lf (by unfold oneB; rw [h]; rfl) ?_ (by unfold madeB; rw [h]; rfl)
    rw [show leafI e = ((decide (fieN e = 4) || decide (fieN e = 0)) && rightN e.n) by unfold leafI; rw [h]; rfl, show heldB e = (rightN e.n && (decide ((e.text.length : Int) = 0) && (decide (e.name.data.toList = []) && decide (e.op = 0)))) by unfold heldB numOK chaOK namOK opOK; rw [h]; rfl, fie4, fie0]
    exact bb04 _ _ _ _ _
  by_cases h : e.kind = 2
  · refine lf (by unfold oneB; rw [h]; rfl) ?_ (by unfold madeB; rw [h]; rfl)
    rw [show leafI e = ((decide (fieN e = 8) || decide (fieN e = 0)) && (decide ((e.text.length : Int) ≤ 2048) && e.text.all mayC)) by unfold leafI; rw [h]; rfl, show heldB e = (decide (e.n = .zero) && ((decide ((e.text.length : Int) ≤ 2048) && e.text.all mayC) && (decide (e.name.data.toList = []) && decide (e.op = 0)))) by unfold heldB numOK chaOK namOK opOK; rw [h]; rfl, fie8, fie0]
    exact bb08 _ _ _ _ _
  by_cases h : e.kind = 3
  · refine lf (by unfold oneB; rw [h]; rfl) ?_ (by unfold madeB; rw [h]; rfl)
    rw [show leafI e = (decide (fieN e = 2) && nameB e.name false) by unfold leafI; rw [h]; rfl, show heldB e = (decide (e.n = .zero) && (decide ((e.text.length : Int) = 0) && (nameB e.name false && decide (e.op = 0)))) by unfold heldB numOK chaOK namOK opOK; rw [h]; rfl, fie2]
    exact bb2' _ _ _ _ _ (nn false)
  by_cases h : e.kind = 4
  · refine lf (by unfold oneB; rw [h]; rfl) ?_ (by unfold madeB; rw [h]; rfl)
    rw [show leafI e = decide (fieN e = 0) by unfold leafI; rw [h]; rfl, fie0]; unfold heldB numOK chaOK namOK opOK; rw [h]; rfl
  by_cases h : e.kind = 5
  · refine lf (by unfold oneB; rw [h]; rfl) ?_ (by unfold madeB; rw [h]; rfl)
    rw [show leafI e = decide (fieN e = 0) by unfold leafI; rw [h]; rfl, fie0]; unfold heldB numOK chaOK namOK opOK; rw [h]; rfl
  by_cases h : e.kind = 6
  · refine lf (by unfold oneB; rw [h]; rfl) ?_ (by unfold madeB; rw [h]; rfl)
    rw [show leafI e = ((decide (fieN e = 0) || decide (fieN e = 1)) && portB e.op) by unfold leafI; rw [h]; rfl, show heldB e = (decide (e.n = .zero) && (decide ((e.text.length : Int) = 0) && (decide (e.name.data.toList = []) && portB e.op))) by unfold heldB numOK chaOK namOK opOK portB; rw [h]; rfl, fie0, fie1]
    exact bb01' _ _ _ _ _
  by_cases h : e.kind = 7
  · refine lf (by unfold oneB; rw [h]; rfl) ?_ (by unfold madeB; rw [h]; rfl)
    rw [show leafI e = ((decide (fieN e = 0) || decide (fieN e = 1)) && portB e.op) by unfold leafI; rw [h]; rfl, show heldB e = (decide (e.n = .zero) && (decide ((e.text.length : Int) = 0) && (decide (e.name.data.toList = []) && portB e.op))) by unfold heldB numOK chaOK namOK opOK portB; rw [h]; rfl, fie0, fie1]
    exact bb01' _ _ _ _ _
  by_cases h : e.kind = 8
  · rw [show oneB e = (decide (fieN e = 0) && kidsW e.kids [97, 97] 97 true) by unfold oneB; rw [h]; rfl, show madeB e = (decide (2 ≤ (e.kids.length : Int)) && e.kids.all pArr) by unfold madeB; rw [h]; rfl, fie0, kwm, all_hd]
    unfold heldB numOK chaOK namOK opOK; rw [h]; rfl
  by_cases h : e.kind = 9
  · rw [show oneB e = (decide (fieN e = 0) && kidsW e.kids [97, 120] 120 true) by unfold oneB; rw [h]; rfl, show madeB e = (decide (2 ≤ (e.kids.length : Int)) && (hdB pArr e.kids && (e.kids.drop 1).all pPla)) by unfold madeB; rw [h]; rfl, fie0, kwm]
    unfold heldB numOK chaOK namOK opOK; rw [h]; rfl
  by_cases h : e.kind = 10
  · refine lf (by unfold oneB; rw [h]; rfl) ?_ (by unfold madeB; rw [h]; rfl)
    rw [show leafI e = decide (fieN e = 0) by unfold leafI; rw [h]; rfl, fie0]; unfold heldB numOK chaOK namOK opOK; rw [h]; rfl
  by_cases h : e.kind = 11
  · rw [show oneB e = (decide (fieN e = 0) && kidsW e.kids [102, 97] 97 false) by unfold oneB; rw [h]; rfl, show madeB e = partsB e.kids [pFun, pArr] by unfold madeB; rw [h]; rfl, fie0, kw2]
    unfold heldB numOK chaOK namOK opOK; rw [h]; rfl
  by_cases h : e.kind = 12
  · rw [show oneB e = (decide (fieN e = 0) && kidsW e.kids [97, 102, 97] 97 false) by unfold oneB; rw [h]; rfl, show madeB e = partsB e.kids [pArr, pFun, pArr] by unfold madeB; rw [h]; rfl, fie0, kw3]
    unfold heldB numOK chaOK namOK opOK; rw [h]; rfl
  by_cases h : e.kind = 13
  · rw [show oneB e = (decide (fieN e = 2) && (nameB e.name false && kidsW e.kids [97] 97 false)) by unfold oneB; rw [h]; rfl, show madeB e = partsB e.kids [pArr] by unfold madeB; rw [h]; rfl, fie2, kw1, show heldB e = (decide (e.n = .zero) && (decide ((e.text.length : Int) = 0) && (nameB e.name false && decide (e.op = 0)))) by unfold heldB numOK chaOK namOK opOK; rw [h]; rfl]
    exact bb2 _ _ _ _ _ _ (nn false)
  by_cases h : e.kind = 14
  · rw [show oneB e = (decide (fieN e = 2) && (nameB e.name false && kidsW e.kids [97, 120] 120 true)) by unfold oneB; rw [h]; rfl, show madeB e = (decide (2 ≤ (e.kids.length : Int)) && (hdB pArr e.kids && (e.kids.drop 1).all pPla)) by unfold madeB; rw [h]; rfl, fie2, kwm, show heldB e = (decide (e.n = .zero) && (decide ((e.text.length : Int) = 0) && (nameB e.name false && decide (e.op = 0)))) by unfold heldB numOK chaOK namOK opOK; rw [h]; rfl]
    exact bb2 _ _ _ _ _ _ (nn false)
  by_cases h : e.kind = 15
  · rw [show oneB e = (decide (fieN e = 2) && (nameB e.name false && kidsW e.kids [102, 97] 97 false)) by unfold oneB; rw [h]; rfl, show madeB e = partsB e.kids [pFun, pArr] by unfold madeB; rw [h]; rfl, fie2, kw2, show heldB e = (decide (e.n = .zero) && (decide ((e.text.length : Int) = 0) && (nameB e.name false && decide (e.op = 0)))) by unfold heldB numOK chaOK namOK opOK; rw [h]; rfl]
    exact bb2 _ _ _ _ _ _ (nn false)
  by_cases h : e.kind = 16
  · rw [show oneB e = ((decide (fieN e = 0) || decide (fieN e = 1)) && (portB e.op && kidsW e.kids [97] 97 false)) by unfold oneB; rw [h]; rfl, show madeB e = partsB e.kids [pArr] by unfold madeB; rw [h]; rfl, fie0, fie1, kw1, show heldB e = (decide (e.n = .zero) && (decide ((e.text.length : Int) = 0) && (decide (e.name.data.toList = []) && portB e.op))) by unfold heldB numOK chaOK namOK opOK portB; rw [h]; rfl]
    exact bb01 _ _ _ _ _ _
  by_cases h : e.kind = 17
  · refine lf (by unfold oneB; rw [h]; rfl) ?_ (by unfold madeB; rw [h]; rfl)
    rw [show leafI e = (decide (fieN e = 1) && glyC e.op) by unfold leafI; rw [h]; rfl, show heldB e = (decide (e.n = .zero) && (decide ((e.text.length : Int) = 0) && (decide (e.name.data.toList = []) && glyC e.op))) by unfold heldB numOK chaOK namOK opOK; rw [h]; rfl, fie1]
    exact bb1' _ _ _ _ _ (gly_ne e)
  by_cases h : e.kind = 18
  · refine lf (by unfold oneB; rw [h]; rfl) ?_ (by unfold madeB; rw [h]; rfl)
    rw [show leafI e = (decide (fieN e = 2) && nameB e.name true) by unfold leafI; rw [h]; rfl, show heldB e = (decide (e.n = .zero) && (decide ((e.text.length : Int) = 0) && (nameB e.name true && decide (e.op = 0)))) by unfold heldB numOK chaOK namOK opOK; rw [h]; rfl, fie2]
    exact bb2' _ _ _ _ _ (nn true)
  by_cases h : e.kind = 19
  · refine lf (by unfold oneB; rw [h]; rfl) ?_ (by unfold madeB; rw [h]; rfl)
    rw [show leafI e = decide (fieN e = 0) by unfold leafI; rw [h]; rfl, fie0]; unfold heldB numOK chaOK namOK opOK; rw [h]; rfl
  by_cases h : e.kind = 20
  · rw [show oneB e = (decide (fieN e = 0) && (decide (0 < (e.kids.length : Int)) && e.kids.all (staB true))) by unfold oneB; rw [h]; rfl, show madeB e = (decide (0 < (e.kids.length : Int)) && e.kids.all (pSta e.kind)) by unfold madeB; rw [h]; rfl, fie0, show staB true = pSta e.kind from funext (sta_eq e.kind true (decide_eq_true h))]
    unfold heldB numOK chaOK namOK opOK; rw [h]; rfl
  by_cases h : e.kind = 21
  · refine lf (by unfold oneB; rw [h]; rfl) ?_ (by unfold madeB; rw [h]; rfl)
    rw [show leafI e = ((decide (fieN e = 0) || decide (fieN e = 1)) && (decide (e.op = 0) || decide (e.op = 1))) by unfold leafI; rw [h]; rfl, show heldB e = (decide (e.n = .zero) && (decide ((e.text.length : Int) = 0) && (decide (e.name.data.toList = []) && (decide (e.op = 0) || decide (e.op = 1))))) by unfold heldB numOK chaOK namOK opOK; rw [h]; rfl, fie0, fie1]
    exact bb01' _ _ _ _ _
  by_cases h : e.kind = 22
  · rw [show oneB e = opeB e by unfold oneB; rw [h]; rfl, opeB, if_pos h, show madeB e = partsB e.kids [pFun] by unfold madeB; rw [h]; rfl, fie1, kw1, show heldB e = (decide (e.n = .zero) && (decide ((e.text.length : Int) = 0) && (decide (e.name.data.toList = []) && decide (e.op ∈ monsL)))) by unfold heldB numOK chaOK namOK opOK; rw [h]; rfl]
    exact bb1 _ _ _ _ _ _ (mon_ne e)
  by_cases h : e.kind = 23
  · rw [show oneB e = opeB e by unfold oneB; rw [h]; rfl, opeB, if_neg (by omega), show madeB e = partsB e.kids [pFun, pDyo e.op] by unfold madeB; rw [h]; rfl, fie1, show heldB e = (decide (e.n = .zero) && (decide ((e.text.length : Int) = 0) && (decide (e.name.data.toList = []) && decide (e.op ∈ dyosL)))) by unfold heldB numOK chaOK namOK opOK; rw [h]; rfl]
    have hk : dyoK e.op e.kids = partsB e.kids [pFun, pDyo e.op] := by
      match e.kids with
      | [] => rfl
      | [a] => rw [partsB_len (by simp)]; rfl
      | [a, b] =>
        simp only [dyoK, partsB, Bool.and_true, pFun, pDyo]
        congr 1
        split
        · rename_i g; rw [g]; simp
        · rename_i g
          rw [decide_eq_true (show ¬ e.op = 9060 from g), decide_eq_false g]
          simp [Bool.and_comm]
      | a :: b :: c :: l => rw [partsB_len (by simp)]; rfl
    rw [hk]
    exact bb1 _ _ _ _ _ _ (dyo_ne e)
  by_cases h : e.kind = 24
  · rw [show oneB e = (decide (fieN e = 0) && kidsW e.kids [112] 112 false) by unfold oneB; rw [h]; rfl, show madeB e = partsB e.kids [pPln] by unfold madeB; rw [h]; rfl, fie0, kw1]
    unfold heldB numOK chaOK namOK opOK; rw [h]; rfl
  by_cases h : e.kind = 25
  · rw [show oneB e = (decide (fieN e = 0) && kidsW e.kids [97, 97] 97 false) by unfold oneB; rw [h]; rfl, show madeB e = partsB e.kids [pArr, pArr] by unfold madeB; rw [h]; rfl, fie0, kw2]
    unfold heldB numOK chaOK namOK opOK; rw [h]; rfl
  by_cases h : e.kind = 26
  · rw [show oneB e = (decide (fieN e = 0) && kidsW e.kids [97, 97] 97 false) by unfold oneB; rw [h]; rfl, show madeB e = partsB e.kids [pArr, pArr] by unfold madeB; rw [h]; rfl, fie0, kw2]
    unfold heldB numOK chaOK namOK opOK; rw [h]; rfl
  by_cases h : e.kind = 27
  · rw [show oneB e = (decide (fieN e = 2) && (nameB e.name true && kidsW e.kids [102] 102 false)) by unfold oneB; rw [h]; rfl, show madeB e = partsB e.kids [pFun] by unfold madeB; rw [h]; rfl, fie2, kw1, show heldB e = (decide (e.n = .zero) && (decide ((e.text.length : Int) = 0) && (nameB e.name true && decide (e.op = 0)))) by unfold heldB numOK chaOK namOK opOK; rw [h]; rfl]
    exact bb2 _ _ _ _ _ _ (nn true)
  by_cases h : e.kind = 28
  · rw [show oneB e = (decide (fieN e = 0) && (decide (0 < (e.kids.length : Int)) && e.kids.all (staB false))) by unfold oneB; rw [h]; rfl, show madeB e = (decide (0 < (e.kids.length : Int)) && e.kids.all (pSta e.kind)) by unfold madeB; rw [h]; rfl, fie0, show staB false = pSta e.kind from funext (sta_eq e.kind false (decide_eq_false (by omega)))]
    unfold heldB numOK chaOK namOK opOK; rw [h]; rfl
  have m0 : madeB e = false := by
    unfold madeB
    rw [if_neg (by omega), if_neg (by omega), if_neg (by omega), if_neg (by omega), if_neg (by omega), if_neg (by omega), if_neg (by omega), if_neg (by omega), if_neg (by omega), if_neg (by omega), if_neg (by omega)]
  have l0 : leafI e = false := by
    unfold leafI
    rw [if_neg (by omega), if_neg (by omega), if_neg (by omega), if_neg (by omega), if_neg (by omega), if_neg (by omega), if_neg (by omega), if_neg (by omega)]
  rw [m0, Bool.and_false]
  unfold oneB
  rw [if_neg (by omega), if_neg (by omega), if_neg (by omega), if_neg (by omega), if_neg (by omega), if_neg (by omega), if_neg (by omega), if_neg (by omega), if_neg (by omega), if_neg (by omega), if_neg (by omega), if_neg (by omega), if_neg (by omega), if_neg (by omega), leafB, l0, Bool.and_false]
end Go.Proofs.YtcdjifdllibolaaGreat

set_option maxRecDepth 100000
namespace Go.Proofs.YtcdjifdllibolaaGreat
mutual
def depE : Ex1 → Nat
  | .mk _ _ _ _ _ ks => depL ks + 1
def depL : List Ex1 → Nat
  | [] => 0
  | k :: ks => max (depE k) (depL ks)
end
mutual
def cntE : Ex1 → Nat
  | .mk _ _ _ _ _ ks => cntL ks + 1
def cntL : List Ex1 → Nat
  | [] => 0
  | k :: ks => cntE k + cntL ks
end
noncomputable def allE (e : Ex1) : Bool := Ex1.rec (motive_1 := fun _ => Bool) (motive_2 := fun _ => Bool) (fun k o s n t ks ih => oneB (.mk k o s n t ks) && ih) true (fun _ _ a b => a && b) e
theorem depE_eq (e : Ex1) : depE e = depL e.kids + 1 := by cases e; rw [depE]; rfl
theorem cntE_eq (e : Ex1) : cntE e = cntL e.kids + 1 := by cases e; rw [cntE]; rfl
theorem allE_eq (e : Ex1) : allE e = (oneB e && e.kids.all allE) := by
  cases e with
  | mk k o s n t ks =>
    unfold allE
    show (oneB _ && _) = (oneB _ && _)
    congr 1
    show _ = ks.all _
    induction ks with
    | nil => rfl
    | cons x xs ih => rw [List.all_cons, ← ih]
theorem cntL_mem : ∀ {ks : List Ex1} {k : Ex1}, k ∈ ks → cntE k ≤ cntL ks
  | x :: xs, k, h => by
    rw [cntL]
    rcases List.mem_cons.1 h with rfl | h
    · omega
    · have := cntL_mem h; omega
theorem cnt_pos (e : Ex1) : 1 ≤ cntE e := by rw [cntE_eq]; omega
theorem cntL_len : ∀ ks : List Ex1, ks.length ≤ cntL ks
  | [] => Nat.zero_le _
  | k :: ks => by rw [cntL, List.length_cons]; have := cntL_len ks; have := cnt_pos k; omega
theorem tree_Depth_sp (e : Ex1) : depE e ≤ 1000 → cntE e ≤ 100000 → Sp 8 [dE e] [.int (depE e : Int)] := by
  induction e using Ex1.ind with
  | h k o s n t ks ih =>
    intro hd hc
    have h1 := depE_eq (.mk k o s n t ks)
    have h2 := cntE_eq (.mk k o s n t ks)
    have hk : (Ex1.mk k o s n t ks).kids = ks := rfl
    rw [hk] at h1 h2
    have hlen : ks.length ≤ 100000 := by have := cntL_len ks; omega
    refine sound_ (ks.length + 1) (tree_Depth_tree _ _) ?_
    simp only [dE_5, hk, els_sl, List.length_map]
    have key := loop_list (P := Tryz.prog) (md := md) ks (fun m i (most : Nat) => tree_Depth_l3 (ks.length + 1) m (most : Int) (.sl (ks.map dE)) (ks.length : Int) (i : Int)) (fun rest most => [.int ((max most (depL rest) + 1 : Nat) : Int)]) (fun rest most => most ≤ 1000 ∧ depL rest ≤ 1000)
      (fun m i most hi hI => by
        simp only [tree_Depth_l3_succ]
        refine wp_ndec (by omega) (wp_ret ?_)
        rw [wrap64 (by omega) (by omega), depL]
        simp)
      (fun m i most x rest hdr hI ih2 => by
        obtain ⟨g1, g2, g3⟩ := drop_cons hdr
        have hx := List.mem_of_getElem? g2
        rw [depL] at hI
        have hs := ih x hx (by omega) (by have := cntL_mem hx; omega)
        simp only [tree_Depth_l3_succ, els_sl, List.length_map, Int.toNat_natCast, getD_map g2, wrap_succ (show i < 9223372036854775807 by omega)]
        refine wp_dec (by omega) (wp_dec (by omega) (wp_dec (by omega) (wp_call hs ?_)))
        show Tw (tree_Depth_l3 (ks.length + 1) m (if (most : Int) < (depE x : Int) then (depE x : Int) else (most : Int)) (.sl (ks.map dE)) (ks.length : Int) ((i + 1 : Nat) : Int)) [.int ((max most (depL (x :: rest)) + 1 : Nat) : Int)]
        have hm : (if (most : Int) < (depE x : Int) then (depE x : Int) else (most : Int)) = ((max most (depE x) : Nat) : Int) := by split <;> omega
        rw [hm]
        refine Tree.wp_mono (ih2 (max most (depE x)) ⟨by omega, by omega⟩) (fun ys hy => hy.trans ?_)
        rw [depL, Nat.max_assoc])
      (ks.length + 1) 0 0 (by omega) (by omega) ⟨by omega, by rw [List.drop_zero]; omega⟩
    refine Tree.wp_mono key (fun ys hy => hy.trans ?_)
    rw [List.drop_zero, h1, Nat.zero_max]
theorem tree_Count_sp (e : Ex1) : cntE e ≤ 100000 → Sp 10 [dE e] [.int (cntE e : Int)] := by
  induction e using Ex1.ind with
  | h k o s n t ks ih =>
    intro hc
    have h2 := cntE_eq (.mk k o s n t ks)
    have hk : (Ex1.mk k o s n t ks).kids = ks := rfl
    rw [hk] at h2
    have hlen : ks.length ≤ 100000 := by have := cntL_len ks; omega
    refine sound_ (ks.length + 1) (tree_Count_tree _ _) ?_
    simp only [dE_5, hk, els_sl, List.length_map]
    have key := loop_list (P := Tryz.prog) (md := md) ks (fun m i (c : Nat) => tree_Count_l3 (ks.length + 1) m (c : Int) (.sl (ks.map dE)) (ks.length : Int) (i : Int)) (fun rest c => [.int ((c + cntL rest : Nat) : Int)]) (fun rest c => c + cntL rest ≤ 100000)
      (fun m i c hi hI => by
        simp only [tree_Count_l3_succ]
        exact wp_ndec (by omega) (wp_ret (by rw [cntL, Nat.add_zero])))
      (fun m i c x rest hdr hI ih2 => by
        obtain ⟨g1, g2, g3⟩ := drop_cons hdr
        have hx := List.mem_of_getElem? g2
        rw [cntL] at hI
        have hs := ih x hx (by omega)
        simp only [tree_Count_l3_succ, els_sl, List.length_map, Int.toNat_natCast, getD_map g2, wrap_succ (show i < 9223372036854775807 by omega)]
        refine wp_dec (by omega) (wp_dec (by omega) (wp_dec (by omega) (wp_call hs ?_)))
        simp only [getD_c0, toInt_int]
        have hm : IntKind.wrap .i64 ((c : Int) + (cntE x : Int)) = ((c + cntE x : Nat) : Int) := by rw [wrap64 (by omega) (by omega)]; omega
        rw [hm]
        refine Tree.wp_mono (ih2 (c + cntE x) (by omega)) (fun ys hy => hy.trans ?_)
        rw [cntL, Nat.add_assoc])
      (ks.length + 1) 0 1 (by omega) (by omega) (by rw [List.drop_zero]; omega)
    refine Tree.wp_mono key (fun ys hy => hy.trans ?_)
    rw [List.drop_zero, h2, Nat.add_comm]
theorem ref21_Depth_sp (e : Ex1) : depE e ≤ 1000 → cntE e ≤ 100000 → Sp 9 [dE e] [.int (depE e : Int)] := by
  induction e using Ex1.ind with
  | h k o s n t ks ih =>
    intro hd hc
    have h1 := depE_eq (.mk k o s n t ks)
    have h2 := cntE_eq (.mk k o s n t ks)
    have hk : (Ex1.mk k o s n t ks).kids = ks := rfl
    rw [hk] at h1 h2
    have hlen : ks.length ≤ 100000 := by have := cntL_len ks; omega
    refine sound_ (ks.length + 1) (ref21_Depth_tree _ _) ?_
    have key := loop_list (P := Tryz.prog) (md := md) ks (fun m i (most : Nat) => ref21_Depth_l3 (ks.length + 1) m (most : Int) (i : Int) (dE (.mk k o s n t ks))) (fun rest most => [.int ((max most (depL rest) + 1 : Nat) : Int)]) (fun rest most => most ≤ 1000 ∧ depL rest ≤ 1000)
      (fun m i most hi hI => by
        simp only [ref21_Depth_l3_succ, dE_5, hk, els_sl, List.length_map]
        refine wp_ndec (by omega) (wp_ret ?_)
        rw [wrap64 (by omega) (by omega), depL]
        simp)
      (fun m i most x rest hdr hI ih2 => by
        obtain ⟨g1, g2, g3⟩ := drop_cons hdr
        have hx := List.mem_of_getElem? g2
        rw [depL] at hI
        have hs := ih x hx (by omega) (by have := cntL_mem hx; omega)
        simp only [ref21_Depth_l3_succ, dE_5, hk, els_sl, List.length_map, Int.toNat_natCast, getD_map g2, wrap_succ (show i < 9223372036854775807 by omega)]
        refine wp_dec (by omega) (wp_dec (by omega) (wp_dec (by omega) (wp_call hs ?_)))
        simp only [getD_c0, toInt_int]
        refine wp_decs (fun g => ?_) (fun g => ?_)
        · refine Tree.wp_mono (ih2 (depE x) ⟨by omega, by omega⟩) (fun ys hy => hy.trans ?_)
          rw [depL, show max most (max (depE x) (depL rest)) = max (depE x) (depL rest) by omega]
        · refine Tree.wp_mono (ih2 most ⟨by omega, by omega⟩) (fun ys hy => hy.trans ?_)
          rw [depL, show max most (max (depE x) (depL rest)) = max most (depL rest) by omega])
      (ks.length + 1) 0 0 (by omega) (by omega) ⟨by omega, by rw [List.drop_zero]; omega⟩
    refine Tree.wp_mono key (fun ys hy => hy.trans ?_)
    rw [List.drop_zero, h1, Nat.zero_max]
theorem ref21_Count_sp (e : Ex1) : cntE e ≤ 100000 → Sp 11 [dE e] [.int (cntE e : Int)] := by
  induction e using Ex1.ind with
  | h k o s n t ks ih =>
    intro hc
    have h2 := cntE_eq (.mk k o s n t ks)
    have hk : (Ex1.mk k o s n t ks).kids = ks := rfl
    rw [hk] at h2
    have hlen : ks.length ≤ 100000 := by have := cntL_len ks; omega
    refine sound_ (ks.length + 1) (ref21_Count_tree _ _) ?_
    have key := loop_list (P := Tryz.prog) (md := md) ks (fun m i (c : Nat) => ref21_Count_l3 (ks.length + 1) m (c : Int) (i : Int) (dE (.mk k o s n t ks))) (fun rest c => [.int ((c + cntL rest : Nat) : Int)]) (fun rest c => c + cntL rest ≤ 100000)
      (fun m i c hi hI => by
        simp only [ref21_Count_l3_succ, dE_5, hk, els_sl, List.length_map]
        exact wp_ndec (by omega) (wp_ret (by rw [cntL, Nat.add_zero])))
      (fun m i c x rest hdr hI ih2 => by
        obtain ⟨g1, g2, g3⟩ := drop_cons hdr
        have hx := List.mem_of_getElem? g2
        rw [cntL] at hI
        have hs := ih x hx (by omega)
        simp only [ref21_Count_l3_succ, dE_5, hk, els_sl, List.length_map, Int.toNat_natCast, getD_map g2, wrap_succ (show i < 9223372036854775807 by omega)]
        refine wp_dec (by omega) (wp_dec (by omega) (wp_dec (by omega) (wp_call hs ?_)))
        simp only [getD_c0, toInt_int]
        have hm : IntKind.wrap .i64 ((c : Int) + (cntE x : Int)) = ((c + cntE x : Nat) : Int) := by rw [wrap64 (by omega) (by omega)]; omega
        rw [hm]
        refine Tree.wp_mono (ih2 (c + cntE x) (by omega)) (fun ys hy => hy.trans ?_)
        rw [cntL, Nat.add_assoc])
      (ks.length + 1) 0 1 (by omega) (by omega) (by rw [List.drop_zero]; omega)
    refine Tree.wp_mono key (fun ys hy => hy.trans ?_)
    rw [List.drop_zero, h2, Nat.add_comm]
theorem ref21_all_sp (e : Ex1) (he : FitsE e) : Sp 15 [dE e] [.bool (allE e)] := by
  induction e using Ex1.ind with
  | h k o s n t ks ih =>
    have hk : (Ex1.mk k o s n t ks).kids = ks := rfl
    have hlen := he.len
    have hks := he.kids
    rw [hk] at hlen hks
    refine sound_ (ks.length + 1) (ref21_all_tree _ _) (wp_call (ref21_one_sp _ he) ?_)
    rw [allE_eq, hk]
    simp only [getD_c0, toBool_bool]
    refine wp_br (fun g => wp_ret ?_) (fun g => ?_)
    · rw [show oneB (.mk k o s n t ks) = false by simpa using g]; rfl
    rw [show oneB (.mk k o s n t ks) = true by simpa using g, Bool.true_and]
    have key := loop_list (P := Tryz.prog) (md := md) ks (fun m i (_ : Unit) => ref21_all_l4 (ks.length + 1) m (i : Int) (dE (.mk k o s n t ks))) (fun rest _ => [.bool (rest.all allE)]) (fun _ _ => True)
      (fun m i _ hi _ => by
        simp only [ref21_all_l4_succ, dE_5, hk, els_sl, List.length_map]
        exact wp_ndec (by omega) (wp_ret rfl))
      (fun m i _ x rest hdr _ ih2 => by
        obtain ⟨g1, g2, g3⟩ := drop_cons hdr
        have hx := List.mem_of_getElem? g2
        have hs := ih x hx (hks x hx)
        simp only [ref21_all_l4_succ, dE_5, hk, els_sl, List.length_map, Int.toNat_natCast, getD_map g2, wrap_succ (show i < 9223372036854775807 by omega), List.all_cons]
        refine wp_dec (by omega) (wp_dec (by omega) (wp_dec (by omega) (wp_call hs ?_)))
        simp only [getD_c0, toBool_bool]
        refine wp_br (fun q => wp_ret ?_) (fun q => ?_)
        · rw [show allE x = false by simpa using q]; rfl
        · rw [show allE x = true by simpa using q, Bool.true_and]; exact ih2 () trivial)
      (ks.length + 1) 0 () (by omega) (by omega) trivial
    exact key
/-! Which are few. -/
def leftX : Nat → Ex1 → Int → Int
  | 0, _, _ => -1
  | d + 1, e, n => e.kids.foldl (fun n k => if n < 0 then n else leftX d k n) (n - 1 - ((e.text.length / 8 : Nat) : Int))
theorem foldl_neg {d : Nat} : ∀ (ks : List Ex1) (n : Int), n < 0 → ks.foldl (fun n k => if n < 0 then n else leftX d k n) n = n
  | [], _, _ => rfl
  | k :: ks, n, h => by rw [List.foldl_cons, if_pos h]; exact foldl_neg ks n h
theorem left_bd : ∀ (d : Nat) (e : Ex1) (n : Int), FitsE e → 0 ≤ n → n ≤ 3000 → -17592186044420 ≤ leftX d e n ∧ leftX d e n ≤ 3000
  | 0, e, n, _, _, _ => by simp [leftX]
  | d + 1, e, n, he, h0, h1 => by
    rw [leftX]
    have ht := he.text
    have key : ∀ (ks : List Ex1) (m : Int), (∀ k ∈ ks, FitsE k) → -17592186044420 ≤ m → m ≤ 3000 → -17592186044420 ≤ ks.foldl (fun n k => if n < 0 then n else leftX d k n) m ∧ ks.foldl (fun n k => if n < 0 then n else leftX d k n) m ≤ 3000 := by
      intro ks
      induction ks with
      | nil => intro m _ a b; exact ⟨a, b⟩
      | cons k ks ih =>
        intro m hk a b
        rw [List.foldl_cons]
        by_cases hm : m < 0
        · rw [if_pos hm]; exact ih m (fun x hx => hk x (by simp [hx])) a b
        · rw [if_neg hm]
          obtain ⟨c1, c2⟩ := left_bd d k m (hk k (by simp)) (by omega) b
          exact ih _ (fun x hx => hk x (by simp [hx])) c1 c2
    exact key e.kids _ he.kids (by omega) (by omega)
theorem left_few : ∀ (d : Nat) (e : Ex1) (n : Int), 0 ≤ leftX d e n → depE e ≤ d ∧ (cntE e : Int) + leftX d e n ≤ n
  | 0, e, n, h => by simp [leftX] at h
  | d + 1, e, n, h => by
    rw [leftX] at h ⊢
    have key : ∀ (ks : List Ex1) (m : Int), 0 ≤ ks.foldl (fun n k => if n < 0 then n else leftX d k n) m → depL ks ≤ d ∧ (cntL ks : Int) + ks.foldl (fun n k => if n < 0 then n else leftX d k n) m ≤ m := by
      intro ks
      induction ks with
      | nil => intro m a; simp only [List.foldl_nil] at a ⊢; rw [depL, cntL]; omega
      | cons k ks ih =>
        intro m a
        rw [List.foldl_cons] at a ⊢
        by_cases hm : m < 0
        · rw [if_pos hm, foldl_neg ks m hm] at a; omega
        · rw [if_neg hm] at a ⊢
          obtain ⟨c1, c2⟩ := ih _ a
          have c3 : 0 ≤ leftX d k m := by
            rcases Int.lt_or_le (leftX d k m) 0 with q | q
            · rw [foldl_neg ks _ q] at a; omega
            · exact q
          obtain ⟨c4, c5⟩ := left_few d k m c3
          rw [depL, cntL]
          omega
    obtain ⟨a, b⟩ := key e.kids _ h
    rw [depE_eq, cntE_eq]
    omega
theorem ref21_left_sp : ∀ (d : Nat) (e : Ex1) (n : Int), d ≤ 60 → FitsE e → 0 ≤ n → n ≤ 3000 → Sp 12 [dE e, .int (d : Int), .int n] [.int (leftX d e n)]
  | 0, e, n, _, he, _, _ => by
    refine sound_ 0 (ref21_left_tree _ _ _ _) (wp_tt (by decide) ?_)
    simp only [toInt_int, int_beq]
    exact wp_dec rfl (wp_ret rfl)
  | d + 1, e, n, hd, he, h0, h1 => by
    have hlen := he.len
    have ht := he.text
    have hks := he.kids
    refine sound_ (e.kids.length + 1) (ref21_left_tree _ _ _ _) (wp_tt (by decide) ?_)
    simp only [toInt_int, int_beq, dE_4, els_dI, List.length_map]
    refine wp_ndec (by omega) ?_
    have e8 : Int.tdiv (e.text.length : Int) 8 = ((e.text.length / 8 : Nat) : Int) := by rw [Int.tdiv_eq_ediv_of_nonneg (by omega)]; omega
    have w : IntKind.wrap .i64 (IntKind.wrap .i64 (n - 1) - IntKind.wrap .i64 (Int.tdiv (e.text.length : Int) 8)) = n - 1 - ((e.text.length / 8 : Nat) : Int) := by
      rw [e8, wrap64 (x := n - 1) (by omega) (by omega), wrap64 (x := ((e.text.length / 8 : Nat) : Int)) (by omega) (by omega), wrap64 (by omega) (by omega)]
    rw [w]
    have key := loop_list (P := Tryz.prog) (md := md) e.kids (fun m i (c : Int) => ref21_left_l5 (e.kids.length + 1) m ((d + 1 : Nat) : Int) c (i : Int) (dE e)) (fun rest c => [.int (rest.foldl (fun n k => if n < 0 then n else leftX d k n) c)]) (fun _ c => -17592186044420 ≤ c ∧ c ≤ 3000)
      (fun m i c hi hI => by
        simp only [ref21_left_l5_succ, dE_5, els_sl, List.length_map]
        exact wp_ndec (by omega) (wp_ret rfl))
      (fun m i c x rest hdr hI ih2 => by
        obtain ⟨g1, g2, g3⟩ := drop_cons hdr
        have hx := List.mem_of_getElem? g2
        have w1 : IntKind.wrap .i64 (((d + 1 : Nat) : Int) - 1) = (d : Int) := by rw [wrap64 (by omega) (by omega)]; omega
        simp only [ref21_left_l5_succ, dE_5, els_sl, List.length_map, Int.toNat_natCast, getD_map g2, w1, wrap_succ (show i < 9223372036854775807 by omega), List.foldl_cons]
        refine wp_dec (by omega) (wp_decs (fun g => ?_) (fun g => wp_ret ?_))
        · rw [if_neg (by omega)]
          have bd := left_bd d x c (hks x hx) g hI.2
          refine wp_dec (by omega) (wp_dec (by omega) (wp_call (ref21_left_sp d x c (by omega) (hks x hx) g hI.2) ?_))
          simp only [getD_c0, toInt_int]
          exact ih2 _ bd
        · rw [if_pos (by omega), foldl_neg rest c (by omega)])
      (e.kids.length + 1) 0 (n - 1 - ((e.text.length / 8 : Nat) : Int)) (by omega) (by omega) ⟨by omega, by omega⟩
    exact key
theorem ref21_Few_sp (e : Ex1) (he : FitsE e) : Sp 4 [dE e] [.bool (decide (0 ≤ leftX 60 e 3000))] :=
  sound_ 0 (ref21_Few_tree _ _) (wp_call (ref21_left_sp 60 e 3000 (by omega) he (by omega) (by omega)) (wp_ret rfl))
theorem few_bd {e : Ex1} (h : 0 ≤ leftX 60 e 3000) : depE e ≤ 60 ∧ cntE e ≤ 3000 := by have := left_few 60 e 3000 h; omega
noncomputable def rigE (e : Ex1) : Bool := decide (depE e ≤ 40) && (decide (cntE e ≤ 2048) && allE e)
theorem ref21_Right_sp (e : Ex1) (he : FitsE e) (h1 : depE e ≤ 1000) (h2 : cntE e ≤ 100000) : Sp 7 [dE e] [.bool (rigE e)] := by
  refine sound_ 0 (ref21_Right_tree _ _) (wp_call (ref21_Depth_sp e h1 h2) ?_)
  simp only [getD_c0, toInt_int]
  unfold rigE
  refine wp_decs (fun g => ?_) (fun g => wp_ret (by rw [decide_eq_false (by omega)]; rfl))
  rw [decide_eq_true (show depE e ≤ 40 by omega), Bool.true_and]
  refine wp_call (ref21_Count_sp e h2) ?_
  simp only [getD_c0, toInt_int]
  refine wp_decs (fun g => ?_) (fun g => wp_ret (by rw [decide_eq_false (by omega)]; rfl))
  rw [decide_eq_true (show cntE e ≤ 2048 by omega), Bool.true_and]
  exact wp_call (ref21_all_sp e he) (wp_ret rfl)
/-! What tree.right does. -/
def rT : Nat → Ex1 → Nat → Bool × Nat
  | 0, _, l => (false, l)
  | d + 1, e, l => if l = 0 then (false, l) else if heldB e && madeB e then e.kids.foldl (fun s k => if s.1 then rT d k s.2 else s) (true, l - 1) else (false, l - 1)
theorem foldl_stop {d : Nat} : ∀ (ks : List Ex1) (l : Nat), ks.foldl (fun s k => if s.1 then rT d k s.2 else s) (false, l) = (false, l)
  | [], _ => rfl
  | k :: ks, l => by rw [List.foldl_cons]; exact foldl_stop ks l
theorem rT_le : ∀ (d : Nat) (e : Ex1) (l : Nat), (rT d e l).2 ≤ l
  | 0, e, l => by simp [rT]
  | d + 1, e, l => by
    have key : ∀ (ks : List Ex1) (s : Bool × Nat), (ks.foldl (fun s k => if s.1 then rT d k s.2 else s) s).2 ≤ s.2 := by
      intro ks
      induction ks with
      | nil => intro s; exact Nat.le_refl _
      | cons k ks ih =>
        intro s
        rw [List.foldl_cons]
        refine Nat.le_trans (ih _) ?_
        split
        · exact rT_le d k s.2
        · exact Nat.le_refl _
    rw [rT]
    split
    · exact Nat.le_refl _
    split
    · have := key e.kids (true, l - 1); simp only at this; omega
    · simp only; omega
theorem rT_all : ∀ (d : Nat) (e : Ex1) (l : Nat), ((rT d e l).1 = true ↔ depE e ≤ d ∧ cntE e ≤ l ∧ allE e = true) ∧ ((rT d e l).1 = true → (rT d e l).2 + cntE e = l)
  | 0, e, l => by
    refine ⟨⟨fun h => (by cases h), fun h => ?_⟩, fun h => (by cases h)⟩
    have := depE_eq e; omega
  | d + 1, e, l => by
    have key : ∀ (ks : List Ex1) (m : Nat), ((ks.foldl (fun s k => if s.1 then rT d k s.2 else s) (true, m)).1 = true ↔ depL ks ≤ d ∧ cntL ks ≤ m ∧ ks.all allE = true) ∧ ((ks.foldl (fun s k => if s.1 then rT d k s.2 else s) (true, m)).1 = true → (ks.foldl (fun s k => if s.1 then rT d k s.2 else s) (true, m)).2 + cntL ks = m) := by
      intro ks
      induction ks with
      | nil => intro m; simp [depL, cntL]
      | cons k ks ih =>
        intro m
        rw [List.foldl_cons]
        simp only [if_true]
        obtain ⟨a1, a2⟩ := rT_all d k m
        rw [depL, cntL, List.all_cons, Bool.and_eq_true]
        cases hr : (rT d k m).1 with
        | true =>
          have e1 : rT d k m = (true, (rT d k m).2) := by rw [← hr]
          rw [e1]
          obtain ⟨b1, b2⟩ := ih (rT d k m).2
          have c1 := a1.1 hr
          have c2 := a2 hr
          refine ⟨⟨fun h => ?_, fun h => ?_⟩, fun h => ?_⟩
          · obtain ⟨d1, d2, d3⟩ := b1.1 h
            exact ⟨by omega, by omega, c1.2.2, d3⟩
          · exact b1.2 ⟨by omega, by omega, h.2.2.2⟩
          · have := b2 h; omega
        | false =>
          have e1 : rT d k m = (false, (rT d k m).2) := by rw [← hr]
          rw [e1, foldl_stop]
          refine ⟨⟨fun h => (by cases h), fun h => ?_⟩, fun h => by cases h⟩
          have := a1.2 ⟨by omega, by omega, h.2.2.1⟩
          rw [hr] at this; cases this
    rw [rT, allE_eq, one_eq, depE_eq, cntE_eq]
    by_cases hl : l = 0
    · rw [if_pos hl]
      refine ⟨⟨fun h => (by cases h), fun h => by omega⟩, fun h => by cases h⟩
    rw [if_neg hl]
    cases hm : (heldB e && madeB e) with
    | false => exact ⟨⟨fun h => (by cases h), fun h => by cases h.2.2⟩, fun h => by cases h⟩
    | true =>
      simp only [if_true, Bool.true_and]
      obtain ⟨b1, b2⟩ := key e.kids (l - 1)
      refine ⟨⟨fun h => ?_, fun h => b1.2 ⟨by omega, by omega, h.2.2⟩⟩, fun h => ?_⟩
      · obtain ⟨c1, c2, c3⟩ := b1.1 h
        exact ⟨by omega, by omega, c3⟩
      · have := b2 h; omega
theorem rT_rig (e : Ex1) : (rT 40 e 2048).1 = rigE e := by
  have h := (rT_all 40 e 2048).1
  unfold rigE
  cases hr : (rT 40 e 2048).1 with
  | true =>
    obtain ⟨a, b, c⟩ := h.1 hr
    rw [decide_eq_true a, decide_eq_true b, c]; rfl
  | false =>
    cases hx : (decide (depE e ≤ 40) && (decide (cntE e ≤ 2048) && allE e)) with
    | false => rfl
    | true =>
      simp only [Bool.and_eq_true, decide_eq_true_eq] at hx
      have := h.2 ⟨hx.1, hx.2.1, hx.2.2⟩
      rw [hr] at this; cases this
end Go.Proofs.YtcdjifdllibolaaGreat

set_option maxRecDepth 100000
namespace Go.Proofs.YtcdjifdllibolaaGreat
open Go.RowKit
section
variable {w : World} {M : Nat → Prop} {t : Nat} {x : D} {c : Nat → Option Value}
theorem rdc_int {k : IntKind} (h : RdC Tryz.prog md w M (.ty t) x c) (ht : Tryz.prog.underlying t = some (.int k)) : ∃ n, c 0 = some (.int k n) := by
  cases h with
  | int ht' h1 h2 hc =>
    have : Tryz.prog.underlying t = _ := ht'
    rw [ht] at this
    injection this with this; injection this with this; subst this
    exact ⟨_, hc⟩
  | bool ht' => have : Tryz.prog.underlying t = _ := ht'; rw [ht] at this; cases this
  | str ht' => have : Tryz.prog.underlying t = _ := ht'; rw [ht] at this; cases this
  | sl ht' => have : Tryz.prog.underlying t = _ := ht'; rw [ht] at this; cases this
  | fn ht' => have : Tryz.prog.underlying t = _ := ht'; rw [ht] at this; cases this
  | ref ht' => have : Tryz.prog.underlying t = _ := ht'; rw [ht] at this; cases this
  | mp ht' => have : Tryz.prog.underlying t = _ := ht'; rw [ht] at this; cases this
  | struct hf => obtain ⟨⟨a, ha, _⟩, _⟩ := fieldsOf_under hf; rw [ht] at ha; cases ha
theorem rdc_bool (h : RdC Tryz.prog md w M (.ty t) x c) (ht : Tryz.prog.underlying t = some .bool) : ∃ b, c 0 = some (.bool b) := by
  cases h with
  | bool ht' hc => exact ⟨_, hc⟩
  | int ht' => have : Tryz.prog.underlying t = _ := ht'; rw [ht] at this; cases this
  | str ht' => have : Tryz.prog.underlying t = _ := ht'; rw [ht] at this; cases this
  | sl ht' => have : Tryz.prog.underlying t = _ := ht'; rw [ht] at this; cases this
  | fn ht' => have : Tryz.prog.underlying t = _ := ht'; rw [ht] at this; cases this
  | ref ht' => have : Tryz.prog.underlying t = _ := ht'; rw [ht] at this; cases this
  | mp ht' => have : Tryz.prog.underlying t = _ := ht'; rw [ht] at this; cases this
  | struct hf => obtain ⟨⟨a, ha, _⟩, _⟩ := fieldsOf_under hf; rw [ht] at ha; cases ha
theorem rdc_str (h : RdC Tryz.prog md w M (.ty t) x c) (ht : Tryz.prog.underlying t = some .string) : ∃ b, c 0 = some (.string b) := by
  cases h with
  | str ht' _ hc => exact ⟨_, hc⟩
  | int ht' => have : Tryz.prog.underlying t = _ := ht'; rw [ht] at this; cases this
  | bool ht' => have : Tryz.prog.underlying t = _ := ht'; rw [ht] at this; cases this
  | sl ht' => have : Tryz.prog.underlying t = _ := ht'; rw [ht] at this; cases this
  | fn ht' => have : Tryz.prog.underlying t = _ := ht'; rw [ht] at this; cases this
  | ref ht' => have : Tryz.prog.underlying t = _ := ht'; rw [ht] at this; cases this
  | mp ht' => have : Tryz.prog.underlying t = _ := ht'; rw [ht] at this; cases this
  | struct hf => obtain ⟨⟨a, ha, _⟩, _⟩ := fieldsOf_under hf; rw [ht] at ha; cases ha
theorem rdc_sl {e : Nat} {es : List D} (h : RdC Tryz.prog md w M (.ty t) (.sl es) c) (ht : Tryz.prog.underlying t = some (.slice e)) : ∃ A m, c 0 = some (.slice A es.length m) := by
  cases h with
  | sl ht' hc => exact ⟨_, _, hc⟩
end
theorem fld_ofs {t : Nat} {l : List (Nat × Nat)} (h : (fieldsOf Tryz.prog t).map (fun fs => fs.map (fun f => (f.type, f.offset))) = some l) {i ft o : Nat} (hi : l[i]? = some (ft, o)) {w : World} {M : Nat → Prop} {x : D} {c : Nat → Option Value} (hr : RdC Tryz.prog md w M (.ty t) x c) : RdC Tryz.prog md w M (.ty ft) (x.fld i) (fun j => c (o + j)) := by
  obtain ⟨fs, hf, rfl⟩ := Option.map_eq_some_iff.1 h
  rw [List.getElem?_map, Option.map_eq_some_iff] at hi
  obtain ⟨f, h1, h2⟩ := hi
  injection h2 with h2 h3
  subst h2
  subst h3
  exact rd_fld hr hf h1
theorem flds_Expr : (fieldsOf Tryz.prog 28).map (fun fs => fs.map (fun f => (f.type, f.offset))) = some [(3, 0), (3, 1), (9, 2), (24, 3), (25, 6), (26, 7)] := by kernel_rfl
theorem flds_Num : (fieldsOf Tryz.prog 24).map (fun fs => fs.map (fun f => (f.type, f.offset))) = some [(4, 0), (22, 1), (22, 2)] := by kernel_rfl
theorem expr_forms {w : World} {M : Nat → Prop} {e : Ex1} {c : Nat → Option Value} (h : RdC Tryz.prog md w M (.ty 28) (dE e) c) : ∃ n0 n1 s b A4 k4 m4 A5 k5 m5 A6 k6 m6 A7 m7, c 0 = some (.int .i64 n0) ∧ c 1 = some (.int .i64 n1) ∧ c 2 = some (.string s) ∧ c 3 = some (.bool b) ∧ c 4 = some (.slice A4 k4 m4) ∧ c 5 = some (.slice A5 k5 m5) ∧ c 6 = some (.slice A6 k6 m6) ∧ c 7 = some (.slice A7 e.kids.length m7) := by
  obtain ⟨n0, h0⟩ := rdc_int (fld_ofs flds_Expr (i := 0) rfl h) (k := .i64) (by kernel_rfl)
  obtain ⟨n1, h1⟩ := rdc_int (fld_ofs flds_Expr (i := 1) rfl h) (k := .i64) (by kernel_rfl)
  obtain ⟨s, h2⟩ := rdc_str (fld_ofs flds_Expr (i := 2) rfl h) (by kernel_rfl)
  have hn := fld_ofs flds_Expr (i := 3) rfl h
  rw [dE_3] at hn
  obtain ⟨b, h3⟩ := rdc_bool (fld_ofs flds_Num (i := 0) rfl hn) (by kernel_rfl)
  have q4 := fld_ofs flds_Num (i := 1) rfl hn
  have q5 := fld_ofs flds_Num (i := 2) rfl hn
  have q6 := fld_ofs flds_Expr (i := 4) rfl h
  have q7 := fld_ofs flds_Expr (i := 5) rfl h
  rw [dN_1] at q4
  rw [dN_2] at q5
  rw [dE_4] at q6
  rw [dE_5] at q7
  obtain ⟨A4, m4, h4⟩ := rdc_sl q4 (e := 41) (by kernel_rfl)
  obtain ⟨A5, m5, h5⟩ := rdc_sl q5 (e := 41) (by kernel_rfl)
  obtain ⟨A6, m6, h6⟩ := rdc_sl q6 (e := 3) (by kernel_rfl)
  obtain ⟨A7, m7, h7⟩ := rdc_sl q7 (e := 28) (by kernel_rfl)
  rw [List.length_map] at h7
  exact ⟨n0, n1, s, b, A4, _, m4, A5, _, m5, A6, _, m6, A7, m7, h0, h1, h2, h3, h4, h5, h6, h7⟩
/-- An expression's value. -/
theorem expr_value {w : World} {M : Nat → Prop} {e : Ex1} {v : Value} (h : Rd Tryz.prog md w M (.ty 28) (dE e) v) : ∃ n0 n1 s b A4 k4 m4 A5 k5 m5 A6 k6 m6 A7 m7, v = .agg #[.int .i64 n0, .int .i64 n1, .string s, .bool b, .slice A4 k4 m4, .slice A5 k5 m5, .slice A6 k6 m6, .slice A7 e.kids.length m7] := by
  obtain ⟨n0, n1, s, b, A4, k4, m4, A5, k5, m5, A6, k6, m6, A7, m7, h0, h1, h2, h3, h4, h5, h6, h7⟩ := expr_forms h.rd
  refine ⟨n0, n1, s, b, A4, k4, m4, A5, k5, m5, A6, k6, m6, A7, m7, ?_⟩
  have hsz : v.cells.size = 8 := by rw [h.size]; kernel_rfl
  have hag : isAggV v = true := by rw [h.agg]; kernel_rfl
  cases v with
  | agg cs =>
    congr 1
    have hcs : cs.size = 8 := hsz
    apply Array.ext
    · simpa using hcs
    · intro i g1 g2
      have g3 : i < 8 := by omega
      have g : ∀ (j : Nat) (u : Value) (hj : j < cs.size), (fun j => (Value.agg cs).cells[j]?) j = some u → cs[j] = u := fun j u hj hh => by
        have hh : cs[j]? = some u := hh
        rw [Array.getElem?_eq_getElem hj] at hh
        injection hh
      match i, g3 with
      | 0, _ => exact g 0 _ g1 h0
      | 1, _ => exact g 1 _ g1 h1
      | 2, _ => exact g 2 _ g1 h2
      | 3, _ => exact g 3 _ g1 h3
      | 4, _ => exact g 4 _ g1 h4
      | 5, _ => exact g 5 _ g1 h5
      | 6, _ => exact g 6 _ g1 h6
      | 7, _ => exact g 7 _ g1 h7
  | _ => cases hag
/-- A part, where memory is as it was but for one block. -/
theorem list_expr {b : Nat} {ks : List Ex1} {A : Option Addr} {m : Nat} {w : World} (h : RdC Tryz.prog md w (fun q => q = b) (.ty 26) (.sl (ks.map dE)) (fun j => (Value.slice A ks.length m).cells[j]?)) {k : Nat} (hk : k < ks.length) : ∃ bk off, A = some ⟨bk, off, none⟩ ∧ bk ≠ b ∧ bk < w.heap.size ∧ ∀ wr, Stp (fun q => q = b) w wr →
    ∃ n0 n1 s q A4 k4 m4 A5 k5 m5 A6 k6 m6 A7 m7, (∀ (j : Nat) (u : Value), [Value.int .i64 n0, .int .i64 n1, .string s, .bool q, .slice A4 k4 m4, .slice A5 k5 m5, .slice A6 k6 m6, .slice A7 ks[k].kids.length m7][j]? = some u → wr.cell? ⟨bk, off + k * 8 + j, none⟩ = some u) ∧ Rd Tryz.prog md wr (fun q => q = b) (.ty 28) (dE ks[k]) (.agg #[.int .i64 n0, .int .i64 n1, .string s, .bool q, .slice A4 k4 m4, .slice A5 k5 m5, .slice A6 k6 m6, .slice A7 ks[k].kids.length m7]) := by
  have h8 : Tryz.prog.cellsOf 28 = 8 := by kernel_rfl
  cases h with
  | @sl _ e _ _ A' cap bk off ht hc h4 h5 hA hh =>
    have he : e = 28 := by
      have : Tryz.prog.underlying 26 = some (.slice e) := ht
      rw [show Tryz.prog.underlying 26 = some (.slice 28) by kernel_rfl] at this
      injection this with this; injection this with this; exact this.symm
    subst he
    have hv : Value.slice A ks.length m = .slice A' (ks.map dE).length cap := by simpa [Value.cells] using hc
    injection hv with e1 e2 e3
    subst e1
    obtain ⟨a1, a2, a3⟩ := hA (fun e => by rw [List.map_eq_nil_iff.1 e] at hk; simp at hk)
    refine ⟨bk, off, a1, a2, a3, fun wr hb => ?_⟩
    have hr := hh k (dE ks[k]) (by rw [List.getElem?_map, List.getElem?_eq_getElem hk]; rfl)
    rw [h8] at hr
    have hpos : 0 < (CT.ty 28).size Tryz.prog := by show 0 < Tryz.prog.cellsOf _; omega
    have hr' : RdC Tryz.prog md wr (fun q => q = b) (.ty 28) (dE ks[k]) (fun j => wr.cell? ⟨bk, off + k * 8 + j, none⟩) := by
      have := hr.mono (w' := wr) (M' := fun q => q = b) hb.size (fun q hq hlt => hb.block q hlt hq) (fun q hf _ => hf)
      refine this.congr (fun j _ => ?_) hpos
      rw [Nat.add_assoc, cell_same (hb.block bk a3 a2)]
    obtain ⟨n0, n1, s, q, A4, k4, m4, A5, k5, m5, A6, k6, m6, A7, m7, c0, c1, c2, c3, c4, c5, c6, c7⟩ := expr_forms hr'
    have hcell : ∀ (j : Nat) (u : Value), [Value.int .i64 n0, .int .i64 n1, .string s, .bool q, .slice A4 k4 m4, .slice A5 k5 m5, .slice A6 k6 m6, .slice A7 ks[k].kids.length m7][j]? = some u → wr.cell? ⟨bk, off + k * 8 + j, none⟩ = some u := fun j u hu => by
      match j, hu with
      | 0, hu => cases hu; exact c0
      | 1, hu => cases hu; exact c1
      | 2, hu => cases hu; exact c2
      | 3, hu => cases hu; exact c3
      | 4, hu => cases hu; exact c4
      | 5, hu => cases hu; exact c5
      | 6, hu => cases hu; exact c6
      | 7, hu => cases hu; exact c7
      | j + 8, hu => simp at hu
    refine ⟨n0, n1, s, q, A4, k4, m4, A5, k5, m5, A6, k6, m6, A7, m7, hcell, ?_, h8.symm, by kernel_rfl⟩
    refine hr'.congr (fun j hj => ?_) hpos
    have hj : j < 8 := by
      have : j < Tryz.prog.cellsOf 28 := hj
      omega
    match j, hj with
    | 0, _ => exact c0.symm
    | 1, _ => exact c1.symm
    | 2, _ => exact c2.symm
    | 3, _ => exact c3.symm
    | 4, _ => exact c4.symm
    | 5, _ => exact c5.symm
    | 6, _ => exact c6.symm
    | 7, _ => exact c7.symm
end Go.Proofs.YtcdjifdllibolaaGreat

set_option maxRecDepth 100000
namespace Go.Proofs.YtcdjifdllibolaaGreat
open Go.RowKit
theorem sp_bool {P : Program} {md : Nat → FMode} {F : Nat} {fn : Func} {xs : List D} {n : Bool} {vs : List Value} {W : World} {M : Nat → Prop} {t : Nat} (hs : Spec P md F [] xs [.bool n]) (hfn : P.funcs[F]? = some fn) (hm : md F = {}) (hM : ∀ b, M b → b < W.heap.size)
    (hlx : xs.length = fn.params.size) (hlv : vs.length = fn.params.size) (hrd : ∀ (i t : Nat) (x : D) (v : Value), fn.params.toList[i]? = some t → xs[i]? = some x → vs[i]? = some v → Rd P md W M (.ty t) x v)
    (hrt : fn.resultTypes = #[t]) (ht : P.underlying t = some .bool) : Calls P F vs.toArray W (fun e w' => e = .returned (.bool n) ∧ Ext W w') := by
  refine (sp_calls hs hfn hm hM hlx hlv hrd).mono ?_
  rintro e w' ⟨us, rfl, hl, hh, hx⟩
  obtain ⟨u, rfl⟩ := one_of hl (by rw [hrt]; rfl)
  have := (hh 0 t u (by rw [hrt]; rfl) rfl).bool ht
  subst this
  exact ⟨rfl, hx⟩
/-- What is told, and what is left. -/
theorem heap_alloc_old' {w : World} {o : Obj} {b : Nat} {z : Obj} (h : w.heap[b]? = some z) : (w.alloc o).heap[b]? = some z := (heap_alloc_old w o (Array.getElem?_eq_some_iff.1 h).1).trans h
def RetR (W : World) (b : Nat) (r : Bool × Nat) (e : Ending) (w' : World) : Prop := e = .returned (.bool r.1) ∧ w'.heap[b]? = some (.cells #[.int .i64 (r.2 : Int)] 3 (0, 0)) ∧ Stp (fun q => q = b) W w'
theorem nblk_setCell (w : World) (a : Addr) (v : Value) : (w.setCell a v).heap.size = w.heap.size := by simp [World.setCell]
theorem Stp.setAt {b : Nat} {w0 w : World} (h : Stp (fun q => q = b) w0 w) (u : Value) : Stp (fun q => q = b) w0 (w.setCell ⟨b, 0, none⟩ u) :=
  ⟨h.os, h.tape, h.output, by rw [nblk_setCell]; exact h.size, fun k hk hn => (Below.heap_setCell w ⟨b, 0, none⟩ u k hn).trans (h.block k hk hn)⟩
theorem Stp.alloc_ {N : Nat → Prop} {w0 w : World} (h : Stp N w0 w) (o : Obj) : Stp N w0 (w.alloc o) := h.trans (Stp.of_ext (N := N) ((Ext.refl w).alloc o)) (fun _ hx => hx) (fun _ _ hx => hx)
theorem Stp.ext_ {N : Nat → Prop} {w0 w w' : World} (h : Stp N w0 w) (hx : Ext w w') : Stp N w0 w' := h.trans (Stp.of_ext (N := N) hx) (fun _ hx => hx) (fun _ _ hx => hx)
theorem rd_stp {N : Nat → Prop} {w w' : World} {t : CT} {x : D} {v : Value} (h : Rd Tryz.prog md w N t x v) (hs : Stp N w w') : Rd Tryz.prog md w' N t x v :=
  ⟨h.rd.mono hs.size (fun q hq hlt => hs.block q hlt hq) (fun _ hm _ => hm), h.size, h.agg⟩
theorem box8 {w : World} {B T : Nat} {u0 u1 u2 u3 u4 u5 u6 u7 : Value} (h : w.heap[B]? = some (.cells #[u0, u1, u2, u3, u4, u5, u6, u7] T (0, 0))) : w.cell? ⟨B, 0, none⟩ = some u0 ∧ w.cell? ⟨B, 1, none⟩ = some u1 ∧ w.cell? ⟨B, 2, none⟩ = some u2 ∧ w.cell? ⟨B, 3, none⟩ = some u3 ∧ w.cell? ⟨B, 4, none⟩ = some u4 ∧ w.cell? ⟨B, 5, none⟩ = some u5 ∧ w.cell? ⟨B, 6, none⟩ = some u6 ∧ w.cell? ⟨B, 7, none⟩ = some u7 := by
  unfold World.cell?
  simp [h]
theorem held_calls {X : Ex1} (hf : FitsE X) {v : Value} {W : World} {b : Nat} (hr : Rd Tryz.prog md W (fun q => q = b) (.ty 28) (dE X) v) (hb : b < W.heap.size) : Calls Tryz.prog 18 #[v] W (fun e w' => e = .returned (.bool (heldB X)) ∧ Ext W w') := by
  have hps : Tryz.f18.params.toList = [28] := by kernel_rfl
  exact sp_bool (vs := [v]) (tree_held_sp X hf (rn_any _)) Tryz.func18 (by kernel_rfl) (fun q hq => by rw [hq]; exact hb) (by kernel_rfl) (by kernel_rfl) (rd_all1 hps hr) (t := 4) (by kernel_rfl) (by kernel_rfl)
theorem made_calls {X : Ex1} (hf : FitsE X) {v : Value} {W : World} {b : Nat} (hr : Rd Tryz.prog md W (fun q => q = b) (.ty 28) (dE X) v) (hb : b < W.heap.size) : Calls Tryz.prog 19 #[v] W (fun e w' => e = .returned (.bool (madeB X)) ∧ Ext W w') := by
  have hps : Tryz.f19.params.toList = [28] := by kernel_rfl
  exact sp_bool (vs := [v]) (tree_made_sp X hf) Tryz.func19 (by kernel_rfl) (fun q hq => by rw [hq]; exact hb) (by kernel_rfl) (by kernel_rfl) (rd_all1 hps hr) (t := 4) (by kernel_rfl) (by kernel_rfl)
theorem idx_expr (bk off n c k : Nat) (hk : k < n) (w : World) : (Instr.indexAt 26 (.slice (some ⟨bk, off, none⟩) n c) (.int .i64 k)).run Tryz.prog w = .ok (.pointer (some ⟨bk, off + k * 8, none⟩)) w := by
  have hu : Tryz.prog.underlying 26 = some (.slice 28) := by kernel_rfl
  have h8 : Tryz.prog.cellsOf 28 = 8 := by kernel_rfl
  have hcond : 0 ≤ (k : Int) ∧ (k : Int) < ((n : Nat) : Int) := by omega
  simp [Instr.indexAt, asIntOf, run_underlying hu, hcond, hk, run_sizeOf (P := Tryz.prog) (t := 28) (by omega), h8, Addr.add_lit]
/-- So many parts have been told right. -/
def KL (W : World) (b d n : Nat) (ks : List Ex1) (k : Nat) (wr : World) : Prop := ∃ l : Nat, (ks.take k).foldl (fun s k => if s.1 then rT d k s.2 else s) (true, n - 1) = (true, l) ∧ l ≤ n ∧ wr.heap[b]? = some (.cells #[.int .i64 (l : Int)] 3 (0, 0)) ∧ Stp (fun q => q = b) W wr
set_option maxHeartbeats 1000000 in
theorem right_any (x : Ex1) : FitsE x → ∀ (W : World) (deep n b : Nat) (v : Value), deep ≤ 1000 → n ≤ 100000 → Rd Tryz.prog md W (fun q => q = b) (.ty 28) (dE x) v → W.heap[b]? = some (.cells #[.int .i64 (n : Int)] 3 (0, 0)) →
    Calls Tryz.prog 14 #[v, .int .i64 (deep : Int), .pointer (some ⟨b, 0, none⟩)] W (RetR W b (rT deep x n)) := by
  induction x using Ex1.ind with
  | h kd op nm nn tx ks ih =>
    intro hf W deep n b v hdeep hn hrd hb
    have hk0 : (Ex1.mk kd op nm nn tx ks).kids = ks := rfl
    generalize hX : Ex1.mk kd op nm nn tx ks = X at *
    obtain ⟨n0, n1, s, q, A4, k4, m4, A5, k5, m5, A6, k6, m6, A7, m7, rfl⟩ := expr_value hrd
    rw [hk0] at hrd
    have HRD := Lib.hid hrd
    clear hrd
    have hlen := hf.len
    rw [hk0] at hlen
    have hblt : b < W.heap.size := (Array.getElem?_eq_some_iff.1 hb).1
    have KC : ∀ (y : World) (j : Int), y.heap[b]? = some (.cells #[.int .i64 j] 3 (0, 0)) → y.cell? ⟨b, 0, none⟩ = some (.int .i64 j) := by
      intro y j h2
      unfold World.cell?
      simp [h2]
    have hfz : W.frozen? ⟨b, 0, none⟩ = false := by unfold World.frozen?; simp [hb]
    have hc0 := KC _ _ hb
    have hc1 := KC _ _ (heap_alloc_old' (o := .cells #[.int .i64 n0, .int .i64 n1, .string s, .bool q, .slice A4 k4 m4, .slice A5 k5 m5, .slice A6 k6 m6, .slice A7 ks.length m7] 28 (0, 0)) hb)
    rcases Nat.eq_zero_or_pos deep with hd0 | hd0
    · subst hd0
      rw [hk0]
      go_enter Tryz.func14, Tryz.ntmps14
      go_wp2_with fail
      go_ret
      exact ⟨rfl, heap_alloc_old' hb, Stp.of_ext ((Ext.refl W).alloc _)⟩
    obtain ⟨d, rfl⟩ : ∃ d, deep = d + 1 := ⟨deep - 1, by omega⟩
    rcases Nat.eq_zero_or_pos n with hn0 | hn0
    · subst hn0
      rw [hk0]
      go_enter Tryz.func14, Tryz.ntmps14
      go_wp2_with fail
      go_ret
      exact ⟨rfl, heap_alloc_old' hb, Stp.of_ext ((Ext.refl W).alloc _)⟩
    have hbd : (((d : Int) + 1) == 0) = false := beq_eq_false_iff_ne.2 (by omega)
    have hbn : ((n : Int) == 0) = false := beq_eq_false_iff_ne.2 (by omega)
    have hn1 : ((n : Int) - 1) = ((n - 1 : Nat) : Int) := by omega
    have hb2 := heap_alloc_old' (o := .cells #[.int .i64 n0, .int .i64 n1, .string s, .bool q, .slice A4 k4 m4, .slice A5 k5 m5, .slice A6 k6 m6, .slice A7 ks.length m7] 28 (0, 0)) (one_setCell (u := .int .i64 ((n - 1 : Nat) : Int)) hb)
    have hst2 := ((Stp.refl (fun q => q = b) W).setAt (.int .i64 ((n - 1 : Nat) : Int))).alloc_ (.cells #[.int .i64 n0, .int .i64 n1, .string s, .bool q, .slice A4 k4 m4, .slice A5 k5 m5, .slice A6 k6 m6, .slice A7 ks.length m7] 28 (0, 0))
    have hbox2 := heap_alloc_new (W.setCell ⟨b, 0, none⟩ (.int .i64 ((n - 1 : Nat) : Int))) (.cells #[.int .i64 n0, .int .i64 n1, .string s, .bool q, .slice A4 k4 m4, .slice A5 k5 m5, .slice A6 k6 m6, .slice A7 ks.length m7] 28 (0, 0))
    rw [nblk_setCell] at hbox2
    have hblt2 := (Array.getElem?_eq_some_iff.1 hb2).1
    have hxlt2 := (Array.getElem?_eq_some_iff.1 hbox2).1
    have hrd2 := rd_stp HRD.out hst2
    have HR2 := Lib.hid hrd2
    clear hrd2
    rw [hk0]
    have hrT : rT (d + 1) X n = if heldB X && madeB X then ks.foldl (fun s k => if s.1 then rT d k s.2 else s) (true, n - 1) else (false, n - 1) := by rw [rT, if_neg (by omega), hk0]
    cases hH : heldB X with
    | false =>
      have hh := held_calls hf HR2.out hblt2
      rw [hH] at hh
      go_enter Tryz.func14, Tryz.ntmps14
      go_wp2_with (go_at_call 18; refine hh.mono ?_; rintro e w1 ⟨rfl, hx1⟩)
      go_ret
      rw [hrT, hH]
      refine ⟨rfl, ?_, hst2.ext_ hx1⟩
      rw [hx1.block b hblt2, hb2]; rfl
    | true =>
      have hh := held_calls hf HR2.out hblt2
      rw [hH] at hh
      cases hM : madeB X with
      | false =>
        go_enter Tryz.func14, Tryz.ntmps14
        go_wp2_with (first
          | (go_at_call 18; refine hh.mono ?_; rintro e w1 ⟨rfl, hx1⟩; obtain ⟨x0, x1, x2, x3, x4, x5, x6, x7⟩ := box8 ((hx1.block _ hxlt2).trans hbox2))
          | (go_at_call 19; refine (made_calls hf (rd_stp HR2.out (Stp.of_ext hx1)) (Nat.lt_of_lt_of_le hblt2 hx1.size)).mono ?_; rw [hM]; rintro e w2 ⟨rfl, hx2⟩))
        go_ret
        rw [hrT, hH, hM]
        refine ⟨rfl, ?_, (hst2.ext_ hx1).ext_ hx2⟩
        rw [hx2.block b (Nat.lt_of_lt_of_le hblt2 hx1.size), hx1.block b hblt2, hb2]; rfl
      | true =>
        rw [hH, hM] at hrT
        simp only [Bool.and_self, if_true] at hrT
        go_enter Tryz.func14, Tryz.ntmps14
        go_wp2_with (first
          | (go_at_call 18; refine hh.mono ?_; rintro e w1 ⟨rfl, hx1⟩; obtain ⟨x0, x1, x2, x3, x4, x5, x6, x7⟩ := box8 ((hx1.block _ hxlt2).trans hbox2))
          | (go_at_call 19; refine (made_calls hf (rd_stp HR2.out (Stp.of_ext hx1)) (Nat.lt_of_lt_of_le hblt2 hx1.size)).mono ?_; rw [hM]; rintro e w2 ⟨rfl, hx2⟩; obtain ⟨y0, y1, y2, y3, y4, y5, y6, y7⟩ := box8 ((hx2.block _ (Nat.lt_of_lt_of_le hxlt2 hx1.size)).trans ((hx1.block _ hxlt2).trans hbox2))))
        go_loopw [33] (fun iv wr => ∃ k : Nat, k ≤ ks.length ∧ iv = .int .i64 k ∧ KL W b d n ks k wr) (fun iv _ => ks.length - (intOf iv).toNat)
        case atStart =>
          refine ⟨0, Nat.zero_le _, rfl, n - 1, rfl, by omega, ?_, (hst2.ext_ hx1).ext_ hx2⟩
          rw [hx2.block b (Nat.lt_of_lt_of_le hblt2 hx1.size), hx1.block b hblt2, hb2]
        case round =>
          obtain ⟨k, hk, rfl, HF⟩ := hrel
          obtain ⟨l, hfold, hll, hbr, hstr⟩ := HF
          by_cases hlt : k < ks.length
          · have hk7 : RdC Tryz.prog md W (fun q => q = b) (.ty 26) (.sl (ks.map dE)) (fun j => (Value.slice A7 ks.length m7).cells[j]?) := by
              have := fld_ofs flds_Expr (i := 5) rfl HRD.out.rd
              rw [dE_5, hk0] at this
              refine this.congr (fun j hj => ?_) (show 0 < Tryz.prog.cellsOf 26 from (show Tryz.prog.cellsOf 26 = 1 by kernel_rfl) ▸ Nat.one_pos)
              have hj : j < 1 := by
                have h1 : Tryz.prog.cellsOf 26 = 1 := by kernel_rfl
                have : j < Tryz.prog.cellsOf 26 := hj
                omega
              match j, hj with
              | 0, _ => rfl
            obtain ⟨bk, off, rfl, hne, hbk, hcell⟩ := list_expr hk7 hlt
            obtain ⟨p0, p1, ps, pq, B4, l4, o4, B5, l5, o5, B6, l6, o6, B7, o7, hcl, hrk⟩ := hcell wr hstr
            clear hcell
            have g0 : wr.cell? ⟨bk, off + k * 8, none⟩ = _ := hcl 0 _ rfl
            have g1 := hcl 1 _ rfl
            have g2 := hcl 2 _ rfl
            have g3 := hcl 3 _ rfl
            have g4 := hcl 4 _ rfl
            have g5 := hcl 5 _ rfl
            have g6 := hcl 6 _ rfl
            have g7 := hcl 7 _ rfl
            clear hcl
            have HRK := Lib.hid hrk
            clear hrk
            have HIX := idx_expr bk off ks.length m7 k hlt
            have hd1 : ((d : Int) + 1 - 1) = (d : Int) := by omega
            have hIH := ih ks[k] (List.getElem_mem hlt) (hf.kids _ (by rw [hk0]; exact List.getElem_mem hlt)) (wr.alloc (.cells #[.int .i64 p0, .int .i64 p1, .string ps, .bool pq, .slice B4 l4 o4, .slice B5 l5 o5, .slice B6 l6 o6, .slice B7 ks[k].kids.length o7] 28 (0, 0))) d l b _ (by omega) (by omega) (rd_stp HRK.out ((Stp.refl (fun q => q = b) wr).alloc_ _)) (heap_alloc_old' hbr)
            have hsplit : ks.foldl (fun s k => if s.1 then rT d k s.2 else s) (true, n - 1) = (ks.drop (k + 1)).foldl (fun s k => if s.1 then rT d k s.2 else s) (rT d ks[k] l) := by
              have e1 : ks = ks.take k ++ (ks[k] :: ks.drop (k + 1)) := by rw [← List.drop_eq_getElem_cons hlt, List.take_append_drop]
              conv => lhs; rw [e1]
              rw [List.foldl_append, hfold, List.foldl_cons]; rfl
            cases hr : (rT d ks[k] l).1 with
            | false =>
              have hp : rT d ks[k] l = (false, (rT d ks[k] l).2) := by rw [← hr]
              go_wp2_with (go_at_call 14; refine hIH.mono ?_; unfold RetR; rw [hr]; rintro e w1 ⟨rfl, hb1, hs1⟩)
              go_ret
              rw [hrT, hsplit, hp, foldl_stop]
              exact ⟨rfl, hb1, (hstr.alloc_ _).trans hs1 (fun _ h => h) (fun _ _ h => h)⟩
            | true =>
              have hp : rT d ks[k] l = (true, (rT d ks[k] l).2) := by rw [← hr]
              go_wp2_with (go_at_call 14; refine hIH.mono ?_; unfold RetR; rw [hr]; rintro e w1 ⟨rfl, hb1, hs1⟩)
              go_roundw
              · refine ⟨k + 1, by omega, by go_num, (rT d ks[k] l).2, ?_, Nat.le_trans (rT_le d ks[k] l) hll, hb1, (hstr.alloc_ _).trans hs1 (fun _ h => h) (fun _ _ h => h)⟩
                rw [List.take_add_one, List.getElem?_eq_getElem hlt, List.foldl_append, hfold]
                exact hp
              · simp [intOf]; omega
          · have hkn : k = ks.length := by omega
            subst hkn
            go_wp2_with fail
            go_ret
            rw [List.take_length] at hfold
            rw [hrT, hfold]
            exact ⟨rfl, hbr, hstr⟩
end Go.Proofs.YtcdjifdllibolaaGreat

set_option maxRecDepth 100000
namespace Go.Proofs.YtcdjifdllibolaaGreat
open Go.RowKit
theorem tree_Right_calls {e : Ex1} (he : FitsE e) {w : World} {M : Nat → Prop} {v : Value} (hr : Rd Tryz.prog md w M (.ty 28) (dE e) v) : Calls Tryz.prog 6 #[v] w (fun en w' => en = .returned (.bool (rigE e)) ∧ Ext w w') := by
  have hr0 := hr
  obtain ⟨n0, n1, s, q, A4, k4, m4, A5, k5, m5, A6, k6, m6, A7, m7, rfl⟩ := expr_value hr
  clear hr0
  have hx1 := (Ext.refl w).alloc (.cells #[.int .i64 n0, .int .i64 n1, .string s, .bool q, .slice A4 k4 m4, .slice A5 k5 m5, .slice A6 k6 m6, .slice A7 e.kids.length m7] 28 (0, 0))
  have hx2 := hx1.alloc (.cells #[.int .i64 2048] 3 (0, 0))
  have hbx := heap_alloc_new (w.alloc (.cells #[.int .i64 n0, .int .i64 n1, .string s, .bool q, .slice A4 k4 m4, .slice A5 k5 m5, .slice A6 k6 m6, .slice A7 e.kids.length m7] 28 (0, 0))) (.cells #[.int .i64 2048] 3 (0, 0))
  have hsz : (w.alloc (.cells #[.int .i64 n0, .int .i64 n1, .string s, .bool q, .slice A4 k4 m4, .slice A5 k5 m5, .slice A6 k6 m6, .slice A7 e.kids.length m7] 28 (0, 0))).heap.size = w.heap.size + 1 := by simp
  rw [hsz] at hbx
  have hrd2 := rd_weak (M' := fun z => z = w.heap.size + 1) hr hx2 (fun z hz hlt => by omega)
  have hIH := right_any e he _ 40 2048 (w.heap.size + 1) _ (by omega) (by omega) hrd2 hbx
  have HH := Lib.hid hr
  clear hr hrd2
  go_enter Tryz.func6, Tryz.ntmps6
  go_wp2_with (go_at_call 14; refine hIH.mono ?_; unfold RetR; rintro en w1 ⟨rfl, hb1, hs1⟩)
  go_ret
  rw [rT_rig]
  refine ⟨rfl, hs1.os.trans hx2.os, hs1.tape.trans hx2.tape, hs1.output.trans hx2.output, Nat.le_trans hx2.size hs1.size, fun k hk => ?_⟩
  rw [hs1.block k (Nat.lt_of_lt_of_le hk hx2.size) (by omega)]
  exact hx2.block k hk
theorem tree_Right_sp (e : Ex1) (he : FitsE e) : Sp 6 [dE e] [.bool (rigE e)] := by
  have hps : Tryz.f6.params.toList = [28] := by kernel_rfl
  have hrs : Tryz.f6.resultTypes.toList = [4] := by kernel_rfl
  have h1 : Tryz.f6.params.size = 1 := by kernel_rfl
  refine spec_of wfP Tryz.func6 (by kernel_rfl) (by kernel_rfl) (by kernel_rfl) (fun w M vs hM hlx hlv hrd => ?_)
  rw [h1] at hlv
  obtain ⟨v, rfl⟩ := one_of hlv rfl
  have hr := hrd 0 (.ty 28) (dE e) v (by rw [hps]; rfl) rfl rfl
  refine (tree_Right_calls he hr).mono ?_
  rintro en w' ⟨rfl, hx⟩
  refine ⟨[.bool (rigE e)], rfl, by kernel_rfl, fun i t u ht hu => ?_, hx⟩
  match i with
  | 0 =>
    rw [hrs] at ht
    cases ht
    cases hu
    exact ⟨.bool (t := .ty 4) (by kernel_rfl) rfl, by kernel_rfl, by kernel_rfl⟩
  | i + 1 => simp at hu
end Go.Proofs.YtcdjifdllibolaaGreat

set_option maxRecDepth 100000
namespace Go.Proofs.YtcdjifdllibolaaGreat
/-! scrim/scrimlaw21.TreeRight -/
def law21_TreeRight_orc : List (Nat × Orc) := []
theorem law21_TreeRight_tree (n : Nat) (e0 : D) : evFun Tryz.prog md law21_TreeRight_orc n 3 [] [e0] =
 .call 4 [] [e0] fun yy1 =>
 .br (!((yy1.getD 0 D.nil).toBool)) (.call 5 [] [] fun yy2 =>
 .ret [D.bool ((yy2.getD 0 D.nil).toBool)])
 (.call 6 [] [e0] fun yy3 =>
 .call 7 [] [e0] fun yy4 =>
 .br (((yy3.getD 0 D.nil).toBool) == ((yy4.getD 0 D.nil).toBool)) (.call 8 [] [e0] fun yy5 =>
 .call 9 [] [e0] fun yy6 =>
 .br (((yy5.getD 0 D.nil).toInt) == ((yy6.getD 0 D.nil).toInt)) (.call 10 [] [e0] fun yy7 =>
 .call 11 [] [e0] fun yy8 =>
 .br (((yy7.getD 0 D.nil).toInt) == ((yy8.getD 0 D.nil).toInt)) (.call 5 [] [] fun yy9 =>
 .ret [D.bool ((yy9.getD 0 D.nil).toBool)])
 (.ret [D.bool false]))
 (.ret [D.bool false]))
 (.ret [D.bool false])) := by kernel_rfl

/-! scrim/scrimlaw21.awake -/
def law21_awake_orc : List (Nat × Orc) := []
theorem law21_awake_tree (n : Nat)  : evFun Tryz.prog md law21_awake_orc n 5 [] [] =
 .call 13 [] [D.int 5] fun yy1 =>
 .call 6 [] [D.agg [D.int 1, D.int 0, D.str ByteArray.empty, yy1.getD 0 D.nil, D.sl [], D.sl []]] fun yy2 =>
 .br ((yy2.getD 0 D.nil).toBool) (.call 6 [] [D.agg [D.int 8, D.int 0, D.str ByteArray.empty, D.agg [D.bool false, D.sl [], D.sl []], D.sl [], D.sl [D.agg [D.int 1, D.int 0, D.str ByteArray.empty, yy1.getD 0 D.nil, D.sl [], D.sl []]]]] fun yy3 =>
 .br (!((yy3.getD 0 D.nil).toBool)) (.call 10 [] [D.agg [D.int 1, D.int 0, D.str ByteArray.empty, yy1.getD 0 D.nil, D.sl [], D.sl []]] fun yy4 =>
 .ret [D.bool (((yy4.getD 0 D.nil).toInt) == 1)])
 (.ret [D.bool false]))
 (.ret [D.bool false]) := by kernel_rfl

end Go.Proofs.YtcdjifdllibolaaGreat

set_option maxRecDepth 100000
namespace Go.Proofs.YtcdjifdllibolaaGreat
def five : Ex1 := .mk 1 0 ByteArray.empty (ofZ 5) [] []
def strand : Ex1 := .mk 8 0 ByteArray.empty .zero [] [five]
theorem five_lim : (ofZ 5).top.length ≤ 4 ∧ (ofZ 5).bot.length ≤ 4 := by
  refine ⟨?_, by simp [ofZ]⟩
  show (lb 5).length ≤ 4
  have : (lb 5).length ≤ 1 := lb_len.2 (by decide)
  omega
theorem lb_one21 : lb 1 = [1] := by rw [lb_pos (by decide), show 1 / B = 0 by decide, lb_zero]; rfl
theorem five_rn : rightN (ofZ 5) = true := by
  have hl := five_lim.1
  have h1 : trimD (lb 5) = true := trimD_lb (by have : (lb 5).length ≤ 4 := hl; omega)
  refine (rightN_form (ofZ 5)).2 ⟨h1, by show trimD [1] = true; rw [← lb_one21]; exact trimD_lb (by rw [lb_one21]; decide), by simp [ofZ], fun h => by simp [ofZ] at h, ?_⟩
  show Nat.gcd (nv (lb 5)) (nv [1]) = 1
  rw [nv_lb, ← lb_one21, nv_lb]; rfl
theorem five_fits : FitsE five := .mk (by decide) ⟨by have := five_lim.1; omega, by have := five_lim.2; omega⟩ (by simp) (by simp) ⟨⟨by decide, by decide⟩, by decide, by decide⟩ (fun x hx => by cases hx)
theorem strand_fits : FitsE strand := .mk (by decide) ⟨by decide, by decide⟩ (by simp) (by simp) ⟨⟨by decide, by decide⟩, by decide, by decide⟩ (fun x hx => by
  rcases List.mem_cons.1 hx with rfl | hx
  · exact five_fits
  · cases hx)
theorem five_right : rigE five = true := by
  unfold rigE
  have h1 : depE five = 1 := by rw [depE_eq]; rfl
  have h2 : cntE five = 1 := by rw [cntE_eq]; rfl
  rw [h1, h2, allE_eq, one_eq]
  have h3 : heldB five = true := by
    have : heldB five = (rightN (ofZ 5) && (decide ((([] : List Int).length : Int) = 0) && (decide (ByteArray.empty.data.toList = []) && decide ((0 : Int) = 0)))) := rfl
    rw [this, five_rn]; rfl
  rw [h3]; rfl
theorem strand_wrong : rigE strand = false := by
  unfold rigE
  have h4 : allE strand = false := by
    rw [allE_eq, one_eq]
    have : madeB strand = false := rfl
    rw [this, Bool.and_false, Bool.false_and]
  rw [h4, Bool.and_false, Bool.and_false]
theorem five_D : D.agg [D.int 1, D.int 0, D.str ByteArray.empty, dN (ofZ 5), D.sl [], D.sl []] = dE five := by rw [dE_eq]; rfl
theorem strand_D : D.agg [D.int 8, D.int 0, D.str ByteArray.empty, D.agg [D.bool false, D.sl [], D.sl []], D.sl [], D.sl [dE five]] = dE strand := by rw [dE_eq strand]; rfl
theorem law21_awake_sp : Sp 5 [] [.bool true] := by
  refine sound_ 0 (law21_awake_tree _) (wp_call (ref04_Of_sp 5 (by unfold inR; omega)) ?_)
  simp only [getD_c0, five_D, strand_D]
  have s1 := tree_Right_sp five five_fits
  have s2 := tree_Right_sp strand strand_fits
  have s3 := tree_Count_sp five (by rw [cntE_eq]; decide)
  rw [five_right] at s1
  rw [strand_wrong] at s2
  refine wp_call s1 (wp_tt rfl (wp_call s2 (wp_tt rfl (wp_call s3 (wp_ret ?_)))))
  rw [show cntE five = 1 by rw [cntE_eq]; rfl]; rfl
theorem awake21 : Tw (.call 5 [] [] fun y => .ret [D.bool ((y.getD 0 D.nil).toBool)]) [.bool true] := wp_call law21_awake_sp (wp_ret rfl)
theorem wp_beq {a : Bool} {t e : Tree} {ys : List D} (h : Tw t ys) : Tw (.br (a == a) t e) ys := wp_tt (by cases a <;> rfl) h
theorem wp_beqI {a : Int} {t e : Tree} {ys : List D} (h : Tw t ys) : Tw (.br (a == a) t e) ys := wp_tt (by simp) h
theorem treeRight_sp (e : Ex1) (he : FitsE e) : Sp 3 [dE e] [.bool true] := by
  refine sound_ 0 (law21_TreeRight_tree _ _) (wp_call (ref21_Few_sp e he) (wp_br (fun _ => awake21) (fun h => ?_)))
  have h : 0 ≤ leftX 60 e 3000 := by simpa using h
  obtain ⟨h1, h2⟩ := few_bd h
  refine wp_call (tree_Right_sp e he) (wp_call (ref21_Right_sp e he (by omega) (by omega)) (wp_beq (wp_call (tree_Depth_sp e (by omega) (by omega)) (wp_call (ref21_Depth_sp e (by omega) (by omega)) (wp_beqI (wp_call (tree_Count_sp e (by omega)) (wp_call (ref21_Count_sp e (by omega)) (wp_beqI awake21))))))))
end Go.Proofs.YtcdjifdllibolaaGreat

set_option maxRecDepth 100000
namespace Go.Proofs.YtcdjifdllibolaaGreat
open Go.ChangeShapes Go.WideShapes Go.ChangeAt Go.RowKit

set_option maxRecDepth 100000 in
theorem treeRight_lifted (os : Os) (started : os.Started) (H : Type) (enc : TypeId × Value → H) :
    ReturnsInHanded {} Tryz.checked os 3 .any (Rows.treeRightSpec.pre6 enc Tryz.prog Tryz.f3 Rows.treeRightRow.domain false) (Rows.treeRightSpec.post enc Tryz.prog Tryz.f3 false true false false) := by
  refine returnsInHanded_of_change_sized (C := Tryz.checked) knob started (by kernel_rfl) Tryz.func3
    (ChangeSpec.witness6 (enc := enc) (C := Tryz.checked) false ⟨#[], #[.agg #[.int .i64 0, .int .i64 0, .string ByteArray.empty, .bool false, .slice none 0 0, .slice none 0 0, .slice none 0 0, .slice none 0 0]], []⟩ 16 (by kernel_rfl) (by kernel_rfl) (by kernel_rfl) (by kernel_rfl)) ?_
  intro W base args ds gs before hval0 hW hcnd hwt0 _
  have hval : ∀ (j : Nat) t v, Tryz.f3.params[j]? = some t → args[j]? = some v → Value.okWide Tryz.prog W .any base t v := hval0
  have hW' := hW
  obtain ⟨p, q, hA0, hV, rfl, hfz, hnd⟩ := hW
  have hA : DataW.TrodAll enc Tryz.prog W 0 (fun _ => true) true Tryz.f3.params.toList args.toList ds p := hA0
  rw [Tryz.params3] at hA hval
  obtain ⟨v0, vs0, d0, ds0, p0, q0, hargs, rfl, rfl, h0, r0⟩ := trodAll_cons hA
  obtain ⟨rfl, rfl, rfl⟩ := trodAll_nil r0
  obtain rfl : args = #[v0] := by cases args; simp_all
  have hwt : ∀ (j t : Nat) d, (Tryz.f3.params.toList)[j]? = some t → ([d0])[j]? = some d → ∀ z ∈ DataW.weights Tryz.prog t d, z ≤ reachBytes := fun j t d ht hd z hz => by
    have hl := (List.getElem?_eq_some_iff.1 ht).1
    have hl2 := (List.getElem?_eq_some_iff.1 hd).1
    have := List.all_eq_true.1 hwt0 z (DataW.weights_mem_each (j := j) (t := t) (d := d) (by rw [List.getElem?_append_left hl]; exact ht) (by rw [List.getElem?_append_left hl2]; exact hd) z hz)
    simpa using this
  obtain ⟨x0, hx0, hr0⟩ := arg_expr (hval 0 28 v0 rfl rfl) h0 (hwt 0 _ _ rfl rfl)
  refine (law_calls (vs := [v0]) (treeRight_sp x0 hx0) Tryz.func3 (by kernel_rfl) (by kernel_rfl) Tryz.underlying4 rfl rfl ?_).mono fun e W' ⟨he, hx⟩ => ⟨_, he, law_post laidOut hW' rfl (by kernel_rfl) Tryz.underlying4 rfl (by kernel_rfl) hx⟩
  intro i t x v ht hx hv
  match i with
  | 0 => cases (show some 28 = some t from ht); cases hx; cases hv; exact hr0
  | i + 1 => cases hx

theorem treeRight_holds : Rows.TreeRightSaid :=
  OpenClaim.holds_of_wide 3 Tryz.f3 rfl rfl rfl rfl rfl rfl rfl ⟨rfl, rfl, rfl, rfl, rfl⟩ rfl rfl rfl rfl rfl (by kernel_rfl) Tryz.func3 (by kernel_rfl)
    (of_decide_eq_true (by kernel_rfl)) (by unfold Func.isWrapper; first | (rw [if_pos (by decide +kernel)]; kernel_rfl) | (rw [if_neg (by decide +kernel)]; exact ⟨rfl, rfl⟩))
    (fun os started H enc _ => treeRight_lifted os started H enc)

end Go.Proofs.YtcdjifdllibolaaGreat

