/- Proved: for any array, the law GradeSorts returns true and changes nothing. No condition. -/
import Derived.Test.YtbgcadcpeabpgaaGreatRows
import Derived.WalkKit
import Derived.WalkSpells
import Derived.WalkLawsBesides
import Derived.Lib.Hide
import Derived.Laws.CopyOwn
import Derived.Deep.QuietTactic
import Derived.BigQuiet
import Derived.Orders
import Derived.Defers
import Derived.Recover
import Derived.Test.YtbgcadcpeabpgaaGreatProg
import Derived.KernelRfl
import Derived.ProofKit
import Derived.OpenShut
import Derived.Test.YtbgcadcpeabpgaaGreatZe1acec81
set_option linter.unusedSimpArgs false
set_option linter.unusedVariables false
set_option maxRecDepth 100000
namespace Go.Proofs.YtbgcadcpeabpgaaGreat
/-- What is chosen along an axis. -/
structure Ax where
  all : Bool
  at_ : Arr
def dX (x : Ax) : D := .agg [.bool x.all, dA x.at_]
theorem dX_0 (x : Ax) : (dX x).fld 0 = .bool x.all := rfl
theorem dX_1 (x : Ax) : (dX x).fld 1 = dA x.at_ := rfl
def subS (long : Int) : List Int → Option (List Int)
  | [] => some []
  | k :: ks => if k < 1 then none else if long < k then none else (subS long ks).map (fun r => (k - 1) :: r)
theorem subS_len {long : Int} : ∀ {l r : List Int}, subS long l = some r → r.length = l.length ∧ ∀ k ∈ r, 0 ≤ k ∧ k < long
  | [], r, h => by simp [subS] at h; subst h; simp
  | k :: ks, r, h => by
    rw [subS] at h
    split at h
    · cases h
    split at h
    · cases h
    cases hs : subS long ks with
    | none => rw [hs] at h; cases h
    | some q =>
      rw [hs] at h
      simp only [Option.map_some, Option.some.injEq] at h
      subst h
      obtain ⟨h1, h2⟩ := subS_len hs
      refine ⟨by simp [h1], fun j hj => ?_⟩
      rcases List.mem_cons.1 hj with rfl | hj
      · omega
      · exact h2 j hj
theorem subS_all {long : Int} : ∀ {l : List Int}, (∀ k ∈ l, 1 ≤ k ∧ k ≤ long) → subS long l = some (l.map (· - 1))
  | [], _ => rfl
  | k :: ks, h => by
    have := h k (by simp)
    rw [subS, if_neg (by omega), if_neg (by omega), subS_all (fun j hj => h j (by simp [hj]))]; rfl
def partS (x : Ax) (long : Int) : List Int × Int := if x.all then (if 2048 < long then ([], 7) else ((List.range long.toNat).map (fun (i : Nat) => (i : Int)), 0)) else if (intsA (vectA x.at_.cells)).2 ≠ 0 then ([], (intsA (vectA x.at_.cells)).2) else (match subS long (intsA (vectA x.at_.cells)).1 with
  | some r => (r, 0)
  | none => ([], 6))
def totX (l : List Ax) (s : Lab) : Lab := l.foldl (fun r x => if x.all then r else r ||| totA x.at_) s
structure FineX (x : Ax) : Prop where
  sml : Sml 9 x.at_
  len : x.at_.cells.length ≤ 2048
  top : ∀ c ∈ x.at_.cells, c.n.top.length ≤ 32
theorem intsA_len (a : Arr) : (intsA a).1.length ≤ a.cells.length := by
  unfold intsA
  split
  · simp
  · split
    · rename_i l hl; have := (intsCs_inR hl).1; simp only; omega
    · simp
theorem intsA_inR (a : Arr) : ∀ x ∈ (intsA a).1, inR x := by
  unfold intsA
  split
  · intro x hx; cases hx
  · split
    · rename_i l hl; exact (intsCs_inR hl).2
    · intro x hx; cases hx
theorem part_sp (x : Ax) (L : Nat) (hx : FineX x) (hL : L ≤ 2048) : Sp 57 [dX x, .int (L : Int)] [dI (partS x L).1, .int (partS x L).2] := by
  refine sound_ 4096 (pick_Axis_part_tree _ _ _) ?_
  unfold partS
  simp only [dX_0, dX_1, dA_2, toBool_bool, toInt_int, Int.toNat_natCast, List.length_replicate]
  refine wp_br (fun h => ?_) (fun h => ?_)
  · rw [if_pos h, if_neg (by omega)]
    refine wp_ndec (by omega) (wp_dec (by omega) (wp_dec (by omega) (wp_dec (by simp only [bigN]; omega) ?_)))
    have key := loop_up (P := Tryz.prog) (md := md) L (fun m k (_ : Unit) => pick_Axis_part_l6 4096 m ((List.range k).map (fun (i : Nat) => D.int (i : Int)) ++ List.replicate (L - k) (D.int 0)) (L : Int) (k : Int)) (fun _ _ => [dI ((List.range L).map (fun (i : Nat) => (i : Int))), .int 0]) (fun _ _ => True)
      (fun m s _ => by
        simp only [pick_Axis_part_l6_succ]
        refine wp_ndec (by omega) (wp_ret ?_)
        simp [dI])
      (fun m k s hk _ ih => by
        have ih := ih () trivial
        simp only [pick_Axis_part_l6_succ, List.length_append, List.length_map, List.length_range, List.length_replicate, Int.toNat_natCast, wrap_succ (show k < 9223372036854775807 by omega)]
        refine wp_dec (by omega) (wp_dec (by omega) (wp_dec (by omega) ?_))
        have e := set_next (f := fun (i : Nat) => D.int (i : Int)) (z := D.int 0) (List.range k) k (L - (k + 1))
        rw [List.length_range, ← List.range_succ, show L - (k + 1) + 1 = L - k by omega] at e
        rw [e]
        exact ih)
      4096 0 () (by omega) (by omega) trivial
    simpa using key
  · have hlen := intsA_len (vectA x.at_.cells)
    rw [if_neg (by rw [h]; decide)]
    refine wp_call (array_Vector_sp (d := 8) x.at_.cells (hx.sml.cell) (by have := hx.len; omega)) (wp_call (array_Ints_sp _ hx.len hx.top) ?_)
    have hlen : (intsA (vectA x.at_.cells)).1.length ≤ 2048 := Nat.le_trans hlen hx.len
    have hin := intsA_inR (vectA x.at_.cells)
    generalize intsA (vectA x.at_.cells) = p at *
    obtain ⟨ks, e⟩ := p
    simp only [getD_c0, getD_c1, toInt_int, int_bne, els_dI, List.length_map, Int.toNat_natCast] at hlen hin ⊢
    refine wp_decs (fun h => wp_ret (by rw [if_pos h]; rfl)) (fun h => ?_)
    rw [if_neg h]
    refine wp_dec (by omega) (wp_dec (by omega) (wp_dec (by simp only [bigN]; omega) ?_))
    have key := loop_list (P := Tryz.prog) (md := md) ks (fun m k (pre : List Int) => pick_Axis_part_l16 4096 m (L : Int) (pre.map D.int ++ List.replicate (ks.length - pre.length) (D.int 0)) (dI ks) (ks.length : Int) (k : Int)) (fun rest pre => match subS L rest with
        | some r => [dI (pre ++ r), .int 0]
        | none => [dI [], .int 6]) (fun rest pre => pre.length + rest.length = ks.length)
      (fun m k pre hk hI => by
        simp only [pick_Axis_part_l16_succ, List.length_nil] at hI ⊢
        refine wp_ndec (by omega) (wp_ret ?_)
        rw [show ks.length - pre.length = 0 by omega]
        simp [subS, dI])
      (fun m k pre x rest hd hI ih => by
        obtain ⟨h1, h2, h3⟩ := drop_cons hd
        have hle := congrArg List.length hd
        rw [List.length_drop, List.length_cons] at hle
        rw [List.length_cons] at hI
        have hk : k = pre.length := by omega
        have hir := hin x (List.mem_of_getElem? h2)
        simp only [pick_Axis_part_l16_succ, els_dI, List.length_map, Int.toNat_natCast, getD_map h2, toInt_int, wrap_succ (show k < 9223372036854775807 by omega), List.length_append, List.length_replicate, subS]
        refine wp_dec (by omega) (wp_dec (by omega) (wp_dec (by omega) (wp_decs (fun g => wp_ret (by rw [if_pos g]; rfl)) (fun g => ?_))))
        simp only [if_neg g]
        refine wp_decs (fun g2 => wp_ret (by rw [if_pos g2]; rfl)) (fun g2 => ?_)
        simp only [if_neg g2]
        have w : IntKind.wrap .i64 (x - 1) = x - 1 := wrap64 (by omega) (by omega)
        refine wp_dec (by omega) (wp_dec (by omega) ?_)
        have e := set_next (f := D.int) (z := D.int 0) pre (x - 1) (ks.length - (pre.length + 1))
        rw [show ks.length - (pre.length + 1) + 1 = ks.length - pre.length by omega] at e
        rw [w, hk, e]
        have := ih (pre ++ [x - 1]) (by simp; omega)
        rw [List.length_append, List.length_cons, List.length_nil, hk] at this
        refine Tree.wp_mono this (fun ys hy => hy.trans ?_)
        cases subS L rest with
        | none => rfl
        | some r => simp)
      4096 0 [] (by omega) (by omega) (by simp)
    simp only [List.map_nil, List.nil_append, List.length_nil, Nat.sub_zero] at key
    refine Tree.wp_mono key (fun ys hy => hy.trans ?_)
    rw [List.drop_zero]
    cases subS L ks with
    | none => rfl
    | some r => simp
theorem pick_Total_sp (l : List Ax) (hl : ∀ x ∈ l, FineX x) (hlen : l.length ≤ 100) : Sp 25 [.sl (l.map dX)] [dB (totX l 0)] := by
  refine sound_ 4096 (pick_Total_tree _ _) ?_
  simp only [els_sl, List.length_map]
  have key := loop_list (P := Tryz.prog) (md := md) l (fun m k (s : Lab) => pick_Total_l3 4096 m (s.toNat : Int) (.sl (l.map dX)) (l.length : Int) (k : Int)) (fun rest s => [dB (totX rest s)]) (fun _ _ => True)
    (fun m k s hk _ => by
      simp only [pick_Total_l3_succ]
      exact wp_ndec (by omega) (wp_ret (by rw [dInt_dB]; rfl)))
    (fun m k s x rest hd _ ih => by
      obtain ⟨h1, h2, h3⟩ := drop_cons hd
      simp only [pick_Total_l3_succ, els_sl, List.length_map, Int.toNat_natCast, getD_map h2, dX_0, dX_1, toBool_bool, wrap_succ (show k < 9223372036854775807 by omega)]
      refine wp_dec (by omega) (wp_dec (by omega) (wp_dec (by omega) (wp_br (fun g => ?_) (fun g => ?_))))
      · have g : x.all = false := by simpa using g
        refine wp_call (array_Total_sp _ (hl x (List.mem_of_getElem? h2)).sml.fits) ?_
        simp only [getD_c0, toInt_dB, dInt_dB]
        refine wp_call (label_Join_sp s _) ?_
        simp only [getD_c0, toInt_dB]
        have := ih (s ||| totA x.at_) trivial
        rw [show totX (x :: rest) s = totX rest (s ||| totA x.at_) by simp [totX, g]]
        exact this
      · have g : x.all = true := by simpa using g
        rw [show totX (x :: rest) s = totX rest s by simp [totX, g]]
        exact ih s trivial)
    4096 0 0 (by omega) (by omega) trivial
  exact key
/-- Of a list, by the places that a list of numbers says. -/
theorem pick_Places1_sp (a x : Arr) (ks : List Int) (ha : a.shape = [(a.cells.length : Int)]) (la : a.cells.length ≤ 2048) (hx : FineX ⟨false, x⟩) (hs : countS x.shape = ((x.cells.length : Int), 0)) (hi : intsA (vectA x.cells) = (ks, 0)) (hk : ∀ k ∈ ks, 1 ≤ k ∧ k ≤ (a.cells.length : Int)) : Sp 22 [dA a, .sl [dX ⟨false, x⟩]] [dI (ks.map (· - 1)), dI x.shape, .int 0] := by
  have hkl : ks.length ≤ 2048 := by have := intsA_len (vectA x.cells); rw [hi] at this; exact Nat.le_trans this hx.len
  have hsl := (countS_len (l := x.shape) (by rw [hs])).1
  refine sound_ 4096 (pick_Places_tree _ _ _) ?_
  simp only [dA_1, ha, els_sl, els_dI, List.map_cons, List.map_nil, List.length_cons, List.length_nil]
  refine wp_ff (by decide) (wp_ff (by decide) ?_)
  have hp := part_sp ⟨false, x⟩ a.cells.length hx la
  have e0 : partS ⟨false, x⟩ (a.cells.length : Int) = (ks.map (· - 1), 0) := by
    unfold partS
    simp only [hi]
    rw [subS_all hk]; rfl
  rw [e0] at hp
  have last : ∀ q6 : Nat, Tw (pick_Places_l6 4096 (q6 + 1) (.sl [dX ⟨false, x⟩]) ((0 + 1 : Nat) : Int) ((0 + 1 : Nat) : Int) (dA a) ((ks.map (· - 1)).map D.int) (x.shape.map D.int) 0) [dI (ks.map (· - 1)), dI x.shape, .int 0] := by
    intro q6
    simp only [pick_Places_l6_succ]
    refine wp_ndec (by omega) (wp_call (shape_Count_sp x.shape) ?_)
    rw [hs]
    exact wp_ff rfl (wp_ret rfl)
  have inner : ∀ q6 q16 : Nat, Tw (pick_Places_l19 4096 (q6 + 1) (q16 + 1) 4096 (a.cells.length : Int) (dI (ks.map (· - 1))) [] 0 (.sl [dX ⟨false, x⟩]) ((0 + 1 : Nat) : Int) 0 (.sl [D.int 0]) ((0 + 1 : Nat) : Int) 0 (dI (ks.map (· - 1))) (ks.length : Int) 0 (dA a) (.sl [D.int 0]) [] 0 (dX ⟨false, x⟩)) [dI (ks.map (· - 1)), dI x.shape, .int 0] := by
    intro q6 q16
    have key := loop_list (P := Tryz.prog) (md := md) (ks.map (· - 1)) (fun m k (out : List Int) => pick_Places_l19 4096 (q6 + 1) (q16 + 1) m (a.cells.length : Int) (dI (ks.map (· - 1))) (out.map D.int) 0 (.sl [dX ⟨false, x⟩]) ((0 + 1 : Nat) : Int) 0 (.sl [D.int 0]) ((0 + 1 : Nat) : Int) 0 (dI (ks.map (· - 1))) (ks.length : Int) (k : Int) (dA a) (.sl [D.int 0]) [] 0 (dX ⟨false, x⟩)) (fun _ _ => [dI (ks.map (· - 1)), dI x.shape, .int 0]) (fun rest out => ks.map (· - 1) = out ++ rest)
      (fun m k out hk hI => by
        rw [List.append_nil] at hI
        rw [List.length_map] at hk
        rw [pick_Places_l19_succ]
        refine wp_ndec (by omega) ?_
        rw [pick_Places_l16_succ]
        refine wp_ndec (by decide) ?_
        simp only [dX_0, dX_1, dA_1, toBool_bool, els_dI, List.length_nil, List.length_map, List.nil_append]
        refine wp_ff rfl (wp_dec (by simp only [bigN]; omega) ?_)
        rw [← hI]
        exact last q6)
      (fun m k out z rest hd hI ih => by
        obtain ⟨h1, h2, h3⟩ := drop_cons hd
        rw [List.length_map] at h1
        have hol : out.length ≤ ks.length := by have := congrArg List.length hI; simp at this; omega
        have hz : 0 ≤ z ∧ z < (a.cells.length : Int) := by
          obtain ⟨y, hy, rfl⟩ := List.mem_map.1 (List.mem_of_getElem? h2)
          have := hk y hy
          show 0 ≤ y - 1 ∧ y - 1 < _
          omega
        have w : IntKind.wrap .i64 (IntKind.wrap .i64 (0 * (a.cells.length : Int)) + z) = z := by rw [Int.zero_mul, show IntKind.wrap .i64 0 = 0 by decide, Int.zero_add, wrap64 (by omega) (by omega)]
        simp only [pick_Places_l19_succ, els_dI, List.length_map, Int.toNat_natCast, getD_map h2, toInt_int, wrap_succ (show k < 9223372036854775807 by omega), w, List.length_cons, List.length_nil]
        refine wp_dec (by omega) (wp_dec (by omega) (wp_dec (by omega) (wp_dec (by simp only [bigN]; omega) ?_)))
        have := ih (out ++ [z]) (by rw [hI]; simp)
        rw [List.map_append] at this
        exact this)
      4096 0 [] (by simp; omega) (by omega) (by simp)
    exact key
  rw [pick_Places_l6_succ 4096 4095]
  simp only [dA_1, ha, els_dI, els_sl, List.map_cons, List.map_nil, List.length_cons, List.length_nil, Int.toNat_zero, getD_c0, toInt_int]
  refine wp_dec (by decide) (wp_dec (by decide) (wp_dec (by decide) (wp_dec (by decide) (wp_dec (by decide) (wp_call hp ?_)))))
  simp only [getD_c0, getD_c1, toInt_int, els_dI, List.length_map]
  have w2 : IntKind.wrap .i64 (((0 + 1 : Nat) : Int) * (ks.length : Int)) = (ks.length : Int) := by
    rw [show ((0 + 1 : Nat) : Int) * (ks.length : Int) = (ks.length : Int) by omega, wrap64 (by omega) (by omega)]
  rw [w2]
  refine wp_ff rfl (wp_ndec (by omega) (wp_dec (by decide) (wp_dec (by omega) (wp_dec (by simp only [bigN]; omega) ?_))))
  rw [pick_Places_l16_succ 4096 4095 4095]
  simp only [List.replicate_zero, List.length_cons, List.length_nil, Int.toNat_zero, getD_c0, toInt_int, els_sl, els_dI, List.length_map]
  exact wp_dec (by decide) (wp_dec (by decide) (wp_dec (by decide) (inner 4094 4094)))
theorem pick_At1_sp (a x : Arr) (ks : List Int) (ha : a.shape = [(a.cells.length : Int)]) (la : a.cells.length ≤ 2048) (hx : FineX ⟨false, x⟩) (hs : countS x.shape = ((x.cells.length : Int), 0)) (hi : intsA (vectA x.cells) = (ks, 0)) (hk : ∀ k ∈ ks, 1 ≤ k ∧ k ≤ (a.cells.length : Int)) : Sp 19 [dA a, .sl [dX ⟨false, x⟩]] [dA (.mk (a.s ||| totA x) x.shape (ks.map (fun k => a.cells.getD (k - 1).toNat Cell.none))), .int 0] := by
  have hkl : ks.length ≤ 2048 := by have := intsA_len (vectA x.cells); rw [hi] at this; exact Nat.le_trans this hx.len
  refine sound_ 4096 (pick_At_tree _ _ _) (wp_call (pick_Places1_sp a x ks ha la hx hs hi hk) (wp_ff rfl ?_))
  simp only [getD_c0, getD_c1, els_dI, List.length_map, Int.toNat_natCast, dC_none']
  refine wp_dec (by omega) (wp_dec (by omega) (wp_dec (by simp only [bigN]; omega) ?_))
  have key := loop_list (P := Tryz.prog) (md := md) ks (fun m k (cs : List Cell) => pick_At_l7 4096 m (.sl [dX ⟨false, x⟩]) (dI x.shape) (cs.map dC ++ List.replicate (ks.length - cs.length) (dC Cell.none)) (dI (ks.map (· - 1))) (ks.length : Int) (k : Int) (dA a) 0 0) (fun rest cs => [dA (.mk (a.s ||| totA x) x.shape (cs ++ rest.map (fun k => a.cells.getD (k - 1).toNat Cell.none))), .int 0]) (fun rest cs => cs.length + rest.length = ks.length)
    (fun m k cs hk hI => by
      simp only [pick_At_l7_succ, List.length_nil, dA_0, toInt_dB, dInt_dB] at hI ⊢
      refine wp_ndec (by omega) (wp_call (pick_Total_sp [⟨false, x⟩] (fun y hy => by simp at hy; subst hy; exact hx) (by simp)) ?_)
      simp only [getD_c0, toInt_dB, dInt_dB]
      refine wp_call (label_Join_sp a.s _) (wp_ret ?_)
      rw [show ks.length - cs.length = 0 by omega, dA_eq]
      simp [totX]
      rw [dB, BitVec.toNat_or])
    (fun m k cs z rest hd hI ih => by
      obtain ⟨h1, h2, h3⟩ := drop_cons hd
      have hle := congrArg List.length hd
      rw [List.length_drop, List.length_cons] at hle
      rw [List.length_cons] at hI
      have hkc : k = cs.length := by omega
      have hz := hk z (List.mem_of_getElem? h2)
      have g2 : (ks.map (· - 1))[k]? = some (z - 1) := by rw [List.getElem?_map, h2]; rfl
      have hzl : (z - 1).toNat < a.cells.length := by omega
      have gc : (a.cells.map dC).getD (z - 1).toNat D.nil = dC (a.cells.getD (z - 1).toNat Cell.none) := by
        rw [getD_map (List.getElem?_eq_getElem hzl), List.getD_eq_getElem?_getD, List.getElem?_eq_getElem hzl]; rfl
      simp only [pick_At_l7_succ, els_dI, dA_2, els_sl, List.length_map, Int.toNat_natCast, getD_map g2, toInt_int, gc, wrap_succ (show k < 9223372036854775807 by omega), List.length_append, List.length_replicate]
      refine wp_dec (by omega) (wp_dec (by omega) (wp_dec (by omega) (wp_dec (by omega) (wp_dec (by omega) (wp_dec (by omega) (wp_dec (by omega) ?_))))))
      have e := set_next (f := dC) (z := dC Cell.none) cs (a.cells.getD (z - 1).toNat Cell.none) (ks.length - (cs.length + 1))
      rw [show ks.length - (cs.length + 1) + 1 = ks.length - cs.length by omega] at e
      rw [hkc, e]
      have := ih (cs ++ [a.cells.getD (z - 1).toNat Cell.none]) (by simp; omega)
      rw [List.length_append, List.length_cons, List.length_nil, hkc] at this
      refine Tree.wp_mono this (fun ys hy => hy.trans ?_)
      simp)
    4096 0 [] (by omega) (by omega) (by simp)
  simpa using key
end Go.Proofs.YtbgcadcpeabpgaaGreat
set_option maxRecDepth 100000
namespace Go.Proofs.YtbgcadcpeabpgaaGreat
/-- Which have been seen. -/
def seenD (pre : List Nat) (n : Nat) : List D := (List.range n).map (fun (j : Nat) => D.bool (pre.contains j))
theorem seenD_len (pre : List Nat) (n : Nat) : (seenD pre n).length = n := by simp [seenD]
theorem seenD_at {pre : List Nat} {n k : Nat} (h : k < n) : (seenD pre n).getD k D.nil = D.bool (pre.contains k) := by
  unfold seenD
  rw [List.getD_eq_getElem?_getD, List.getElem?_map, List.getElem?_range h]; rfl
theorem seenD_set {pre : List Nat} {n k : Nat} (h : k < n) : (seenD pre n).set k (D.bool true) = seenD (pre ++ [k]) n := by
  unfold seenD
  apply List.ext_getElem
  · simp
  · intro i h1 h2
    simp only [List.length_set, List.length_map, List.length_range] at h1
    rw [List.getElem_set]
    simp only [List.getElem_map, List.getElem_range]
    by_cases e : k = i
    · subst e; simp
    · rw [if_neg e]
      simp only [List.contains_eq_mem, List.mem_append, List.mem_singleton]
      congr 2
      simp [Ne.symm e]
theorem seenD_nil (n : Nat) : seenD [] n = List.replicate n (D.bool false) := by
  unfold seenD
  apply List.ext_getElem
  · simp
  · intro i h1 h2; simp
theorem prodS_one7 {n : Nat} (h : n ≤ 2048) : prodS [(n : Int)] 1 = (n : Int) := by
  simp only [prodS]; rw [if_neg (by omega)]; omega
theorem countS_one7 {n : Nat} (h : n ≤ 2048) : countS [(n : Int)] = ((n : Int), 0) := by
  unfold countS
  rw [prodS_one7 h]
  simp only [List.length_cons, List.length_nil, List.any_cons, List.any_nil, Bool.or_false]
  by_cases h0 : n = 0
  · subst h0; rfl
  · rw [if_neg (by omega), if_neg (by simp), if_neg (by simp; omega), if_neg (by simp; omega), if_neg (by omega)]
theorem gradeSorts_sp (a : Arr) (dn : Bool) (ha : Fits a) : Sp 8 [dA a, .bool dn] [.bool true] := by
  refine sound_ 4096 (law17_GradeSorts_tree _ _ _) (wp_call (law17_light_sp a ha) (wp_br (fun _ => awake17) (fun e1 => ?_)))
  obtain ⟨g1, l1⟩ := light17_good (a := a) (by simpa using e1)
  simp only [dA_0, dA_1, dA_2, dC_0, dC_1, dC_2, dC_3, dC_4, dN_0, dN_1, dN_2, els_sl, els_dI, els_dL, List.length_map, Int.toNat_natCast, toInt_int, toInt_dB, toBool_bool, getD_c0, getD_c1, int_beq, int_bne, not_dec, dInt_dB, Int.toNat_zero]
  refine wp_decs (fun _ => awake17) (fun hs => ?_)
  have hs : a.shape.length = 1 := by omega
  have hc := (rightA_cells g1).2
  have hsh : a.shape = [(a.cells.length : Int)] := by
    obtain ⟨x, hx⟩ := len_one (l := a.shape) hs
    have hcs := (rightA_cells g1).1
    have hr := (rightA_len g1).2.2 x (by rw [hx]; simp)
    rw [hx] at hcs ⊢
    obtain ⟨X, rfl⟩ : ∃ X : Nat, x = (X : Int) := ⟨x.toNat, by omega⟩
    rw [countS_one7 (by omega)] at hcs
    have h1 := congrArg Prod.fst hcs
    rw [show (X : Int) = (a.cells.length : Int) from h1]
  have hk := row_kk (dn := dn) hc
  have hol := order_len a dn
  have hmem : ∀ i ∈ orderS a dn, i < a.cells.length := fun i hi => order_mem.1 hi
  have hnd : (orderS a dn).Nodup := by unfold orderS; exact (srt_perm _ _).nodup_iff.2 List.nodup_range
  have hso : (orderS a dn).Pairwise (leK (kk 8 a.cells dn)) := srt_sorted hk _
  have hgr : gradeA a dn = (vecA ((orderS a dn).map (fun (i : Nat) => (i : Int) + 1)) (totA a), 0) := by unfold gradeA; rw [if_pos hs]
  have gsp := grade_Grade_sp a dn g1
  rw [hgr] at gsp
  generalize orderS a dn = os at *
  have hkin : ∀ k ∈ os.map (fun (i : Nat) => (i : Int) + 1), inR k := fun k hk => by
    obtain ⟨i, hi, rfl⟩ := List.mem_map.1 hk
    have := hmem i hi
    exact inR_small (by omega) (by omega)
  have hkr : ∀ k ∈ os.map (fun (i : Nat) => (i : Int) + 1), 1 ≤ k ∧ k ≤ (a.cells.length : Int) := fun k hk => by
    obtain ⟨i, hi, rfl⟩ := List.mem_map.1 hk
    have := hmem i hi
    omega
  have hkl : (os.map (fun (i : Nat) => (i : Int) + 1)).length = a.cells.length := by rw [List.length_map, hol]
  have hints : intsA (vectA (vecA (os.map (fun (i : Nat) => (i : Int) + 1)) (totA a)).cells) = (os.map (fun (i : Nat) => (i : Int) + 1), 0) := by
    unfold intsA
    rw [if_neg (by simp [vectA])]
    simp only [vectA, vecA, Arr.cells_mk, intsCs_vec hkin]
  have hints2 : intsA (vecA (os.map (fun (i : Nat) => (i : Int) + 1)) (totA a)) = (os.map (fun (i : Nat) => (i : Int) + 1), 0) := by
    unfold intsA
    rw [if_neg (by simp [vecA])]
    simp only [vecA, Arr.cells_mk, intsCs_vec hkin]
  have hf : FineX ⟨false, vecA (os.map (fun (i : Nat) => (i : Int) + 1)) (totA a)⟩ := by
    refine ⟨Sml.of (by simp [vecA]) (by simp only [vecA, Arr.cells_mk, List.length_map, hol]; omega) (fun x hx => ?_) (fun c hcc => ?_), by simp only [vecA, Arr.cells_mk, List.length_map, hol]; omega, fun c hcc => ?_⟩
    · simp only [vecA, Arr.shape_mk, List.mem_singleton, hkl] at hx
      subst hx; exact inR_small (by omega) (by omega)
    · simp only [vecA, Arr.cells_mk, List.mem_map] at hcc
      obtain ⟨x, hx, rfl⟩ := hcc
      exact smlC_int (hkin x (by simpa using hx)) 8
    · simp only [vecA, Arr.cells_mk, List.mem_map] at hcc
      obtain ⟨x, hx, rfl⟩ := hcc
      exact (rightN_len (rightN_ofZ (hkin x (by simpa using hx)))).1
  have hcnt : countS (vecA (os.map (fun (i : Nat) => (i : Int) + 1)) (totA a)).shape = (((vecA (os.map (fun (i : Nat) => (i : Int) + 1)) (totA a)).cells.length : Int), 0) := by
    have := (rightA_cells g1).1
    rw [hsh] at this
    simp only [vecA, Arr.shape_mk, Arr.cells_mk, hkl, List.length_map, hol]
    exact this
  have psp := pick_At1_sp a _ _ hsh (by omega) hf hcnt hints hkr
  have isp := ref08_Ints_sp (vecA (os.map (fun (i : Nat) => (i : Int) + 1)) (totA a)) hf.len hf.top
  rw [hints2] at isp
  have cells_eq : (os.map (fun (i : Nat) => (i : Int) + 1)).map (fun k => a.cells.getD (k - 1).toNat Cell.none) = os.map (fun i => a.cells.getD i (intC 0)) := by
    rw [List.map_map]
    refine List.map_congr_left (fun i hi => ?_)
    have := hmem i hi
    simp only [Function.comp, Int.add_sub_cancel, Int.toNat_natCast, List.getD_eq_getElem?_getD, List.getElem?_eq_getElem this, Option.getD_some]
  rw [cells_eq] at psp
  refine wp_call gsp (wp_call psp (wp_ff rfl (wp_ff rfl ?_)))
  simp only [getD_c0, dA_2, els_sl, List.length_map, Arr.cells_mk, hol]
  have w1 : IntKind.wrap .i64 ((a.cells.length : Int) + 1) = ((a.cells.length + 1 : Nat) : Int) := by rw [wrap64 (by omega) (by omega)]; rfl
  rw [w1]
  refine wp_ff (by simp) (wp_dec (by omega) (wp_dec (by omega) (wp_dec (by simp only [bigN]; omega) (wp_call isp ?_))))
  simp only [getD_c0, toBool_bool, Int.toNat_natCast]
  rw [← seenD_nil]
  have key := loop_list (P := Tryz.prog) (md := md) os (fun m k (pre : List Nat) => law17_GradeSorts_l10 4096 m dn (seenD (pre.map (· + 1)) (a.cells.length + 1)) (dI (os.map (fun (i : Nat) => (i : Int) + 1))) (k : Int) (dA a) (dA (.mk (a.s ||| totA (vecA (os.map (fun (i : Nat) => (i : Int) + 1)) (totA a))) (vecA (os.map (fun (i : Nat) => (i : Int) + 1)) (totA a)).shape (os.map (fun i => a.cells.getD i (intC 0)))))) (fun _ _ => [.bool true]) (fun rest pre => os = pre ++ rest)
    (fun m k pre hk hI => by
      simp only [law17_GradeSorts_l10_succ, els_dI, List.length_map]
      exact wp_ndec (by omega) awake17)
    (fun m k pre o rest hd hI ih => by
      obtain ⟨h1, h2, h3⟩ := drop_cons hd
      have hkp : k = pre.length := by
        have := congrArg List.length hd
        rw [hI] at this h1
        simp at this h1; omega
      have ho := hmem o (List.mem_of_getElem? h2)
      have ih := ih (pre ++ [o]) (by rw [hI]; simp)
      rw [List.map_append, List.map_cons, List.map_nil, ← seenD_set (by omega)] at ih
      have hkk2 : (os.map (fun (i : Nat) => (i : Int) + 1))[k]? = some ((o : Int) + 1) := by rw [List.getElem?_map, h2]; rfl
      have hcell : ((os.map (fun i => a.cells.getD i (intC 0))).map dC).getD k D.nil = dC (a.cells.getD o (intC 0)) := by
        rw [getD_map (by rw [List.getElem?_map, h2]; rfl)]
      have hnot : (pre.map (· + 1)).contains (o + 1) = false := by
        have hn := hnd
        rw [hI, List.nodup_append] at hn
        cases hcn : (pre.map (· + 1)).contains (o + 1) with
        | false => rfl
        | true =>
          rw [List.contains_eq_mem, decide_eq_true_eq, List.mem_map] at hcn
          obtain ⟨x, hx, he⟩ := hcn
          exact absurd (show x = o by omega) (hn.2.2 x hx o (by simp))
      have hok : (o : Int) + 1 = ((o + 1 : Nat) : Int) := rfl
      simp only [law17_GradeSorts_l10_succ, els_dI, dA_2, els_sl, Arr.cells_mk, List.length_map, Int.toNat_natCast, getD_map hkk2, toInt_int, hok, hcell, seenD_len, seenD_at (show o + 1 < a.cells.length + 1 by omega), hnot, toBool_bool, wrap_succ (show k < 9223372036854775807 by omega), int_beq]
      refine wp_dec (by omega) (wp_dec (by omega) (wp_dec (by omega) (wp_ndec (by omega) (wp_dec (by omega) (wp_dec (by omega) (wp_ndec (by omega) (wp_dec (by omega) (wp_dec (by omega) (wp_dec (by omega) (wp_dec (by omega) (wp_ff rfl (wp_dec (by omega) (wp_dec (by omega) (wp_dec (by omega) (wp_dec (by omega) (wp_decs (fun h0 => ih) (fun h0 => ?_)))))))))))))))))
      obtain ⟨pre2, p, rfl⟩ : ∃ pre2 p, pre = pre2 ++ [p] := by
        rcases List.eq_nil_or_concat pre with h | ⟨q, p, h⟩
        · subst h; simp at hkp; omega
        · exact ⟨q, p, by simpa using h⟩
      have hkp2 : k = pre2.length + 1 := by simpa using hkp
      have hp2 : os[k - 1]? = some p := by rw [hI, hkp2]; simp
      have hpm := hmem p (List.mem_of_getElem? hp2)
      have hkk3 : (os.map (fun (i : Nat) => (i : Int) + 1))[k - 1]? = some ((p : Int) + 1) := by rw [List.getElem?_map, hp2]; rfl
      have hcell3 : ((os.map (fun i => a.cells.getD i (intC 0))).map dC).getD (k - 1) D.nil = dC (a.cells.getD p (intC 0)) := by
        rw [getD_map (by rw [List.getElem?_map, hp2]; rfl)]
      have hle : leK (kk 8 a.cells dn) p o := by
        have := hso
        rw [hI, List.append_assoc, List.pairwise_append] at this
        exact (List.pairwise_cons.1 this.2.1).1 o (by simp)
      have w2 : IntKind.wrap .i64 ((k : Int) - 1) = ((k - 1 : Nat) : Int) := by rw [wrap64 (by omega) (by omega)]; omega
      simp only [w2, Int.toNat_natCast, hcell3, getD_map hkk3, toInt_int]
      have rp := at_right hc p
      have ro := at_right hc o
      have hR := (row_both 8).1
      have hv := hR.val _ _ rp ro
      have hfl := hR.flip _ _ rp ro
      refine wp_dec (by omega) (wp_dec (by omega) (wp_dec (by omega) (wp_dec (by omega) (wp_call ((ref17_both 8).1 _ _ rp ro) ?_))))
      simp only [getD_c0, toInt_int]
      have fin : ∀ c : Int, c = kk 8 a.cells dn p o → ¬ 0 < c ∧ (c = 0 → p ≤ o) := by
        rintro c rfl
        unfold leK at hle
        omega
      cases dn with
      | true =>
        have w : IntKind.wrap .i64 (0 - cmpC 8 (a.cells.getD p (intC 0)) (a.cells.getD o (intC 0))) = kk 8 a.cells true p o := by
          rw [wrap64 (by omega) (by omega)]
          show _ = cmpC 8 (a.cells.getD o (intC 0)) (a.cells.getD p (intC 0))
          omega
        obtain ⟨q1, q2⟩ := fin _ w
        refine wp_tt rfl (wp_ndec q1 (wp_decs (fun z => wp_dec (by omega) (wp_dec (by omega) (wp_dec (by omega) (wp_dec (by omega) (wp_ndec (by have := q2 z; omega) ih))))) (fun _ => ih)))
      | false =>
        obtain ⟨q1, q2⟩ := fin (cmpC 8 (a.cells.getD p (intC 0)) (a.cells.getD o (intC 0))) rfl
        refine wp_ff rfl (wp_ndec q1 (wp_decs (fun z => wp_dec (by omega) (wp_dec (by omega) (wp_dec (by omega) (wp_dec (by omega) (wp_ndec (by have := q2 z; omega) ih))))) (fun _ => ih))))
    4096 0 [] (by omega) (by omega) (by simp)
  exact key
end Go.Proofs.YtbgcadcpeabpgaaGreat
set_option maxRecDepth 100000
namespace Go.Proofs.YtbgcadcpeabpgaaGreat
open Go.ChangeShapes Go.WideShapes Go.ChangeAt Go.RowKit

set_option maxRecDepth 100000 in
theorem gradeSorts_lifted (os : Os) (started : os.Started) (H : Type) (enc : TypeId × Value → H) :
    ReturnsInHanded {} Tryz.checked os 8 .any (Rows.gradeSortsSpec.pre6 enc Tryz.prog Tryz.f8 Rows.gradeSortsRow.domain false) (Rows.gradeSortsSpec.post enc Tryz.prog Tryz.f8 false true false false) := by
  refine returnsInHanded_of_change_sized (C := Tryz.checked) knob started (by kernel_rfl) Tryz.func8
    (ChangeSpec.witness6 (enc := enc) (C := Tryz.checked) false ⟨#[], #[.agg #[.int .u64 0, .slice none 0 0, .slice none 0 0], .bool false], []⟩ 16 (by kernel_rfl) (by kernel_rfl) (by kernel_rfl) (by kernel_rfl)) ?_
  intro W base args ds gs before hval0 hW hcnd hwt0 _
  have hval : ∀ (j : Nat) t v, Tryz.f8.params[j]? = some t → args[j]? = some v → Value.okWide Tryz.prog W .any base t v := hval0
  have hW' := hW
  obtain ⟨p, q, hA0, hV, rfl, hfz, hnd⟩ := hW
  have hA : DataW.TrodAll enc Tryz.prog W 0 (fun _ => true) true Tryz.f8.params.toList args.toList ds p := hA0
  rw [Tryz.params8] at hA hval
  obtain ⟨v0, vs0, d0, ds0, p0, q0, hargs, rfl, rfl, h0, r0⟩ := trodAll_cons hA
  obtain ⟨v1, vs1, d1, ds1, p1, q1, rfl, rfl, rfl, h1, r1⟩ := trodAll_cons r0
  obtain ⟨rfl, rfl, rfl⟩ := trodAll_nil r1
  obtain rfl : args = #[v0, v1] := by cases args; simp_all
  have hwt : ∀ (j t : Nat) d, (Tryz.f8.params.toList)[j]? = some t → ([d0, d1])[j]? = some d → ∀ z ∈ DataW.weights Tryz.prog t d, z ≤ reachBytes := fun j t d ht hd z hz => by
    have hl := (List.getElem?_eq_some_iff.1 ht).1
    have hl2 := (List.getElem?_eq_some_iff.1 hd).1
    have := List.all_eq_true.1 hwt0 z (DataW.weights_mem_each (j := j) (t := t) (d := d) (by rw [List.getElem?_append_left hl]; exact ht) (by rw [List.getElem?_append_left hl2]; exact hd) z hz)
    simpa using this
  obtain ⟨x0, hx0, hr0⟩ := arg_arr (hval 0 26 v0 rfl rfl) h0
  obtain ⟨x1, hr1⟩ := arg_bool (hval 1 4 v1 rfl rfl) h1
  refine (law_calls (vs := [v0, v1]) (gradeSorts_sp x0 x1 hx0) Tryz.func8 (by kernel_rfl) (by kernel_rfl) Tryz.underlying4 rfl rfl ?_).mono fun e W' ⟨he, hx⟩ => ⟨_, he, law_post laidOut hW' rfl (by kernel_rfl) Tryz.underlying4 rfl (by kernel_rfl) hx⟩
  intro i t x v ht hx hv
  match i with
  | 0 => cases (show some 26 = some t from ht); cases hx; cases hv; exact hr0
  | 1 => cases (show some 4 = some t from ht); cases hx; cases hv; exact hr1
  | i + 2 => cases hx

theorem gradeSorts_holds : Rows.GradeSortsSaid :=
  OpenClaim.holds_of_wide 8 Tryz.f8 rfl rfl rfl rfl rfl rfl rfl ⟨rfl, rfl, rfl, rfl, rfl⟩ rfl rfl rfl rfl rfl (by kernel_rfl) Tryz.func8 (by kernel_rfl)
    (of_decide_eq_true (by kernel_rfl)) (by unfold Func.isWrapper; first | (rw [if_pos (by decide +kernel)]; kernel_rfl) | (rw [if_neg (by decide +kernel)]; exact ⟨rfl, rfl⟩))
    (fun os started H enc _ => gradeSorts_lifted os started H enc)

end Go.Proofs.YtbgcadcpeabpgaaGreat
