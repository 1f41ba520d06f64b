/- Proved: for all two arrays, the law MoldReshapes of layer 11 returns true and changes nothing. No condition. -/
import Derived.Test.YtfnmaeniekggeaaRows
import Derived.WalkKit
import Derived.WalkSpells
import Derived.WalkLawsBesides
import Derived.Lib.Hide
import Derived.Laws.CopyOwn
import Derived.Deep.QuietTactic
import Derived.BigQuiet
import Derived.Orders
import Derived.Defers
import Derived.Recover
import Derived.Test.YtfnmaeniekggeaaProg
import Derived.KernelRfl
import Derived.ProofKit
import Derived.OpenShut
import Derived.Test.YtfnmaeniekggeaaZ5deb09ca
set_option linter.unusedSimpArgs false
set_option linter.unusedVariables false
set_option maxRecDepth 100000
namespace Go.Proofs.Ytfnmaeniekggeaa

theorem dB_ofNat {t : Nat} (h : t < B) : D.int (t : Int) = dB (BitVec.ofNat 32 t) := by
  show _ = D.int ((BitVec.ofNat 32 t).toNat : Int)
  rw [show (BitVec.ofNat 32 t).toNat = t by rw [BitVec.toNat_ofNat]; exact Nat.mod_eq_of_lt h]
theorem ofNat_lt {t : Nat} (h : t < B) : (BitVec.ofNat 32 t).toNat = t := by rw [BitVec.toNat_ofNat]; exact Nat.mod_eq_of_lt h
theorem wrap_pred (k : Nat) (h : k < 9223372036854775807) : IntKind.wrap .i64 (((k + 1 : Nat) : Int) - 1) = (k : Int) := by rw [wrap64 (by omega) (by omega)]; omega
theorem dL_take (l : List Limb) (k : Nat) : D.sl ((l.map dB).take k) = dL (l.take k) := by rw [dL, List.map_take]
theorem dL_nil : D.sl [] = dL [] := rfl
theorem ref02_Norm_sp (l : List Limb) (hl : l.length ≤ 1000000) : Sp 144 [dL l] [dL (lb (nv l))] := by
  refine sound_ (l.length + 1) (ref02_Norm_tree _ _) ?_
  have := loop_down (P := Try.prog) (md := md) (fun m k (_ : Unit) => ref02_Norm_l2 (l.length + 1) m (dL l) (k : Int)) (fun _ _ => [dL (lb (nv l))]) (fun k _ => k ≤ l.length ∧ ∀ i, k ≤ i → (hi : i < l.length) → l[i] = 0)
    (fun m s ⟨h1, h2⟩ => by
      simp only [ref02_Norm_l2_succ, els_dL, List.length_map, List.length_take]
      refine wp_ndec (by omega) (wp_dec (by omega) (wp_dec (by omega) (wp_dec (by simp [bigN]) (wp_ret ?_))))
      rw [lb_take (k := 0) (by omega) h2 (fun _ h => by omega), dL_take]; rfl)
    (fun m k s ⟨h1, h2⟩ ih => by
      have hk : l[k]? = some l[k] := List.getElem?_eq_getElem _
      simp only [ref02_Norm_l2_succ, els_dL, List.length_map, List.length_take, wrap_pred k (by omega), Int.toNat_natCast, getD_map hk, toInt_dB, int_beq]
      refine wp_dec (by omega) (wp_dec (by omega) (wp_dec (by omega) (wp_decs (fun h => ?_) (fun h => ?_))))
      · refine ih () ⟨by omega, fun i hi hlt => ?_⟩
        by_cases he : i = k
        · subst he; exact BitVec.eq_of_toNat_eq (by simp; omega)
        · exact h2 i (by omega) hlt
      · refine wp_dec (by omega) (wp_dec (by omega) (wp_dec (by unfold bigN; omega) (wp_ret ?_)))
        rw [lb_take (k := k + 1) (by omega) h2 (fun _ _ hc => h (by have hc' : l[k] = 0 := hc; rw [hc']; rfl)), dL_take])
    (l.length + 1) l.length () (by omega) ⟨Nat.le_refl _, fun i h1 h2 => by omega⟩
  simpa using this
theorem ref02_limb_sp (l : List Limb) (i : Nat) (hi : i < 9223372036854775807) : Sp 148 [dL l, .int i] [.int ((nv l / B ^ i % B : Nat) : Int)] := by
  refine sound_ 0 (ref02_limb_tree _ _ _) ?_
  simp only [els_dL, List.length_map, toInt_int, Int.toNat_natCast]
  refine wp_decs (fun h => ?_) (fun h => ?_)
  · have hk : l[i]? = some (l[i]'(by omega)) := List.getElem?_eq_getElem _
    refine wp_dec (by omega) (wp_dec (by omega) (wp_ret ?_))
    have := limb_lt l[i]
    rw [getD_map hk, toInt_dB, wrapU64 (by omega) (by rw [B_eq] at this; omega), nv_limb]
  · refine wp_ret ?_
    rw [nv_limb' _ _ (by omega)]; rfl
theorem ref02_longer_sp (a b : List Limb) : Sp 147 [dL a, dL b] [.int ((max a.length b.length : Nat) : Int)] := by
  refine sound_ 0 (ref02_longer_tree _ _ _) ?_
  simp only [els_dL, List.length_map]
  refine wp_decs (fun h => wp_ret ?_) (fun h => wp_ret ?_)
  · rw [Nat.max_eq_left (by omega)]
  · rw [Nat.max_eq_right (by omega)]
/-- Which one is greater? -/
def cmpN (a b : Nat) : Int := if a < b then -1 else if a = b then 0 else 1
theorem ref02_Cmp_sp (a b : List Limb) (ha : a.length ≤ 1000000) (hb : b.length ≤ 1000000) : Sp 158 [dL a, dL b] [.int (cmpN (nv a) (nv b))] := by
  refine sound_ (max a.length b.length + 1) (ref02_Cmp_tree _ _ _) (wp_call (ref02_longer_sp a b) ?_)
  simp only [getD_c0, toInt_int]
  have key := loop_down (P := Try.prog) (md := md) (fun m k (_ : Unit) => ref02_Cmp_l2 (max a.length b.length + 1) m (dL a) (dL b) ((k : Int) - 1)) (fun _ _ => [.int (cmpN (nv a) (nv b))]) (fun k _ => k ≤ 1000000 ∧ nv a / B ^ k = nv b / B ^ k)
    (fun m s ⟨_, h⟩ => by
      simp only [ref02_Cmp_l2_succ]
      refine wp_ndec (by omega) (wp_ret ?_)
      simp at h
      simp [cmpN, h])
    (fun m k s ⟨h0, h⟩ ih => by
      simp only [ref02_Cmp_l2_succ, show ((k + 1 : Nat) : Int) - 1 = (k : Int) by omega]
      have ea := Nat.div_add_mod (nv a / B ^ k) B
      have eb := Nat.div_add_mod (nv b / B ^ k) B
      rw [Nat.div_div_eq_div_mul, ← Nat.pow_succ] at ea eb
      rw [h] at ea
      generalize B * (nv b / B ^ (k + 1)) = q at ea eb
      refine wp_dec (by omega) (wp_call (ref02_limb_sp a k (by omega)) (wp_call (ref02_limb_sp b k (by omega)) ?_))
      simp only [getD_c0, toInt_int]
      refine wp_decs (fun h' => wp_ret ?_) (fun h' => wp_call (ref02_limb_sp a k (by omega)) (wp_call (ref02_limb_sp b k (by omega)) ?_))
      · have hlt := lt_of_div (show nv a / B ^ k < nv b / B ^ k by omega)
        simp only [cmpN]; rw [if_pos hlt]
      · simp only [getD_c0, toInt_int]
        refine wp_decs (fun h2 => wp_ret ?_) (fun h2 => ?_)
        · have hlt := lt_of_div (show nv b / B ^ k < nv a / B ^ k by omega)
          simp only [cmpN]; rw [if_neg (by omega), if_neg (by omega)]
        · rw [wrap64 (by omega) (by omega)]
          exact ih () ⟨by omega, by omega⟩)
    (max a.length b.length + 1) (max a.length b.length) () (by omega) ⟨by omega, by
      rw [Nat.div_eq_of_lt, Nat.div_eq_of_lt]
      · exact Nat.lt_of_lt_of_le (nv_lt b) (Nat.pow_le_pow_right B_pos (Nat.le_max_right _ _))
      · exact Nat.lt_of_lt_of_le (nv_lt a) (Nat.pow_le_pow_right B_pos (Nat.le_max_left _ _))⟩
  rw [wrap64 (by omega) (by omega)]
  exact key
theorem nnil {l : List D} : l ++ [] = l := List.append_nil l
theorem ref02_Add_sp (a b : List Limb) (ha : a.length ≤ 100000) (hb : b.length ≤ 100000) : Sp 137 [dL a, dL b] [dL (lb (nv a + nv b))] := by
  refine sound_ (max a.length b.length + 3) (ref02_Add_tree _ _ _) ?_
  have hmx : max a.length b.length ≤ 100000 := by omega
  have hlt : nv a + nv b < B ^ (max a.length b.length + 1) := by
    have h1 : nv a < B ^ max a.length b.length := Nat.lt_of_lt_of_le (nv_lt a) (Nat.pow_le_pow_right B_pos (Nat.le_max_left _ _))
    have h2 : nv b < B ^ max a.length b.length := Nat.lt_of_lt_of_le (nv_lt b) (Nat.pow_le_pow_right B_pos (Nat.le_max_right _ _))
    rw [Nat.pow_succ, B_eq]; rw [B_eq] at h1 h2; omega
  have key := loop_up (P := Try.prog) (md := md) (max a.length b.length + 1) (fun m k (s : List Limb × Nat) => ref02_Add_l4 (max a.length b.length + 3) m (dL a) (dL b) (s.1.map dB) (s.2 : Int) (k : Int)) (fun _ _ => [dL (lb (nv a + nv b))])
    (fun k s => s.1.length = k ∧ nv s.1 = (nv a + nv b) % B ^ k ∧ s.2 = (nv a % B ^ k + nv b % B ^ k) / B ^ k)
    (fun m s ⟨h1, h2, h3⟩ => by
      simp only [ref02_Add_l4_succ]
      refine wp_call (ref02_longer_sp a b) ?_
      simp only [getD_c0, toInt_int]
      refine wp_ndec (by omega) (wp_call (ref02_Norm_sp s.1 (by omega)) (wp_ret ?_))
      rw [h2, Nat.mod_eq_of_lt hlt]; rfl)
    (fun m k s hk ⟨h1, h2, h3⟩ ih => by
      simp only [ref02_Add_l4_succ]
      refine wp_call (ref02_longer_sp a b) ?_
      simp only [getD_c0, toInt_int]
      refine wp_dec (by omega) (wp_call (ref02_limb_sp a k (by omega)) (wp_call (ref02_limb_sp b k (by omega)) ?_))
      simp only [getD_c0, toInt_int]
      have hd := add_digit (nv a) (nv b) k
      have hc := add_carry (nv a) (nv b) k
      have la := Nat.mod_lt (nv a / B ^ k) B_pos
      have lb' := Nat.mod_lt (nv b / B ^ k) B_pos
      have lc : s.2 ≤ 1 := by
        rw [h3]
        have r1 := Nat.mod_lt (nv a) (Bp k)
        have r2 := Nat.mod_lt (nv b) (Bp k)
        have : (nv a % B ^ k + nv b % B ^ k) / B ^ k < 2 := by rw [Nat.div_lt_iff_lt_mul (Bp k)]; omega
        omega
      rw [← h3] at hd hc
      generalize nv a / B ^ k % B = x at *
      generalize nv b / B ^ k % B = y at *
      have hB := B_eq
      rw [show (x + y + s.2) / B = (x + y + s.2) / 4294967296 from rfl] at hc
      have t1 : IntKind.wrap .u64 (IntKind.wrap .u64 ((x : Int) + (y : Int)) + (s.2 : Int)) = ((x + y + s.2 : Nat) : Int) := by
        rw [wrapU64 (x := (x : Int) + y) (by omega) (by omega), wrapU64 (by omega) (by omega)]; omega
      rw [t1, Int.tmod_eq_emod_of_nonneg (by omega), Int.tdiv_eq_ediv_of_nonneg (by omega), show (((x + y + s.2 : Nat) : Int) % 4294967296) = (((x + y + s.2) % B : Nat) : Int) by rw [B_eq]; omega,
        show (((x + y + s.2 : Nat) : Int) / 4294967296) = (((x + y + s.2) / 4294967296 : Nat) : Int) by omega]
      have hm := Nat.mod_lt (x + y + s.2) B_pos
      rw [wrapU32 (x := (((x + y + s.2) % B : Nat) : Int)) (by omega) (by generalize (x + y + s.2) % B = z at *; omega), wrapU64 (x := (((x + y + s.2) / 4294967296 : Nat) : Int)) (by omega) (by omega), wrap_succ (by omega), dB_ofNat hm]
      simp only [List.length_map, List.length_singleton]
      refine wp_tt (by decide) (wp_dec (by unfold bigN; omega) (wp_tt (by decide) ?_))
      have := ih (s.1 ++ [BitVec.ofNat 32 ((x + y + s.2) % B)], (x + y + s.2) / 4294967296) ⟨by simp [h1], nv_step h1 h2 (by rw [ofNat_lt hm, hd]), by rw [hc]⟩
      simpa using this)
    (max a.length b.length + 3) 0 ([], 0) (by omega) (by omega) ⟨rfl, by simp [Nat.mod_one], by simp [Nat.mod_one]⟩
  exact key
theorem sub_arith {x y zi c c' : Nat} (hx : x < B) (hy : y < B) (hz : zi < B) (hc : c ≤ 1) (hc' : c' ≤ 1) (e : x + B * c' = zi + y + c) :
    IntKind.wrap .u32 (Int.tmod (IntKind.wrap .u64 (IntKind.wrap .u64 (IntKind.wrap .u64 (4294967296 + (x : Int)) - (y : Int)) - (c : Int))) 4294967296) = (zi : Int) ∧
    IntKind.wrap .u64 (1 - IntKind.wrap .u64 (Int.tdiv (IntKind.wrap .u64 (IntKind.wrap .u64 (IntKind.wrap .u64 (4294967296 + (x : Int)) - (y : Int)) - (c : Int))) 4294967296)) = (c' : Int) := by
  rw [B_eq] at hx hy hz e
  have t1 : IntKind.wrap .u64 (IntKind.wrap .u64 (IntKind.wrap .u64 (4294967296 + (x : Int)) - (y : Int)) - (c : Int)) = (zi : Int) + 4294967296 * (1 - (c' : Int)) := by
    rw [wrapU64 (x := 4294967296 + (x : Int)) (by omega) (by omega), wrapU64 (x := 4294967296 + (x : Int) - y) (by omega) (by omega), wrapU64 (by omega) (by omega)]; omega
  rw [t1, Int.tmod_eq_emod_of_nonneg (by omega), Int.tdiv_eq_ediv_of_nonneg (by omega), show ((zi : Int) + 4294967296 * (1 - (c' : Int))) % 4294967296 = (zi : Int) by omega, show ((zi : Int) + 4294967296 * (1 - (c' : Int))) / 4294967296 = 1 - (c' : Int) by omega]
  rw [wrapU32 (x := (zi : Int)) (by omega) (by omega), wrapU64 (x := 1 - (c' : Int)) (by omega) (by omega), show (1 : Int) - (1 - (c' : Int)) = (c' : Int) by omega, wrapU64 (x := (c' : Int)) (by omega) (by omega)]
  exact ⟨rfl, rfl⟩
theorem ref02_Sub_sp (a b : List Limb) (ha : a.length ≤ 100000) (hb : b.length ≤ 100000) : Sp 151 [dL a, dL b] [dL (lb (nv a - nv b)), .bool (decide (nv b ≤ nv a))] := by
  refine sound_ (max a.length b.length + 3) (ref02_Sub_tree _ _ _) (wp_call (ref02_Cmp_sp a b (by omega) (by omega)) ?_)
  have hmx : max a.length b.length ≤ 100000 := by omega
  simp only [getD_c0, toInt_int]
  refine wp_decs (fun h => wp_ret ?_) (fun h => ?_)
  · have hlt : nv a < nv b := by
      unfold cmpN at h
      rcases Nat.lt_or_ge (nv a) (nv b) with h1 | h1
      · exact h1
      · rw [if_neg (by omega)] at h; split at h <;> omega
    rw [Nat.sub_eq_zero_of_le (by omega), lb_zero, decide_eq_false (by omega)]; rfl
  · have hge : nv b ≤ nv a := by
      unfold cmpN at h
      rcases Nat.lt_or_ge (nv a) (nv b) with h1 | h1
      · rw [if_pos h1] at h; omega
      · exact h1
    rw [decide_eq_true hge]
    have hlt : nv a - nv b < B ^ max a.length b.length := by
      have h1 : nv a < B ^ max a.length b.length := Nat.lt_of_lt_of_le (nv_lt a) (Nat.pow_le_pow_right B_pos (Nat.le_max_left _ _))
      omega
    have key := loop_up (P := Try.prog) (md := md) (max a.length b.length) (fun m k (s : List Limb × Nat) => ref02_Sub_l6 (max a.length b.length + 3) m (dL a) (dL b) (s.1.map dB) (s.2 : Int) (k : Int)) (fun _ _ => [dL (lb (nv a - nv b)), .bool true])
      (fun k s => s.1.length = k ∧ nv s.1 = (nv a - nv b) % B ^ k ∧ s.2 = ((nv a - nv b) % B ^ k + nv b % B ^ k) / B ^ k)
      (fun m s ⟨h1, h2, h3⟩ => by
        simp only [ref02_Sub_l6_succ]
        refine wp_call (ref02_longer_sp a b) ?_
        simp only [getD_c0, toInt_int]
        refine wp_ndec (by omega) (wp_call (ref02_Norm_sp s.1 (by omega)) (wp_ret ?_))
        rw [h2, Nat.mod_eq_of_lt hlt]; rfl)
      (fun m k s hk ⟨h1, h2, h3⟩ ih => by
        simp only [ref02_Sub_l6_succ]
        refine wp_call (ref02_longer_sp a b) ?_
        simp only [getD_c0, toInt_int]
        refine wp_dec (by omega) (wp_call (ref02_limb_sp a k (by omega)) (wp_call (ref02_limb_sp b k (by omega)) ?_))
        simp only [getD_c0, toInt_int]
        obtain ⟨zi, c, c', e1, e2, e3, e4, e5⟩ := sub_digit hge k
        have la := Nat.mod_lt (nv a / B ^ k) B_pos
        have lb' := Nat.mod_lt (nv b / B ^ k) B_pos
        have lz := Nat.mod_lt ((nv a - nv b) / B ^ k) B_pos
        rw [← e1] at lz
        rw [← e2] at h3
        have hB := B_eq
        have lc : c ≤ 1 := by
          rw [e2]
          have r1 := Nat.mod_lt (nv a - nv b) (Bp k)
          have r2 := Nat.mod_lt (nv b) (Bp k)
          have : ((nv a - nv b) % B ^ k + nv b % B ^ k) / B ^ k < 2 := by rw [Nat.div_lt_iff_lt_mul (Bp k)]; omega
          omega
        rw [h3]
        generalize nv a / B ^ k % B = x at *
        generalize nv b / B ^ k % B = y at *
        obtain ⟨t1, t2⟩ := sub_arith la lb' lz lc e4 e5
        rw [t1, t2, wrap_succ (by omega), dB_ofNat lz]
        simp only [List.length_map, List.length_singleton]
        refine wp_tt (by decide) (wp_dec (by unfold bigN; omega) (wp_tt (by decide) ?_))
        have := ih (s.1 ++ [BitVec.ofNat 32 zi], c') ⟨by simp [h1], nv_step h1 h2 (by rw [ofNat_lt lz, e1]), e3⟩
        simpa using this)
      (max a.length b.length + 3) 0 ([], 0) (by omega) (by omega) ⟨rfl, by simp [Nat.mod_one], by simp [Nat.mod_one]⟩
    exact key
theorem ref02_twice_sp (a : List Limb) (b : Nat) (hb : b ≤ 1) (ha : a.length ≤ 100000) : Sp 149 [dL a, .int b] [dL (lb (2 * nv a + b))] := by
  refine sound_ (a.length + 3) (ref02_twice_tree _ _ _) ?_
  have hlt : 2 * nv a + b < B ^ (a.length + 1) := by
    have := nv_lt a
    rw [Nat.pow_succ, B_eq]; rw [B_eq] at this; omega
  have key := loop_up (P := Try.prog) (md := md) (a.length + 1) (fun m k (s : List Limb × Nat) => ref02_twice_l4 (a.length + 3) m (dL a) (s.1.map dB) (s.2 : Int) (k : Int)) (fun _ _ => [dL (lb (2 * nv a + b))])
    (fun k s => s.1.length = k ∧ nv s.1 = (2 * nv a + b) % B ^ k ∧ s.2 = (2 * (nv a % B ^ k) + b) / B ^ k)
    (fun m s ⟨h1, h2, h3⟩ => by
      simp only [ref02_twice_l4_succ, els_dL, List.length_map]
      refine wp_ndec (by omega) (wp_call (ref02_Norm_sp s.1 (by omega)) (wp_ret ?_))
      rw [h2, Nat.mod_eq_of_lt hlt]; rfl)
    (fun m k s hk ⟨h1, h2, h3⟩ ih => by
      simp only [ref02_twice_l4_succ, els_dL, List.length_map]
      refine wp_dec (by omega) (wp_call (ref02_limb_sp a k (by omega)) ?_)
      simp only [getD_c0, toInt_int]
      have hd := two_digit (nv a) b k
      have hc := two_carry (nv a) b k
      have la := Nat.mod_lt (nv a / B ^ k) B_pos
      have hB := B_eq
      have lc : s.2 ≤ 1 := by
        rw [h3]
        have r1 := Nat.mod_lt (nv a) (Bp k)
        have : (2 * (nv a % B ^ k) + b) / B ^ k < 2 := by rw [Nat.div_lt_iff_lt_mul (Bp k)]; omega
        omega
      rw [← h3] at hd hc
      generalize nv a / B ^ k % B = x at *
      rw [show (2 * x + s.2) / B = (2 * x + s.2) / 4294967296 from rfl] at hc
      have t1 : IntKind.wrap .u64 (IntKind.wrap .u64 (2 * (x : Int)) + (s.2 : Int)) = ((2 * x + s.2 : Nat) : Int) := by
        rw [wrapU64 (x := 2 * (x : Int)) (by omega) (by omega), wrapU64 (by omega) (by omega)]; omega
      rw [t1, Int.tmod_eq_emod_of_nonneg (by omega), Int.tdiv_eq_ediv_of_nonneg (by omega), show (((2 * x + s.2 : Nat) : Int) % 4294967296) = (((2 * x + s.2) % B : Nat) : Int) by rw [B_eq]; omega,
        show (((2 * x + s.2 : Nat) : Int) / 4294967296) = (((2 * x + s.2) / 4294967296 : Nat) : Int) by omega]
      have hm := Nat.mod_lt (2 * x + s.2) B_pos
      rw [wrapU32 (x := (((2 * x + s.2) % B : Nat) : Int)) (by omega) (by generalize (2 * x + s.2) % B = z at *; omega), wrapU64 (x := (((2 * x + s.2) / 4294967296 : Nat) : Int)) (by omega) (by omega), wrap_succ (by omega), dB_ofNat hm]
      simp only [List.length_singleton]
      refine wp_tt (by decide) (wp_dec (by unfold bigN; omega) (wp_tt (by decide) ?_))
      have := ih (s.1 ++ [BitVec.ofNat 32 ((2 * x + s.2) % B)], (2 * x + s.2) / 4294967296) ⟨by simp [h1], nv_step h1 h2 (by rw [ofNat_lt hm, hd]), by rw [hc]⟩
      simpa using this)
    (a.length + 3) 0 ([], b) (by omega) (by omega) ⟨rfl, by simp [Nat.mod_one], by simp [Nat.mod_one]⟩
  simp only [toInt_int]
  rw [wrapU64 (by omega) (by omega)]
  exact key
theorem ref02_Bit_sp (a : List Limb) (i : Nat) (hi : i < 9223372036854775807) : Sp 150 [dL a, .int i] [.int ((nv a / 2 ^ i % 2 : Nat) : Int)] := by
  refine sound_ 40 (ref02_Bit_tree _ _ _) (wp_tt (by decide) ?_)
  simp only [toInt_int]
  rw [Int.tdiv_eq_ediv_of_nonneg (by omega), show (i : Int) / 32 = ((i / 32 : Nat) : Int) by omega, wrap64 (by omega) (by omega)]
  refine wp_call (ref02_limb_sp a (i / 32) (by omega)) ?_
  simp only [getD_c0, toInt_int]
  have hm : Int.tmod (i : Int) 32 = ((i % 32 : Nat) : Int) := by rw [Int.tmod_eq_emod_of_nonneg (by omega)]; omega
  have key := loop_up (P := Try.prog) (md := md) (i % 32) (fun m k (v : Nat) => ref02_Bit_l3 40 m (i : Int) (v : Int) (k : Int)) (fun k v => [.int ((v / 2 ^ (i % 32 - k) % 2 : Nat) : Int)]) (fun _ v => v < 4294967296)
    (fun m v hv => by
      simp only [ref02_Bit_l3_succ, hm]
      refine wp_tt (by decide) (wp_ndec (by omega) (wp_tt (by decide) (wp_ret ?_)))
      rw [Int.tmod_eq_emod_of_nonneg (by omega), show (v : Int) % 2 = ((v % 2 : Nat) : Int) by omega, wrapU32 (by omega) (by omega)]
      simp)
    (fun m k v hk hv ih => by
      simp only [ref02_Bit_l3_succ, hm]
      refine wp_tt (by decide) (wp_dec (by omega) (wp_tt (by decide) ?_))
      rw [wrap_succ (by omega), Int.tdiv_eq_ediv_of_nonneg (by omega), show (v : Int) / 2 = ((v / 2 : Nat) : Int) by omega, wrapU64 (by omega) (by omega)]
      have := ih (v / 2) (by omega)
      rw [show i % 32 - k = (i % 32 - (k + 1)) + 1 by omega, Nat.pow_succ, Nat.mul_comm, ← Nat.div_div_eq_div_mul]
      exact this)
    40 0 (nv a / B ^ (i / 32) % B) (by omega) (by omega) (Nat.mod_lt _ B_pos)
  rw [Nat.sub_zero, bit_limb] at key
  exact key
theorem ref02_DivMod_sp (a b : List Limb) (ha : a.length ≤ 10000) (hb : b.length ≤ 10000) : Sp 139 [dL a, dL b] [dL (lb (nv a / nv b)), dL (lb (if nv b = 0 then 0 else nv a % nv b)), .bool (decide (nv b ≠ 0))] := by
  refine sound_ (32 * a.length + 1) (ref02_DivMod_tree _ _ _) (wp_call (ref02_Norm_sp b (by omega)) ?_)
  simp only [getD_c0, els_dL, List.length_map, int_beq]
  refine wp_decs (fun h => wp_ret ?_) (fun h => ?_)
  · have h0 : nv b = 0 := lb_len0.1 (by omega)
    simp [h0, lb_zero, dL]
  · have h0 : nv b ≠ 0 := fun hh => h (by rw [hh, lb_zero]; rfl)
    rw [decide_eq_true h0, if_neg h0]
    have key := loop_down (P := Try.prog) (md := md) (fun m k (s : Nat × Nat) => ref02_DivMod_l5 (32 * a.length + 1) m (dL a) (dL b) (dL (lb s.1)) (dL (lb s.2)) ((k : Int) - 1)) (fun _ _ => [dL (lb (nv a / nv b)), dL (lb (nv a % nv b)), .bool true])
      (fun k s => k ≤ 320000 ∧ nv a / 2 ^ k = nv b * s.1 + s.2 ∧ s.2 < nv b)
      (fun m s ⟨_, h1, h2⟩ => by
        simp only [ref02_DivMod_l5_succ]
        refine wp_ndec (by omega) (wp_ret ?_)
        simp only [Nat.pow_zero, Nat.div_one] at h1
        rw [h1, Nat.mul_add_div (Nat.pos_of_ne_zero h0), Nat.div_eq_of_lt h2, Nat.mul_add_mod, Nat.mod_eq_of_lt h2]; simp)
      (fun m k s ⟨hk, h1, h2⟩ ih => by
        simp only [ref02_DivMod_l5_succ, show ((k + 1 : Nat) : Int) - 1 = (k : Int) by omega]
        have hr : (lb s.2).length ≤ b.length := lb_len.2 (Nat.lt_trans h2 (nv_lt b))
        have hq : (lb s.1).length ≤ a.length := by
          refine lb_len.2 (Nat.lt_of_le_of_lt ?_ (nv_lt a))
          have h3 : nv a / 2 ^ (k + 1) ≤ nv a := Nat.div_le_self _ _
          have h4 := Nat.le_mul_of_pos_left s.1 (Nat.pos_of_ne_zero h0)
          omega
        have hbit : nv a / 2 ^ k % 2 ≤ 1 := by omega
        have hdec : nv a / 2 ^ k = 2 * (nv a / 2 ^ (k + 1)) + nv a / 2 ^ k % 2 := by
          rw [Nat.pow_succ, ← Nat.div_div_eq_div_mul]; omega
        generalize hbt : nv a / 2 ^ k % 2 = bt at *
        have hlen2 : (lb (2 * s.2 + bt)).length ≤ b.length + 1 := by
          refine lb_len.2 ?_
          have := nv_lt b
          rw [Nat.pow_succ, B_eq]; rw [B_eq] at this; omega
        have sp1 := ref02_Bit_sp a k (by omega)
        rw [hbt] at sp1
        refine wp_dec (by omega) (wp_call sp1 ?_)
        simp only [getD_c0, toInt_int]
        refine wp_call (ref02_twice_sp (lb s.2) bt hbit (by omega)) ?_
        simp only [getD_c0, nv_lb]
        refine wp_call (ref02_Sub_sp (lb (2 * s.2 + bt)) b (by omega) (by omega)) ?_
        simp only [getD_c0, getD_c1, toBool_bool, nv_lb]
        refine wp_decs (fun h3 => ?_) (fun h3 => ?_)
        · refine wp_call (ref02_twice_sp (lb s.1) 1 (by omega) (by omega)) ?_
          simp only [getD_c0, nv_lb]
          rw [wrap64 (by omega) (by omega)]
          refine ih (2 * s.1 + 1, 2 * s.2 + bt - nv b) ⟨by omega, ?_, by simp only; omega⟩
          simp only
          rw [hdec, h1, Nat.mul_add, Nat.mul_add, Nat.mul_left_comm]; omega
        · refine wp_call (ref02_twice_sp (lb s.1) 0 (by omega) (by omega)) ?_
          simp only [getD_c0, nv_lb]
          rw [wrap64 (by omega) (by omega)]
          refine ih (2 * s.1 + 0, 2 * s.2 + bt) ⟨by omega, ?_, by simp only; omega⟩
          simp only
          rw [hdec, h1, Nat.mul_add, Nat.add_zero, Nat.mul_left_comm]; omega)
      (32 * a.length + 1) (32 * a.length) (0, 0) (by omega) ⟨by omega, by
        rw [← B_two, Nat.div_eq_of_lt (nv_lt a)]; rfl, Nat.pos_of_ne_zero h0⟩
    rw [wrap64 (x := 32 * (a.length : Int)) (by omega) (by omega), wrap64 (by omega) (by omega)]
    simp only [lb_zero] at key
    exact key
theorem ref02_Gcd_sp (a b : List Limb) (ha : a.length ≤ 1000) (hb : b.length ≤ 1000) : Sp 138 [dL a, dL b] [dL (lb (Nat.gcd (nv a) (nv b)))] := by
  obtain ⟨K, hK⟩ : ∃ K, K = 1000 := ⟨_, rfl⟩
  obtain ⟨J, hJ⟩ : ∃ J, J = 32000 := ⟨_, rfl⟩
  refine sound_ 100001 (ref02_Gcd_tree _ _ _) (wp_call (ref02_Norm_sp a (by omega)) (wp_call (ref02_Norm_sp b (by omega)) ?_))
  simp only [getD_c0]
  have key : ∀ (j k m x y : Nat), (lb x).length ≤ K → (lb y).length ≤ K → y < 2 ^ j → k + 2 * j + 2 ≤ 99000 → 2 * j + 1 < m → Tw (ref02_Gcd_l3 100001 m (dL (lb x)) (dL (lb y)) (k : Int)) [dL (lb (Nat.gcd x y))] := by
    intro j
    induction j with
    | zero =>
      intro k m x y _ _ hy hk hm
      obtain ⟨m, rfl⟩ : ∃ m', m = m' + 1 := ⟨m - 1, by omega⟩
      have : y = 0 := by simpa using hy
      subst this
      simp only [ref02_Gcd_l3_succ, els_dL, List.length_map, lb_zero, List.length_nil]
      refine wp_dec (by omega) (wp_ndec (by omega) (wp_ret ?_))
      rw [Nat.gcd_zero_right]
    | succ j ih =>
      intro k m x y hx hy hlt hk hm
      have stop : ∀ (k m x : Nat), k < 100000 → 0 < m → Tw (ref02_Gcd_l3 100001 m (dL (lb x)) (dL (lb 0)) (k : Int)) [dL (lb (Nat.gcd x 0))] := by
        intro k m x hk hm
        obtain ⟨m, rfl⟩ : ∃ m', m = m' + 1 := ⟨m - 1, by omega⟩
        simp only [ref02_Gcd_l3_succ, els_dL, List.length_map, lb_zero, List.length_nil]
        refine wp_dec (by omega) (wp_ndec (by omega) (wp_ret ?_))
        rw [Nat.gcd_zero_right]
      have step : ∀ (k m x y : Nat), k < 100000 → (lb x).length ≤ K → (lb y).length ≤ K → y ≠ 0 → Tw (ref02_Gcd_l3 100001 m (dL (lb y)) (dL (lb (x % y))) ((k + 1 : Nat) : Int)) [dL (lb (Nat.gcd y (x % y)))] → Tw (ref02_Gcd_l3 100001 (m + 1) (dL (lb x)) (dL (lb y)) (k : Int)) [dL (lb (Nat.gcd x y))] := by
        intro k m x y hk hx hy h0 hw
        simp only [Tw, ref02_Gcd_l3_succ, els_dL, List.length_map]
        have hne : (lb y).length ≠ 0 := fun hh => h0 (lb_len0.1 hh)
        have sp := ref02_DivMod_sp (lb x) (lb y) (by omega) (by omega)
        rw [nv_lb, nv_lb, if_neg h0] at sp
        refine wp_dec (by omega) (wp_dec (by omega) (wp_call sp ?_))
        simp only [getD_c1]
        rw [wrap_succ (by omega), Nat.gcd_comm x y, Nat.gcd_rec, Nat.gcd_comm]
        exact hw
      by_cases h0 : y = 0
      · subst h0; exact stop k m x (by omega) (by omega)
      · obtain ⟨m, rfl⟩ : ∃ m', m = m' + 2 := ⟨m - 2, by omega⟩
        have hl1 : (lb (x % y)).length ≤ K := lb_len.2 (Nat.lt_of_le_of_lt (Nat.le_of_lt (Nat.mod_lt x (Nat.pos_of_ne_zero h0))) (lb_len.1 hy))
        refine step k (m + 1) x y (by omega) hx hy h0 ?_
        by_cases h1 : x % y = 0
        · rw [h1]; exact stop (k + 1) (m + 1) y (by omega) (by omega)
        · refine step (k + 1) m y (x % y) (by omega) hy hl1 h1 ?_
          have hh := mod_half h0 h1
          refine ih (k + 1 + 1) m (x % y) (y % (x % y)) hl1 (lb_len.2 (Nat.lt_trans (Nat.mod_lt y (Nat.pos_of_ne_zero h1)) (lb_len.1 hl1))) ?_ (by omega) (by omega)
          rw [Nat.pow_succ] at hlt; omega
  have h1 : (lb (nv a)).length ≤ K := Nat.le_trans (lb_len.2 (nv_lt a)) (by omega)
  have h2 : (lb (nv b)).length ≤ K := Nat.le_trans (lb_len.2 (nv_lt b)) (by omega)
  have hlt : nv b < 2 ^ J := by
    refine Nat.lt_of_lt_of_le (nv_lt b) ?_
    rw [B_two]
    exact Nat.pow_le_pow_right (by decide) (by omega)
  exact key J 0 100001 _ _ h1 h2 hlt (by omega) (by omega)
/-- Are two lists the same? -/
theorem eq_loop {α : Type} [DecidableEq α] {P : Program} {md : Nat → FMode} (f : α → D) (hf : ∀ x y, (f x).toInt = (f y).toInt → x = y) (a b : List α) (hlen : a.length = b.length) (hbig : a.length ≤ 9223372036854775807) (L : Nat → Int → Tree)
    (hL : ∀ m i, L (m + 1) i = .br (decide (i < ((a.map f).length : Int))) (.br (decide (0 ≤ i)) (.br (decide (i < ((a.map f).length : Int))) (.br (decide (0 ≤ i)) (.br (decide (i < ((b.map f).length : Int)))
      (.br ((((a.map f).getD (Int.toNat i) D.nil).toInt) != (((b.map f).getD (Int.toNat i) D.nil).toInt)) (.ret [D.bool false]) (L m (IntKind.wrap .i64 (i + 1)))) .fail) .fail) .fail) .fail) (.ret [D.bool true])) :
    (L (a.length + 1) 0).wp P md (fun zs => zs = [.bool (decide (a = b))]) := by
  have key := loop_up (P := P) (md := md) a.length (fun m k (_ : Unit) => L m (k : Int)) (fun _ _ => [.bool (decide (a = b))]) (fun k _ => a.take k = b.take k)
    (fun m s h => by
      simp only [hL, List.length_map]
      refine wp_ndec (by omega) (wp_ret ?_)
      rw [List.take_of_length_le (Nat.le_refl _), List.take_of_length_le (by omega)] at h
      rw [decide_eq_true h])
    (fun m k s hk h ih => by
      have ha : a[k]? = some a[k] := List.getElem?_eq_getElem _
      have hb : b[k]? = some (b[k]'(by omega)) := List.getElem?_eq_getElem _
      simp only [hL, List.length_map, Int.toNat_natCast, getD_map ha, getD_map hb, int_bne]
      refine wp_dec (by omega) (wp_dec (by omega) (wp_dec (by omega) (wp_dec (by omega) (wp_dec (by omega) (wp_decs (fun hne => wp_ret ?_) (fun heq => ?_))))))
      · rw [decide_eq_false]
        rintro rfl
        exact hne rfl
      · rw [wrap_succ (by omega)]
        refine ih () ?_
        have : a[k] = b[k] := hf _ _ (Classical.not_not.1 heq)
        rw [List.take_succ_eq_append_getElem hk, List.take_succ_eq_append_getElem (by omega), h, this])
    (a.length + 1) 0 () (by omega) (by omega) (by simp)
  exact key
theorem dB_inj {k : Nat} (x y : BitVec k) (h : (dB x).toInt = (dB y).toInt) : x = y := BitVec.eq_of_toNat_eq (Int.ofNat.inj h)
theorem dint_inj (x y : Int) (h : (D.int x).toInt = (D.int y).toInt) : x = y := h
theorem ref02_Same_sp (a b : List Limb) (ha : a.length ≤ 9223372036854775807) : Sp 116 [dL a, dL b] [.bool (decide (a = b))] := by
  refine sound_ (a.length + 1) (ref02_Same_tree _ _ _) ?_
  simp only [els_dL, List.length_map, int_bne]
  refine wp_decs (fun h => wp_ret ?_) (fun h => ?_)
  · rw [decide_eq_false]; rintro rfl; exact h rfl
  · exact eq_loop dB dB_inj a b (by omega) ha (fun m i => ref02_Same_l4 (a.length + 1) m (dL a) (dL b) i) (fun m i => ref02_Same_l4_succ _ _ _ _ _)
end Go.Proofs.Ytfnmaeniekggeaa
set_option maxRecDepth 100000
namespace Go.Proofs.Ytfnmaeniekggeaa

structure Wh where
  neg : Bool
  mag : List Limb
def dW (w : Wh) : D := .agg [.bool w.neg, dL w.mag]
def zv (w : Wh) : Int := if w.neg then -(nv w.mag : Int) else (nv w.mag : Int)
def wz (z : Int) : Wh := ⟨decide (z < 0), lb z.natAbs⟩
@[simp] theorem dW_0 (w : Wh) : (dW w).fld 0 = .bool w.neg := rfl
@[simp] theorem dW_1 (w : Wh) : (dW w).fld 1 = dL w.mag := rfl
theorem dW_mk (b : Bool) (l : List Limb) : D.agg [.bool b, dL l] = dW ⟨b, l⟩ := rfl
theorem dW_zero : D.agg [.bool false, .sl []] = dW (wz 0) := by simp [dW, wz, lb_zero, dL]
theorem zv_abs (w : Wh) : (zv w).natAbs = nv w.mag := by unfold zv; split <;> omega
theorem wz_len (w : Wh) : (lb (zv w).natAbs).length ≤ w.mag.length := by rw [zv_abs]; exact lb_len.2 (nv_lt _)
theorem zv_wz (z : Int) : zv (wz z) = z := by
  unfold zv wz
  simp only [nv_lb, decide_eq_true_eq]
  split <;> omega
theorem zv_lb (b : Bool) (n : Nat) : zv ⟨b, lb n⟩ = if b then -(n : Int) else (n : Int) := by simp only [zv, nv_lb]
theorem wz_zero : wz 0 = ⟨false, []⟩ := by simp [wz, lb_zero]
theorem wz_of (b : Bool) {n : Nat} (h : n ≠ 0) : wz (if b then -(n : Int) else (n : Int)) = ⟨b, lb n⟩ := by
  cases b <;> simp [wz] <;> omega
theorem wz_zv (w : Wh) : wz (zv w) = if nv w.mag = 0 then ⟨false, []⟩ else ⟨w.neg, lb (nv w.mag)⟩ := by
  split
  · rename_i h
    unfold zv; rw [h]; simp [wz_zero]
  · rename_i h
    unfold zv
    exact wz_of _ h
theorem bool_beq (a b : Bool) : (a == b) = decide (a = b) := by cases a <;> cases b <;> rfl
def inR (z : Int) : Prop := -9223372036854775808 ≤ z ∧ z ≤ 9223372036854775807
instance (z : Int) : Decidable (inR z) := by unfold inR; infer_instance
/-- A number as an int. -/
def smallZ (z : Int) : List D := if inR z then [.int z, .bool true] else [.int 0, .bool false]
def sgnZ (z : Int) : Int := if z < 0 then -1 else if z = 0 then 0 else 1
def cmpZ (x y : Int) : Int := if x < y then -1 else if x = y then 0 else 1
theorem ref03_Norm_sp (w : Wh) (h : w.mag.length ≤ 1000000) : Sp 135 [dW w] [dW (wz (zv w))] := by
  refine sound_ 0 (ref03_Norm_tree _ _) (wp_call (ref02_Norm_sp w.mag h) ?_)
  simp only [getD_c0, els_dL, List.length_map, int_beq, dW_0, toBool_bool]
  refine wp_decs (fun h => wp_ret ?_) (fun h => wp_ret ?_)
  · have h0 : nv w.mag = 0 := lb_len0.1 (by omega)
    rw [wz_zv, if_pos h0]; rfl
  · have h0 : nv w.mag ≠ 0 := fun hh => h (by rw [hh, lb_zero]; rfl)
    rw [wz_zv, if_neg h0]; rfl
theorem two_limbs {n : Nat} (h : n < 18446744073709551616) : nv [BitVec.ofNat 32 (n % 4294967296), BitVec.ofNat 32 (n / 4294967296)] = n := by
  simp only [nv, nv_nil]
  rw [ofNat_lt (by rw [B_eq]; omega), ofNat_lt (by rw [B_eq]; omega), B_eq]; omega
theorem ref03_Of_sp (z : Int) (h : inR z) : Sp 126 [.int z] [dW (wz z)] := by
  unfold inR at h
  refine sound_ 0 (ref03_Of_tree _ _) ?_
  simp only [toInt_int]
  refine wp_decs (fun h0 => ?_) (fun h0 => ?_)
  · obtain ⟨n, rfl⟩ : ∃ n : Nat, z = n := ⟨z.toNat, by omega⟩
    have e : [D.int (IntKind.wrap .u32 (Int.tmod (n : Int) 4294967296)), D.int (IntKind.wrap .u32 (IntKind.wrap .i64 (Int.tdiv (n : Int) 4294967296)))] = [BitVec.ofNat 32 (n % 4294967296), BitVec.ofNat 32 (n / 4294967296)].map dB := by
      rw [Int.tmod_eq_emod_of_nonneg (by omega), Int.tdiv_eq_ediv_of_nonneg (by omega), show (n : Int) % 4294967296 = ((n % 4294967296 : Nat) : Int) by omega, show (n : Int) / 4294967296 = ((n / 4294967296 : Nat) : Int) by omega,
        wrap64 (by omega) (by omega), wrapU32 (by omega) (by omega), wrapU32 (by omega) (by omega), dB_ofNat (by rw [B_eq]; omega), dB_ofNat (by rw [B_eq]; omega)]; rfl
    rw [e]
    have hv := two_limbs (n := n) (by omega)
    refine wp_tt (by decide) (wp_tt (by decide) (wp_call (ref03_Norm_sp ⟨false, [BitVec.ofNat 32 (n % 4294967296), BitVec.ofNat 32 (n / 4294967296)]⟩ (by simp)) (wp_ret ?_)))
    simp only [getD_c0, zv, hv]; rfl
  · obtain ⟨n, rfl⟩ : ∃ n : Nat, z = -1 - (n : Int) := ⟨(-1 - z).toNat, by omega⟩
    have e : [D.int (IntKind.wrap .u32 (Int.tmod (IntKind.wrap .i64 (-1 - (-1 - (n : Int)))) 4294967296)), D.int (IntKind.wrap .u32 (IntKind.wrap .i64 (Int.tdiv (IntKind.wrap .i64 (-1 - (-1 - (n : Int)))) 4294967296)))] = [BitVec.ofNat 32 (n % 4294967296), BitVec.ofNat 32 (n / 4294967296)].map dB := by
      rw [show (-1 : Int) - (-1 - (n : Int)) = (n : Int) by omega, wrap64 (x := (n : Int)) (by omega) (by omega), Int.tmod_eq_emod_of_nonneg (by omega), Int.tdiv_eq_ediv_of_nonneg (by omega), show (n : Int) % 4294967296 = ((n % 4294967296 : Nat) : Int) by omega, show (n : Int) / 4294967296 = ((n / 4294967296 : Nat) : Int) by omega,
        wrap64 (by omega) (by omega), wrapU32 (by omega) (by omega), wrapU32 (by omega) (by omega), dB_ofNat (by rw [B_eq]; omega), dB_ofNat (by rw [B_eq]; omega)]; rfl
    rw [e]
    have hv := two_limbs (n := n) (by omega)
    have sp := ref02_Add_sp [BitVec.ofNat 32 (n % 4294967296), BitVec.ofNat 32 (n / 4294967296)] [1] (by simp) (by simp)
    rw [hv, show nv [1] = 1 from rfl] at sp
    refine wp_tt (by decide) (wp_tt (by decide) (wp_call sp ?_))
    simp only [getD_c0]
    have hl : (lb (n + 1)).length ≤ 3 := lb_len.2 (by show n + 1 < 79228162514264337593543950336; omega)
    refine wp_call (ref03_Norm_sp ⟨true, lb (n + 1)⟩ (by simp only; omega)) (wp_ret ?_)
    simp only [getD_c0, zv_lb, if_true]
    rw [show -((n + 1 : Nat) : Int) = -1 - (n : Int) by omega]
theorem ref03_Neg_sp (w : Wh) (h : w.mag.length ≤ 1000000) : Sp 157 [dW w] [dW (wz (-zv w))] := by
  refine sound_ 0 (ref03_Neg_tree _ _) ?_
  simp only [dW_0, dW_1, toBool_bool]
  refine wp_call (ref03_Norm_sp ⟨!w.neg, w.mag⟩ h) (wp_ret ?_)
  simp only [getD_c0]
  rw [show zv ⟨!w.neg, w.mag⟩ = -zv w by unfold zv; cases w.neg <;> simp]
theorem ref03_Add_sp (a b : Wh) (ha : a.mag.length ≤ 10000) (hb : b.mag.length ≤ 10000) : Sp 156 [dW a, dW b] [dW (wz (zv a + zv b))] := by
  refine sound_ 0 (ref03_Add_tree _ _ _) (wp_call (ref03_Norm_sp a (by omega)) (wp_call (ref03_Norm_sp b (by omega)) ?_))
  have la := wz_len a
  have lb' := wz_len b
  generalize zv a = x at *
  generalize zv b = y at *
  simp only [getD_c0, dW_0, dW_1, toBool_bool, bool_beq, wz]
  have hadd : (lb (x.natAbs + y.natAbs)).length ≤ 10001 := by
    refine lb_len.2 ?_
    have h1 := lb_len.1 (Nat.le_trans la ha)
    have h2 := lb_len.1 (Nat.le_trans lb' hb)
    obtain ⟨K, hK⟩ : ∃ K, K = 10000 := ⟨_, rfl⟩
    rw [← hK] at h1 h2
    rw [show 10001 = K + 1 by omega, Nat.pow_succ, B_eq]
    rw [B_eq] at h1 h2
    omega
  have hsub : ∀ p q : Nat, (lb p).length ≤ 10000 → (lb (p - q)).length ≤ 10000 := fun p q hp => by
    obtain ⟨K, hK⟩ : ∃ K, K = 10000 := ⟨_, rfl⟩
    rw [← hK] at hp ⊢
    exact lb_len.2 (Nat.lt_of_le_of_lt (Nat.sub_le _ _) (lb_len.1 hp))
  refine wp_decs (fun h => ?_) (fun h => ?_)
  · have sp := ref02_Add_sp (lb x.natAbs) (lb y.natAbs) (by omega) (by omega)
    rw [nv_lb, nv_lb] at sp
    refine wp_call sp ?_
    simp only [getD_c0]
    refine wp_call (ref03_Norm_sp ⟨decide (x < 0), lb (x.natAbs + y.natAbs)⟩ (by simp only; omega)) (wp_ret ?_)
    simp only [getD_c0, zv_lb]
    have h' : x < 0 ↔ y < 0 := by simpa using h
    congr 2
    rw [show (if decide (x < 0) = true then -((x.natAbs + y.natAbs : Nat) : Int) else ((x.natAbs + y.natAbs : Nat) : Int)) = x + y by
      by_cases hx : x < 0 <;> simp [hx] <;> omega]
    rfl
  · have h' : ¬ (x < 0 ↔ y < 0) := by simpa using h
    have sp := ref02_Cmp_sp (lb x.natAbs) (lb y.natAbs) (by omega) (by omega)
    rw [nv_lb, nv_lb] at sp
    refine wp_call sp ?_
    simp only [getD_c0, toInt_int, cmpN]
    refine wp_decs (fun h2 => ?_) (fun h2 => ?_)
    · have sp := ref02_Sub_sp (lb x.natAbs) (lb y.natAbs) (by omega) (by omega)
      rw [nv_lb, nv_lb] at sp
      refine wp_call sp ?_
      simp only [getD_c0]
      refine wp_call (ref03_Norm_sp ⟨decide (x < 0), lb (x.natAbs - y.natAbs)⟩ (by simp only; have := hsub x.natAbs y.natAbs (by omega); omega)) (wp_ret ?_)
      simp only [getD_c0, zv_lb]
      have hge : y.natAbs ≤ x.natAbs := by split at h2 <;> omega
      rw [show (if decide (x < 0) = true then -((x.natAbs - y.natAbs : Nat) : Int) else ((x.natAbs - y.natAbs : Nat) : Int)) = x + y by
        by_cases hx : x < 0 <;> simp [hx] <;> omega]
      rfl
    · have sp := ref02_Sub_sp (lb y.natAbs) (lb x.natAbs) (by omega) (by omega)
      rw [nv_lb, nv_lb] at sp
      refine wp_call sp ?_
      simp only [getD_c0]
      refine wp_call (ref03_Norm_sp ⟨decide (y < 0), lb (y.natAbs - x.natAbs)⟩ (by simp only; have := hsub y.natAbs x.natAbs (by omega); omega)) (wp_ret ?_)
      simp only [getD_c0, zv_lb]
      have hge : x.natAbs < y.natAbs := by
        rcases Nat.lt_or_ge x.natAbs y.natAbs with h3 | h3
        · exact h3
        · rw [if_neg (by omega)] at h2; split at h2 <;> omega
      rw [show (if decide (y < 0) = true then -((y.natAbs - x.natAbs : Nat) : Int) else ((y.natAbs - x.natAbs : Nat) : Int)) = x + y by
        by_cases hx : y < 0 <;> simp [hx] <;> omega]
      rfl
theorem ref03_Sub_sp (a b : Wh) (ha : a.mag.length ≤ 10000) (hb : b.mag.length ≤ 10000) : Sp 146 [dW a, dW b] [dW (wz (zv a - zv b))] := by
  refine sound_ 0 (ref03_Sub_tree _ _ _) (wp_call (ref03_Neg_sp b (by omega)) ?_)
  simp only [getD_c0]
  have := wz_len b
  refine wp_call (ref03_Add_sp a (wz (-zv b)) ha (by simp only [wz, Int.natAbs_neg]; omega)) (wp_ret ?_)
  simp only [getD_c0, zv_wz, ← Int.sub_eq_add_neg]
theorem ref03_Sign_sp (a : Wh) (ha : a.mag.length ≤ 1000000) : Sp 145 [dW a] [.int (sgnZ (zv a))] := by
  refine sound_ 0 (ref03_Sign_tree _ _) (wp_call (ref03_Norm_sp a ha) ?_)
  generalize zv a = x
  simp only [getD_c0, dW_0, dW_1, els_dL, List.length_map, int_beq, toBool_bool, wz]
  have h0 : ((lb x.natAbs).length : Int) = 0 ↔ x = 0 := by rw [Int.natCast_eq_zero, lb_len0]; omega
  unfold sgnZ
  refine wp_decs (fun h => wp_ret ?_) (fun h => wp_decs (fun h2 => wp_ret ?_) (fun h2 => wp_ret ?_))
  · rw [if_neg (by have := h0.1 h; omega), if_pos (h0.1 h)]
  · rw [if_pos h2]
  · rw [if_neg h2, if_neg (fun hh => h (h0.2 hh))]
theorem sub_len {a b : Wh} {k : Nat} (ha : a.mag.length ≤ k) (hb : b.mag.length ≤ k) : (wz (zv a - zv b)).mag.length ≤ k + 1 := by
  simp only [wz]
  refine lb_len.2 ?_
  have h1 := lb_len.1 (Nat.le_trans (wz_len a) ha)
  have h2 := lb_len.1 (Nat.le_trans (wz_len b) hb)
  rw [Nat.pow_succ, B_eq]
  rw [B_eq] at h1 h2
  omega
theorem ref03_Cmp_sp (a b : Wh) (ha : a.mag.length ≤ 10000) (hb : b.mag.length ≤ 10000) : Sp 136 [dW a, dW b] [.int (cmpZ (zv a) (zv b))] := by
  refine sound_ 0 (ref03_Cmp_tree _ _ _) (wp_call (ref03_Sub_sp a b ha hb) ?_)
  simp only [getD_c0]
  have := sub_len ha hb
  refine wp_call (ref03_Sign_sp _ (by omega)) (wp_ret ?_)
  simp only [getD_c0, toInt_int, zv_wz]
  congr 2
  unfold sgnZ cmpZ
  split <;> split <;> first | rfl | omega | (split <;> split <;> first | rfl | omega) | (split <;> first | rfl | omega)
theorem mul_i64_small {x : Int} (h : inR (x * 4294967296)) : IntKind.wrap .i64 (x * 4294967296) = x * 4294967296 := wrap64 h.1 h.2
theorem ref03_Small_sp (a : Wh) (ha : a.mag.length ≤ 10000) : Sp 123 [dW a] (smallZ (zv a)) := by
  refine sound_ 10 (ref03_Small_tree _ _) (wp_call (ref03_Norm_sp a (by omega)) ?_)
  generalize zv a = z
  simp only [getD_c0, dW_0, dW_1, els_dL, List.length_map]
  refine wp_decs (fun h => wp_ret ?_) (fun h => ?_)
  · have : ¬ (lb z.natAbs).length ≤ 2 := by simp only [wz] at h; omega
    rw [lb_len] at this
    have : ¬ inR z := by
      intro hr
      apply this
      unfold inR at hr
      show z.natAbs < 18446744073709551616
      omega
    rw [smallZ, if_neg this]
  · have hl : (wz z).mag.length ≤ 2 := by omega
    have hof : ∀ y, inR y → (wz y).mag.length ≤ 2 := fun y hy => lb_len.2 (by unfold inR at hy; show y.natAbs < 18446744073709551616; omega)
    have r1 : inR 9223372036854775807 := by decide
    have r2 : inR (-9223372036854775808) := by decide
    refine wp_call (ref03_Of_sp _ r1) (wp_call (ref03_Cmp_sp (wz z) (wz 9223372036854775807) (by omega) (by have := hof _ r1; omega)) ?_)
    simp only [getD_c0, toInt_int, zv_wz, cmpZ]
    refine wp_decs (fun h2 => wp_ret ?_) (fun h2 => ?_)
    · rw [smallZ, if_neg]
      unfold inR
      split at h2
      · omega
      · split at h2 <;> omega
    · refine wp_call (ref03_Of_sp _ r2) (wp_call (ref03_Cmp_sp (wz z) (wz (-9223372036854775808)) (by omega) (by have := hof _ r2; omega)) ?_)
      simp only [getD_c0, toInt_int, zv_wz, cmpZ]
      refine wp_decs (fun h3 => wp_ret ?_) (fun h3 => ?_)
      · rw [smallZ, if_neg]
        unfold inR
        split at h3
        · omega
        · split at h3 <;> omega
      · have hz : inR z := by
          unfold inR
          constructor
          · split at h3 <;> omega
          · split at h2
            · omega
            · split at h2 <;> omega
        rw [smallZ, if_pos hz]
        have key := loop_down (P := Try.prog) (md := md) (fun m k (x : Int) => ref03_Small_l6 10 m x ((k : Int) - 1) (dW (wz z))) (fun _ _ => [.int z, .bool true])
          (fun k x => k ≤ (wz z).mag.length ∧ x = if z < 0 then -((z.natAbs / B ^ k : Nat) : Int) else ((z.natAbs / B ^ k : Nat) : Int))
          (fun m x ⟨_, hx⟩ => by
            simp only [ref03_Small_l6_succ]
            refine wp_ndec (by omega) (wp_ret ?_)
            rw [hx]
            simp only [Nat.pow_zero, Nat.div_one]
            congr 2
            split <;> omega)
          (fun m k x ⟨hk, hx⟩ ih => by
            have hk' : k < (lb z.natAbs).length := hk
            have hg : (lb z.natAbs)[k]? = some (lb z.natAbs)[k] := List.getElem?_eq_getElem _
            simp only [ref03_Small_l6_succ, show ((k + 1 : Nat) : Int) - 1 = (k : Int) by omega, dW_0, dW_1, els_dL, List.length_map, toBool_bool, Int.toNat_natCast]
            have e1 : (wz z).mag = lb z.natAbs := rfl
            have e2 : (wz z).neg = decide (z < 0) := rfl
            rw [e1, e2, getD_map hg, toInt_dB, nv_limb, nv_lb]
            have hd := Nat.mod_add_div (z.natAbs / B ^ k) B
            rw [Nat.div_div_eq_div_mul, ← Nat.pow_succ] at hd
            have hle : z.natAbs / B ^ k ≤ z.natAbs := Nat.div_le_self _ _
            have hm := Nat.mod_lt (z.natAbs / B ^ k) B_pos
            unfold inR at hz
            have ih' := ih (if z < 0 then -((z.natAbs / B ^ k : Nat) : Int) else ((z.natAbs / B ^ k : Nat) : Int)) ⟨by omega, rfl⟩
            generalize z.natAbs / B ^ k = p at *
            generalize z.natAbs / B ^ (k + 1) = q at *
            generalize p % B = r at *
            rw [B_eq] at hd hm
            refine wp_dec (by omega) (wp_decs (fun hn => ?_) (fun hn => ?_))
            · rw [if_pos hn] at hx ih'
              refine wp_dec (by omega) (wp_dec (by omega) ?_)
              rw [hx, wrap64 (x := -(q : Int) * 4294967296) (by omega) (by omega), wrap64 (x := (r : Int)) (by omega) (by omega), wrap64 (x := -(q : Int) * 4294967296 - r) (by omega) (by omega), wrap64 (by omega) (by omega), show -(q : Int) * 4294967296 - (r : Int) = -(p : Int) by omega]
              exact ih'
            · rw [if_neg hn] at hx ih'
              refine wp_dec (by omega) (wp_dec (by omega) ?_)
              rw [hx, wrap64 (x := (q : Int) * 4294967296) (by omega) (by omega), wrap64 (x := (r : Int)) (by omega) (by omega), wrap64 (x := (q : Int) * 4294967296 + r) (by omega) (by omega), wrap64 (by omega) (by omega), show (q : Int) * 4294967296 + (r : Int) = (p : Int) by omega]
              exact ih')
          10 (wz z).mag.length 0 (by omega) ⟨Nat.le_refl _, by
            have : z.natAbs / B ^ (wz z).mag.length = 0 := Nat.div_eq_of_lt (lb_len.1 (Nat.le_refl _))
            rw [this]; simp⟩
        rw [wrap64 (by omega) (by omega)]
        exact key
theorem nat_trim_sp (l : List Limb) (hl : l.length < 9223372036854775807) : Sp 152 [dL l] [dL (lb (nv l))] := by
  refine sound_ (l.length + 1) (nat_trim_tree _ _) ?_
  have := loop_down (P := Try.prog) (md := md) (fun m k (_ : Unit) => nat_trim_l2 (l.length + 1) m (dL l) (k : Int)) (fun _ _ => [dL (lb (nv l))]) (fun k _ => k ≤ l.length ∧ ∀ i, k ≤ i → (hi : i < l.length) → l[i] = 0)
    (fun m s ⟨h1, h2⟩ => by
      simp only [nat_trim_l2_succ, els_dL, List.length_map, List.length_take]
      refine wp_ndec (by omega) (wp_dec (by omega) (wp_dec (by omega) (wp_dec (by omega) (wp_ret ?_))))
      rw [lb_take (k := 0) (by omega) h2 (fun _ h => by omega), dL_take]; rfl)
    (fun m k s ⟨h1, h2⟩ ih => by
      have hk : l[k]? = some l[k] := List.getElem?_eq_getElem _
      simp only [nat_trim_l2_succ, els_dL, List.length_map, List.length_take, wrap_pred k (by omega), Int.toNat_natCast, getD_map hk, toInt_dB, int_beq]
      refine wp_dec (by omega) (wp_dec (by omega) (wp_dec (by omega) (wp_decs (fun h => ?_) (fun h => ?_))))
      · refine ih () ⟨by omega, fun i hi hlt => ?_⟩
        by_cases he : i = k
        · subst he; exact BitVec.eq_of_toNat_eq (by simp; omega)
        · exact h2 i (by omega) hlt
      · refine wp_dec (by omega) (wp_dec (by omega) (wp_dec (by omega) (wp_ret ?_)))
        rw [lb_take (k := k + 1) (by omega) h2 (fun _ _ hc => h (by have hc' : l[k] = 0 := hc; rw [hc']; rfl)), dL_take])
    (l.length + 1) l.length () (by omega) ⟨Nat.le_refl _, fun i h1 h2 => by omega⟩
  simpa using this
theorem nat_Norm_sp (l : List Limb) (hl : l.length ≤ 1000000) : Sp 141 [dL l] [dL (lb (nv l))] := by
  refine sound_ 0 (nat_Norm_tree _ _) (wp_call (nat_trim_sp l (by omega)) ?_)
  have h1 : (lb (nv l)).length ≤ l.length := lb_len.2 (nv_lt l)
  simp only [getD_c0, els_dL, List.length_map, List.length_replicate, Int.toNat_natCast]
  refine wp_dec (by omega) (wp_dec (by omega) (wp_dec (by unfold bigN; omega) (wp_ret ?_)))
  rw [List.take_of_length_le (by simp), List.drop_eq_nil_of_le (by simp), List.append_nil]; rfl
theorem whole_signed_sp (b : Bool) (n : Nat) : Sp 140 [.bool b, dL (lb n)] [dW (wz (if b then -(n : Int) else (n : Int)))] := by
  refine sound_ 0 (whole_signed_tree _ _ _) ?_
  simp only [els_dL, List.length_map, int_beq, toBool_bool]
  refine wp_decs (fun h => wp_ret ?_) (fun h => wp_ret ?_)
  · have : n = 0 := lb_len0.1 (by omega)
    subst this
    simp [dW_zero]
  · have : n ≠ 0 := fun hh => h (by rw [hh, lb_zero]; rfl)
    rw [wz_of _ this]; rfl
theorem whole_Norm_sp (w : Wh) (h : w.mag.length ≤ 1000000) : Sp 134 [dW w] [dW (wz (zv w))] := by
  refine sound_ 0 (whole_Norm_tree _ _) (wp_call (nat_Norm_sp w.mag h) ?_)
  simp only [getD_c0, dW_0, toBool_bool]
  exact wp_call (whole_signed_sp w.neg (nv w.mag)) (wp_ret rfl)
theorem u64_neg {z : Int} (h : z < 0) (h2 : -9223372036854775808 ≤ z) : IntKind.wrap .u64 (0 - IntKind.wrap .u64 z) = -z := by
  rw [IntKind.wrap_u64, IntKind.wrap_u64]; omega
theorem fdiv32 (x : Nat) : Int.fdiv (x : Int) (2 ^ (min (Int.toNat 32) (IntKind.bits .u64))) = ((x / 4294967296 : Nat) : Int) := by
  show Int.fdiv (x : Int) 4294967296 = _
  rw [Int.fdiv_eq_ediv_of_nonneg _ (by omega)]; omega
theorem whole_Of_sp (z : Int) (h : inR z) : Sp 130 [.int z] [dW (wz z)] := by
  unfold inR at h
  refine sound_ 0 (whole_Of_tree _ _) ?_
  simp only [toInt_int]
  have main : ∀ n : Nat, n < 18446744073709551616 → [D.int (IntKind.wrap .u32 (n : Int)), D.int (IntKind.wrap .u32 (Int.fdiv (n : Int) (2 ^ (min (Int.toNat 32) (IntKind.bits .u64)))))] = [BitVec.ofNat 32 (n % 4294967296), BitVec.ofNat 32 (n / 4294967296)].map dB := by
    intro n hn
    rw [fdiv32, wrapU32 (x := ((n / 4294967296 : Nat) : Int)) (by omega) (by omega), dB_ofNat (t := n / 4294967296) (by rw [B_eq]; omega), show IntKind.wrap .u32 (n : Int) = ((n % 4294967296 : Nat) : Int) by rw [IntKind.wrap_u32]; omega, dB_ofNat (t := n % 4294967296) (by rw [B_eq]; omega)]; rfl
  refine wp_decs (fun h0 => ?_) (fun h0 => ?_)
  · obtain ⟨n, hn⟩ : ∃ n : Nat, -z = n := ⟨(-z).toNat, by omega⟩
    rw [u64_neg h0 h.1, hn, main n (by omega)]
    simp only [h0, decide_true]
    have sp := nat_Norm_sp [BitVec.ofNat 32 (n % 4294967296), BitVec.ofNat 32 (n / 4294967296)] (by simp)
    rw [two_limbs (by omega)] at sp
    refine wp_dec (by omega) (wp_call sp ?_)
    simp only [getD_c0]
    refine wp_call (whole_signed_sp true n) (wp_ret ?_)
    simp only [getD_c0, if_true]
    rw [show -(n : Int) = z by omega]
  · obtain ⟨n, rfl⟩ : ∃ n : Nat, z = n := ⟨z.toNat, by omega⟩
    rw [wrapU64 (by omega) (by omega), main n (by omega)]
    simp only [h0, decide_false]
    have sp := nat_Norm_sp [BitVec.ofNat 32 (n % 4294967296), BitVec.ofNat 32 (n / 4294967296)] (by simp)
    rw [two_limbs (by omega)] at sp
    refine wp_dec (by omega) (wp_call sp ?_)
    simp only [getD_c0]
    exact wp_call (whole_signed_sp false n) (wp_ret rfl)
theorem or_limb {x d : Nat} (hx : x < 4294967296) (hd : d < 4294967296) : bits_ .or .u64 (x : Int) ((d * 4294967296 : Nat) : Int) = ((x + d * 4294967296 : Nat) : Int) := by
  have h := or_bits (BitVec.ofNat 64 x) (BitVec.ofNat 64 (d * 4294967296))
  rw [BitVec.toNat_or, BitVec.toNat_ofNat, BitVec.toNat_ofNat, Nat.mod_eq_of_lt (a := x) (by omega), Nat.mod_eq_of_lt (a := d * 4294967296) (by omega)] at h
  rw [h]
  congr 1
  have := Nat.two_pow_add_eq_or_of_lt (i := 32) (b := x) (by omega) d
  rw [show 2 ^ 32 * d = d * 4294967296 by omega] at this
  rw [Nat.or_comm, ← this]; omega
theorem whole_Small_sp (a : Wh) (ha : a.mag.length ≤ 1000000) : Sp 118 [dW a] (smallZ (zv a)) := by
  refine sound_ 10 (whole_Small_tree _ _) (wp_call (whole_Norm_sp a (by omega)) ?_)
  generalize zv a = z
  simp only [getD_c0, dW_0, dW_1, els_dL, List.length_map]
  refine wp_decs (fun h => wp_ret ?_) (fun h => ?_)
  · have : ¬ (lb z.natAbs).length ≤ 2 := by simp only [wz] at h; omega
    rw [lb_len] at this
    have : ¬ inR z := by
      intro hr
      apply this
      unfold inR at hr
      show z.natAbs < 18446744073709551616
      omega
    rw [smallZ, if_neg this]
  · have hl : (lb z.natAbs).length ≤ 2 := by simp only [wz] at h; omega
    have hlt : z.natAbs < 18446744073709551616 := lb_len.1 hl
    have fin : ∀ (m : Nat) (t : D) (k : Int), Tw (whole_Small_l6 10 (m + 1) (z.natAbs : Int) t k k (dW (wz z))) (smallZ z) := by
      intro m t k
      simp only [Tw, whole_Small_l6_succ, dW_0, toBool_bool, wz]
      refine wp_ndec (by omega) (wp_decs (fun hn => wp_decs (fun h2 => wp_ret ?_) (fun h2 => wp_ret ?_)) (fun hn => wp_decs (fun h2 => wp_ret ?_) (fun h2 => wp_ret ?_)))
      · rw [smallZ, if_neg]; unfold inR; omega
      · rw [smallZ, if_pos (by unfold inR; omega), IntKind.wrap_u64, IntKind.wrap_i64]
        congr 2
        omega
      · rw [smallZ, if_neg]; unfold inR; omega
      · rw [smallZ, if_pos (by unfold inR; omega), wrap64 (by omega) (by omega)]
        congr 2
        omega
    have one : ∀ (m : Nat) (l : List Limb) (t : Int) (k x : Nat) (d : Limb), k ≤ 1 → l[k]? = some d → (k : Int) < t → (k = 0 → x = 0) → x < 4294967296 → Tw (whole_Small_l6 10 m ((x + d.toNat * 4294967296 ^ k : Nat) : Int) (dL l) t ((k + 1 : Nat) : Int) (dW (wz z))) (smallZ z) → Tw (whole_Small_l6 10 (m + 1) (x : Int) (dL l) t (k : Int) (dW (wz z))) (smallZ z) := by
      intro m l t k x d hk hd ht hx hx2 hw
      have hkl : k < l.length := (List.getElem?_eq_some_iff.1 hd).1
      have hdl := limb_lt d
      rw [B_eq] at hdl
      simp only [Tw, whole_Small_l6_succ, els_dL, List.length_map, Int.toNat_natCast, getD_map hd, toInt_dB]
      rw [wrap64 (x := 32 * (k : Int)) (by omega) (by omega), wrapU64 (x := 32 * (k : Int)) (by omega) (by omega), wrapU64 (x := (d.toNat : Int)) (by omega) (by omega), wrap_succ (by omega)]
      refine wp_dec (by omega) (wp_dec (by omega) (wp_dec (by omega) (wp_dec (by omega) ?_)))
      have e : bits_ .or .u64 (x : Int) (IntKind.wrap .u64 ((d.toNat : Int) * 2 ^ (min (Int.toNat (32 * (k : Int))) (IntKind.bits .u64)))) = ((x + d.toNat * 4294967296 ^ k : Nat) : Int) := by
        rcases (by omega : k = 0 ∨ k = 1) with rfl | rfl
        · rw [hx rfl]
          show bits_ .or .u64 ((0 : Nat) : Int) (IntKind.wrap .u64 ((d.toNat : Int) * 1)) = _
          rw [Int.mul_one, wrapU64 (by omega) (by omega)]
          have := or_bits (0 : Lab) (BitVec.ofNat 64 d.toNat)
          rw [BitVec.toNat_or, BitVec.toNat_ofNat, Nat.mod_eq_of_lt (a := d.toNat) (by omega)] at this
          simpa using this
        · show bits_ .or .u64 (x : Int) (IntKind.wrap .u64 ((d.toNat : Int) * 4294967296)) = _
          rw [show (d.toNat : Int) * 4294967296 = ((d.toNat * 4294967296 : Nat) : Int) by omega, wrapU64 (by omega) (by omega), or_limb hx2 hdl]
          try simp
      rw [e]
      exact hw
    have hz0 : z.natAbs = nv (lb z.natAbs) := (nv_lb _).symm
    simp only [show (wz z).mag = lb z.natAbs from rfl]
    generalize hll : lb z.natAbs = ll at *
    match ll, hl with
    | [], _ =>
      have : z.natAbs = 0 := by simpa using hz0
      have hf := fin 9 (dL []) 0
      rw [this] at hf
      exact hf
    | [d], _ =>
      have : z.natAbs = d.toNat := by simpa [nv] using hz0
      refine one 9 [d] 1 0 0 d (by omega) rfl (by omega) (fun _ => rfl) (by omega) ?_
      have hf := fin 8 (dL [d]) 1
      rw [this] at hf
      simpa using hf
    | [d, e], _ =>
      have : z.natAbs = d.toNat + e.toNat * 4294967296 := by simp only [nv, nv_nil] at hz0; rw [B_eq] at hz0; omega
      have hdl := limb_lt d
      rw [B_eq] at hdl
      refine one 9 [d, e] 2 0 0 d (by omega) rfl (by omega) (fun _ => rfl) (by omega) ?_
      have := one 8 [d, e] 2 1 d.toNat e (by omega) rfl (by omega) (fun h => by omega) (by omega) (by
        have hf := fin 7 (dL [d, e]) 2
        rw [this] at hf
        simpa using hf)
      simpa using this
end Go.Proofs.Ytfnmaeniekggeaa
set_option maxRecDepth 100000
namespace Go.Proofs.Ytfnmaeniekggeaa

def numT (n : Num) : Int := zv ⟨n.neg, n.top⟩
def numB (n : Num) : Int := (nv n.bot : Int)
def ofZ (z : Int) : Num := ⟨decide (z < 0), lb z.natAbs, [1]⟩
def optI : Option Int → List D
  | some z => [.int z, .bool true]
  | none => [.int 0, .bool false]
def smO (z : Int) : Option Int := if inR z then some z else none
theorem smallZ_eq (z : Int) : smallZ z = optI (smO z) := by unfold smallZ smO; split <;> rfl
/-- A number as an int. -/
def smallN (n : Num) : Option Int := if n.bot = [1] then smO (numT n) else none
/-- In lowest terms; an error. -/
def mkR (p q : Int) : Num × Int :=
  if q = 0 then (.zero, 3)
  else if 32 < (lb (p.natAbs / Nat.gcd p.natAbs q.natAbs)).length ∨ 32 < (lb (q.natAbs / Nat.gcd p.natAbs q.natAbs)).length then (.zero, 7)
  else (⟨decide (0 < (lb (p.natAbs / Nat.gcd p.natAbs q.natAbs)).length) && !(decide (p < 0) == decide (q < 0)), lb (p.natAbs / Nat.gcd p.natAbs q.natAbs), lb (q.natAbs / Nat.gcd p.natAbs q.natAbs)⟩, 0)
def rightN (n : Num) : Bool := decide (n.top.length ≤ 32 ∧ n.bot.length ≤ 32 ∧ mkR (numT n) (numB n) = (n, 0))
theorem dN_zero : D.agg [.bool false, .sl [], .sl []] = dN .zero := rfl
theorem one_iff (l : List Limb) : (l = [1]) ↔ (l.length = 1 ∧ ∀ h : 0 < l.length, l[0].toNat = 1) := by
  constructor
  · rintro rfl; exact ⟨rfl, fun _ => rfl⟩
  · rintro ⟨h1, h2⟩
    match l, h1 with
    | [x], _ => have := h2 (by simp); simp at this; exact congrArg (· :: []) (BitVec.eq_of_toNat_eq (by simpa using this))
theorem one_tree {P : Program} {md : Nat → FMode} (l : List Limb) : (Tree.br (((l.map dB).length : Int) == 1) (.br (decide (0 ≤ (0 : Int))) (.br (decide (0 < ((l.map dB).length : Int))) (.ret [D.bool ((((l.map dB).getD (Int.toNat 0) D.nil).toInt) == 1)]) .fail) .fail) (.ret [D.bool false])).wp P md (fun zs => zs = [.bool (decide (l = [1]))]) := by
  simp only [List.length_map, int_beq]
  refine wp_decs (fun h => wp_dec (by omega) (wp_dec (by omega) (wp_ret ?_))) (fun h => wp_ret ?_)
  · have hg : l[0]? = some (l[0]'(by omega)) := List.getElem?_eq_getElem _
    rw [show Int.toNat 0 = 0 from rfl, getD_map hg, toInt_dB]
    congr 2
    rw [decide_eq_decide, one_iff]
    refine ⟨fun hh => ⟨by omega, fun _ => by omega⟩, fun hh => by have := hh.2 (by omega); omega⟩
  · rw [decide_eq_false]; rintro rfl; exact h rfl
theorem ref04_IsWhole_sp (n : Num) : Sp 122 [dN n] [.bool (decide (n.bot = [1]))] := by
  refine sound_ 0 (ref04_IsWhole_tree _ _) ?_
  simp only [dN_2, els_dL]
  exact one_tree n.bot
theorem ratio_isOne_sp (l : List Limb) : Sp 117 [dL l] [.bool (decide (l = [1]))] := by
  refine sound_ 0 (ratio_isOne_tree _ _) ?_
  simp only [els_dL]
  exact one_tree l
theorem ref04_Top_sp (n : Num) (h : n.top.length ≤ 1000000) : Sp 124 [dN n] [dW (wz (numT n))] := by
  refine sound_ 0 (ref04_Top_tree _ _) ?_
  simp only [dN_0, dN_1, toBool_bool]
  exact wp_call (ref03_Norm_sp ⟨n.neg, n.top⟩ h) (wp_ret rfl)
theorem ref04_Bot_sp (n : Num) (h : n.bot.length ≤ 1000000) : Sp 128 [dN n] [dW (wz (numB n))] := by
  refine sound_ 0 (ref04_Bot_tree _ _) ?_
  simp only [dN_2]
  exact wp_call (ref03_Norm_sp ⟨false, n.bot⟩ h) (wp_ret rfl)
theorem ref04_Whole_sp (w : Wh) (h : w.mag.length ≤ 1000000) : Sp 125 [dW w] [dN (ofZ (zv w))] := by
  refine sound_ 0 (ref04_Whole_tree _ _) (wp_call (ref03_Norm_sp w h) (wp_ret rfl))
theorem ref04_Of_sp (z : Int) (h : inR z) : Sp 101 [.int z] [dN (ofZ z)] := by
  refine sound_ 0 (ref04_Of_tree _ _) (wp_call (ref03_Of_sp z h) ?_)
  have hl : (wz z).mag.length ≤ 2 := lb_len.2 (by unfold inR at h; show z.natAbs < 18446744073709551616; omega)
  refine wp_call (ref04_Whole_sp (wz z) (by omega)) (wp_ret ?_)
  rw [zv_wz]; rfl
theorem ref04_Small_sp (n : Num) (h : n.top.length ≤ 10000) : Sp 100 [dN n] (optI (smallN n)) := by
  refine sound_ 0 (ref04_Small_tree _ _) (wp_call (ref04_IsWhole_sp n) ?_)
  simp only [getD_c0, toBool_bool, not_dec]
  unfold smallN
  refine wp_decs (fun h => wp_ret ?_) (fun h0 => ?_)
  · rw [if_neg h]; rfl
  · rw [if_pos (Classical.not_not.1 h0)]
    refine wp_call (ref04_Top_sp n (by omega)) ?_
    have hl : (wz (numT n)).mag.length ≤ n.top.length := wz_len ⟨n.neg, n.top⟩
    refine wp_call (ref03_Small_sp (wz (numT n)) (by omega)) ?_
    rw [zv_wz, smallZ_eq]
    cases smO (numT n) <;> exact wp_ret rfl
theorem ratio_top_sp (n : Num) : Sp 119 [dN n] [dW ⟨n.neg, n.top⟩] := sound_ 0 (ratio_top_tree _ _) (wp_ret rfl)
theorem ratio_Small_sp (n : Num) (h : n.top.length ≤ 1000000) : Sp 94 [dN n] (optI (smallN n)) := by
  refine sound_ 0 (ratio_Small_tree _ _) (wp_call (ratio_isOne_sp n.bot) ?_)
  simp only [getD_c0, toBool_bool, not_dec]
  unfold smallN
  refine wp_decs (fun h => wp_ret ?_) (fun h0 => ?_)
  · rw [if_neg h]; rfl
  · rw [if_pos (Classical.not_not.1 h0)]
    refine wp_call (ratio_top_sp n) (wp_call (whole_Small_sp ⟨n.neg, n.top⟩ h) ?_)
    rw [smallZ_eq, show zv ⟨n.neg, n.top⟩ = numT n from rfl]
    cases smO (numT n) <;> exact wp_ret rfl
/-- A whole number, if it is not too great. -/
def wholeN (z : Int) : Num := if 32 < (lb z.natAbs).length then .zero else ofZ z
theorem ratio_Whole_sp (w : Wh) (h : w.mag.length ≤ 1000000) : Sp 129 [dW w] [dN (wholeN (zv w))] := by
  refine sound_ 0 (ratio_Whole_tree _ _) (wp_call (whole_Norm_sp w h) ?_)
  simp only [getD_c0, dW_0, dW_1, els_dL, List.length_map, toBool_bool]
  unfold wholeN
  refine wp_decs (fun h => wp_ret ?_) (fun h => wp_ret ?_)
  · rw [if_pos (by simp only [wz] at h; omega)]; rfl
  · rw [if_neg (by simp only [wz] at h; omega)]; rfl
theorem ratio_Of_sp (z : Int) (h : inR z) : Sp 105 [.int z] [dN (ofZ z)] := by
  refine sound_ 0 (ratio_Of_tree _ _) (wp_call (whole_Of_sp z h) ?_)
  have hl : (wz z).mag.length ≤ 2 := lb_len.2 (by unfold inR at h; show z.natAbs < 18446744073709551616; omega)
  refine wp_call (ratio_Whole_sp (wz z) (by omega)) (wp_ret ?_)
  rw [zv_wz, wholeN, if_neg (by simp only [wz] at hl; omega)]; rfl
theorem num_eq (a b : Num) : (a = b) ↔ (a.neg = b.neg ∧ a.top = b.top ∧ a.bot = b.bot) := by
  cases a; cases b; simp
theorem ref04_Same_sp (a b : Num) (h1 : a.top.length ≤ 9223372036854775807) (h2 : a.bot.length ≤ 9223372036854775807) : Sp 93 [dN a, dN b] [.bool (decide (a = b))] := by
  refine sound_ 0 (ref04_Same_tree _ _ _) ?_
  simp only [dN_0, dN_1, dN_2, toBool_bool, bool_beq]
  refine wp_decs (fun e1 => wp_call (ref02_Same_sp a.top b.top h1) ?_) (fun e1 => wp_ret ?_)
  · simp only [getD_c0, toBool_bool]
    refine wp_decs (fun e2 => wp_call (ref02_Same_sp a.bot b.bot h2) (wp_ret ?_)) (fun e2 => wp_ret ?_)
    · simp only [getD_c0, toBool_bool]
      congr 2
      rw [decide_eq_decide, num_eq]; simp [e1, e2]
    · rw [decide_eq_false]; rintro rfl; exact e2 rfl
  · rw [decide_eq_false]; rintro rfl; exact e1 rfl
theorem slices_EqualU_sp (a b : List Limb) (ha : a.length ≤ 9223372036854775807) : Sp 131 [dL a, dL b] [.bool (decide (a = b))] := by
  refine sound_ (a.length + 1) (slices_Equal_uint32_uint32_tree _ _ _) ?_
  simp only [els_dL, List.length_map, int_bne]
  refine wp_decs (fun h => wp_ret ?_) (fun h => ?_)
  · rw [decide_eq_false]; rintro rfl; exact h rfl
  · refine eq_loop dB dB_inj a b (by omega) ha (fun m i => slices_Equal_uint32_uint32_l4 (a.length + 1) m (dL a) (dL b) (a.length : Int) i) (fun m i => ?_)
    rw [slices_Equal_uint32_uint32_l4_succ]
    simp only [els_dL, List.length_map]
theorem slices_EqualI_sp (a b : List Int) (ha : a.length ≤ 9223372036854775807) : Sp 106 [dI a, dI b] [.bool (decide (a = b))] := by
  refine sound_ (a.length + 1) (slices_Equal_int_int_tree _ _ _) ?_
  simp only [els_dI, List.length_map, int_bne]
  refine wp_decs (fun h => wp_ret ?_) (fun h => ?_)
  · rw [decide_eq_false]; rintro rfl; exact h rfl
  · refine eq_loop D.int dint_inj a b (by omega) ha (fun m i => slices_Equal_int_int_l4 (a.length + 1) m (dI a) (dI b) (a.length : Int) i) (fun m i => ?_)
    rw [slices_Equal_int_int_l4_succ]
    simp only [els_dI, List.length_map]
theorem ratio_Same_sp (a b : Num) (h1 : a.top.length ≤ 9223372036854775807) (h2 : a.bot.length ≤ 9223372036854775807) : Sp 109 [dN a, dN b] [.bool (decide (a = b))] := by
  refine sound_ 0 (ratio_Same_tree _ _ _) ?_
  simp only [dN_0, dN_1, dN_2, toBool_bool, bool_beq]
  refine wp_decs (fun e1 => wp_call (slices_EqualU_sp a.top b.top h1) ?_) (fun e1 => wp_ret ?_)
  · simp only [getD_c0, toBool_bool]
    refine wp_decs (fun e2 => wp_call (slices_EqualU_sp a.bot b.bot h2) (wp_ret ?_)) (fun e2 => wp_ret ?_)
    · simp only [getD_c0, toBool_bool]
      congr 2
      rw [decide_eq_decide, num_eq]; simp [e1, e2]
    · rw [decide_eq_false]; rintro rfl; exact e2 rfl
  · rw [decide_eq_false]; rintro rfl; exact e1 rfl
theorem ref04_Make_sp (p q : Wh) (hp : p.mag.length ≤ 1000) (hq : q.mag.length ≤ 1000) : Sp 127 [dW p, dW q] [dN (mkR (zv p) (zv q)).1, .int (mkR (zv p) (zv q)).2] := by
  refine sound_ 0 (ref04_Make_tree _ _ _) (wp_call (ref03_Norm_sp p (by omega)) (wp_call (ref03_Norm_sp q (by omega)) ?_))
  have lp := wz_len p
  have lq := wz_len q
  generalize zv p = x at *
  generalize zv q = y at *
  simp only [getD_c0, dW_0, dW_1, els_dL, List.length_map, toBool_bool, int_beq, wz]
  refine wp_decs (fun h => wp_ret ?_) (fun h => ?_)
  · have : y = 0 := by have := lb_len0.1 (show (lb y.natAbs).length = 0 by omega); omega
    unfold mkR; rw [if_pos this]; rfl
  · have hy : y ≠ 0 := fun hh => h (by rw [hh]; simp [lb_zero])
    have sp := ref02_Gcd_sp (lb x.natAbs) (lb y.natAbs) (by omega) (by omega)
    rw [nv_lb, nv_lb] at sp
    refine wp_call sp ?_
    simp only [getD_c0]
    have hg : Nat.gcd x.natAbs y.natAbs ≠ 0 := fun hh => hy (by have := (Nat.gcd_eq_zero_iff.1 hh).2; omega)
    have hgl : (lb (Nat.gcd x.natAbs y.natAbs)).length ≤ 1000 := by
      refine Nat.le_trans ?_ (Nat.le_trans lq hq)
      refine lb_len.2 (Nat.lt_of_le_of_lt (Nat.gcd_le_right _ (by omega)) (lb_len.1 (Nat.le_refl _)))
    have sp1 := ref02_DivMod_sp (lb x.natAbs) (lb (Nat.gcd x.natAbs y.natAbs)) (by omega) (by omega)
    have sp2 := ref02_DivMod_sp (lb y.natAbs) (lb (Nat.gcd x.natAbs y.natAbs)) (by omega) (by omega)
    rw [nv_lb, nv_lb] at sp1 sp2
    refine wp_call sp1 (wp_call sp2 ?_)
    simp only [getD_c0, els_dL, List.length_map]
    unfold mkR
    rw [if_neg hy]
    refine wp_decs (fun h1 => wp_ret ?_) (fun h1 => wp_decs (fun h2 => wp_ret ?_) (fun h2 => wp_decs (fun h3 => wp_ret ?_) (fun h3 => wp_ret ?_)))
    · rw [if_pos (by omega)]; rfl
    · rw [if_pos (by omega)]; rfl
    · rw [if_neg (by omega), decide_eq_true (p := 0 < (lb (x.natAbs / Nat.gcd x.natAbs y.natAbs)).length) (by omega), Bool.true_and]; rfl
    · rw [if_neg (by omega), decide_eq_false (p := 0 < (lb (x.natAbs / Nat.gcd x.natAbs y.natAbs)).length) (by omega), Bool.false_and]; rfl
theorem ref04_Right_sp (n : Num) : Sp 102 [dN n] [.bool (rightN n)] := by
  refine sound_ 0 (ref04_Right_tree _ _) ?_
  simp only [dN_1, dN_2, els_dL, List.length_map]
  unfold rightN
  refine wp_decs (fun h => wp_ret ?_) (fun h => wp_decs (fun h' => wp_ret ?_) (fun h' => ?_))
  · rw [decide_eq_false (by omega)]
  · rw [decide_eq_false (by omega)]
  · refine wp_call (ref04_Top_sp n (by omega)) (wp_call (ref04_Bot_sp n (by omega)) ?_)
    have l1 : (wz (numT n)).mag.length ≤ n.top.length := wz_len ⟨n.neg, n.top⟩
    have l2 : (wz (numB n)).mag.length ≤ n.bot.length := wz_len ⟨false, n.bot⟩
    refine wp_call (ref04_Make_sp (wz (numT n)) (wz (numB n)) (by omega) (by omega)) ?_
    simp only [getD_c0, getD_c1, toInt_int, int_beq, zv_wz]
    generalize mkR (numT n) (numB n) = r
    refine wp_decs (fun h3 => wp_call (ref04_Same_sp n r.1 (by omega) (by omega)) (wp_ret ?_)) (fun h3 => wp_ret ?_)
    · simp only [getD_c0, toBool_bool]
      congr 2
      rw [decide_eq_decide]
      refine ⟨fun hh => ⟨by omega, by omega, by rw [hh]; exact Prod.ext rfl h3⟩, fun hh => by rw [hh.2.2]⟩
    · rw [decide_eq_false]
      rintro ⟨_, _, hh⟩
      exact h3 (by rw [hh])
end Go.Proofs.Ytfnmaeniekggeaa
set_option maxRecDepth 100000
namespace Go.Proofs.Ytfnmaeniekggeaa
/-! scrim/scrimref06.May -/
def ref06_May_orc : List (Nat × Orc) := []
theorem ref06_May_tree (n : Nat) (c0 : D) : evFun Try.prog md ref06_May_orc n 104 [] [c0] =
 .br (decide (0 ≤ c0.toInt)) (.br (decide (c0.toInt ≤ 1114111)) (.br (decide (c0.toInt < 55296)) (.ret [D.bool true])
 (.ret [D.bool (decide (57343 < c0.toInt))]))
 (.ret [D.bool false]))
 (.ret [D.bool false]) := by kernel_rfl

/-! scrim/glyph.May -/
def glyph_May_orc : List (Nat × Orc) := []
theorem glyph_May_tree (n : Nat) (c0 : D) : evFun Try.prog md glyph_May_orc n 133 [] [c0] =
 .br (decide ((0 : Int) ≤ c0.toInt)) (.br (decide (c0.toInt ≤ 1114111)) (.br (decide (c0.toInt < 55296)) (.ret [D.bool true])
 (.ret [D.bool (decide (57343 < c0.toInt))]))
 (.ret [D.bool false]))
 (.ret [D.bool false]) := by kernel_rfl

end Go.Proofs.Ytfnmaeniekggeaa
set_option maxRecDepth 100000
namespace Go.Proofs.Ytfnmaeniekggeaa

theorem bigFuel : ∃ N : Nat, 9223372036854775808 < N := ⟨9223372036854775809, by decide⟩
/-- A loop along a list, whatever is told at its end. -/
theorem loop_any {α σ : Type} {P : Program} {md : Nat → FMode} {Q : List D → Prop} (xs : List α) (L : Nat → Nat → σ → Tree) (I : List α → σ → Prop)
    (hnil : ∀ m k s, k = xs.length → I [] s → (L (m + 1) k s).wp P md Q)
    (hcons : ∀ m k s x rest, xs.drop k = x :: rest → I (x :: rest) s → (∀ s', I rest s' → (L m (k + 1) s').wp P md Q) → (L (m + 1) k s).wp P md Q) :
    ∀ m k s, xs.length - k < m → k ≤ xs.length → I (xs.drop k) s → (L m k s).wp P md Q := by
  intro m
  induction m with
  | zero => intro k s h; omega
  | succ m ih =>
    intro k s h1 h2 hI
    cases hd : xs.drop k with
    | nil => rw [hd] at hI; exact hnil m k s (by have := drop_nil hd; omega) hI
    | cons x rest =>
      rw [hd] at hI
      obtain ⟨a1, a2, a3⟩ := drop_cons hd
      exact hcons m k s x rest hd hI (fun s' hI' => ih (k + 1) s' (by omega) (by omega) (by rw [a3]; exact hI'))
/-- The product of lengths; 0 if it is too great. -/
def prodS : List Int → Int → Int
  | [], p => p
  | x :: xs, p => if 2048 < p * x then 0 else prodS xs (p * x)
/-- How many cells; an error. -/
def countS (l : List Int) : Int × Int :=
  if 6 < l.length then (0, 7) else if l.any (fun x => decide (x < 0)) then (0, 3) else if l.any (fun x => decide (2048 < x)) then (0, 7)
  else if l.any (fun x => decide (x = 0)) then (0, 0) else if prodS l 1 = 0 then (0, 7) else (prodS l 1, 0)
theorem prod_le {x y : Int} (h1 : 1 ≤ x) (h2 : x ≤ 2048) (h3 : 1 ≤ y) (h4 : y ≤ 2048) : 1 ≤ x * y ∧ x * y ≤ 4194304 := by
  constructor
  · have := Int.mul_le_mul h1 h3 (by omega) (by omega); omega
  · have := Int.mul_le_mul h2 h4 (by omega) (by omega); omega
theorem prodS_pos : ∀ (l : List Int) (p : Int), 1 ≤ p → p ≤ 2048 → (∀ x ∈ l, 1 ≤ x ∧ x ≤ 2048) → 0 ≤ prodS l p ∧ prodS l p ≤ 2048
  | [], p, h1, h2, _ => by simp only [prodS]; omega
  | x :: xs, p, h1, h2, h => by
    simp only [prodS]
    have hx := h x (by simp)
    have := prod_le h1 h2 hx.1 hx.2
    split
    · omega
    · exact prodS_pos xs (p * x) this.1 (by omega) (fun y hy => h y (by simp [hy]))
theorem any_false {l : List Int} {p : Int → Bool} (h : ¬ l.any p = true) : ∀ x ∈ l, p x = false := fun x hx => by
  cases hp : p x with
  | false => rfl
  | true => exact absurd (List.any_eq_true.2 ⟨x, hx, hp⟩) h
theorem count_pos {l : List Int} (h1 : ¬ l.any (fun x => decide (x < 0)) = true) (h2 : ¬ l.any (fun x => decide (2048 < x)) = true) (h3 : ¬ l.any (fun x => decide (x = 0)) = true) : ∀ x ∈ l, 1 ≤ x ∧ x ≤ 2048 := fun x hx => by
  have a := of_decide_eq_false (any_false h1 x hx)
  have b := of_decide_eq_false (any_false h2 x hx)
  have c := of_decide_eq_false (any_false h3 x hx)
  omega
theorem countS_le (l : List Int) : 0 ≤ (countS l).1 ∧ (countS l).1 ≤ 2048 := by
  unfold countS
  split
  · decide
  split
  · decide
  split
  · decide
  split
  · decide
  split
  · decide
  · rename_i h1 h2 h3 h4 _; exact prodS_pos l 1 (by decide) (by decide) (count_pos h2 h3 h4)
theorem countS_len {l : List Int} (h : (countS l).2 = 0) : l.length ≤ 6 ∧ ∀ x ∈ l, 0 ≤ x ∧ x ≤ 2048 := by
  unfold countS at h
  split at h
  · cases h
  split at h
  · cases h
  split at h
  · cases h
  · rename_i h1 h2 h3
    refine ⟨by omega, fun x hx => ?_⟩
    have a := of_decide_eq_false (any_false h2 x hx)
    have b := of_decide_eq_false (any_false h3 x hx)
    omega
/-- The first place of one that is asked for. -/
def idxD (p : Int → Bool) : Nat → List Int → Int
  | _, [] => -1
  | k, x :: xs => if p x then (k : Int) else idxD p (k + 1) xs
def cpD (p : Int) : List D := if p = 0 then [.int 0, .int 7] else [.int p, .int 0]
theorem prodS_cons (x : Int) (xs : List Int) (p : Int) : prodS (x :: xs) p = if 2048 < p * x then 0 else prodS xs (p * x) := rfl
theorem idxD_cons (p : Int → Bool) (k : Nat) (x : Int) (xs : List Int) : idxD p k (x :: xs) = if p x then (k : Int) else idxD p (k + 1) xs := rfl
theorem ref07_Count2 (N : Nat) (l : List Int) (hl : l.length < N) (hb : l.length ≤ 6) (hx : ∀ x ∈ l, 1 ≤ x ∧ x ≤ 2048) : Tw (ref07_Count_l17 N N (dI l) 1 0) (cpD (prodS l 1)) := by
  have key := loop_list (P := Try.prog) (md := md) l (fun m k (p : Int) => ref07_Count_l17 N m (dI l) p (k : Int)) (fun rest p => cpD (prodS rest p)) (fun _ p => 1 ≤ p ∧ p ≤ 2048)
    (fun m k p hk hI => by
      simp only [ref07_Count_l17_succ, els_dI, List.length_map]
      refine wp_ndec (by omega) (wp_ret ?_)
      show _ = cpD p
      rw [cpD, if_neg (by omega)])
    (fun m k p x rest hd hI ih => by
      obtain ⟨h1, h2, h3⟩ := drop_cons hd
      have hxx := hx x (List.mem_of_getElem? h2)
      have hp := prod_le hI.1 hI.2 hxx.1 hxx.2
      simp only [ref07_Count_l17_succ, els_dI, List.length_map, Int.toNat_natCast, getD_map h2, toInt_int, wrap_succ (show k < 9223372036854775807 by omega), wrap64 (x := p * x) (by omega) (by omega)]
      repeat (refine wp_dec (by omega) ?_)
      rw [prodS_cons]
      refine wp_decs (fun h => wp_ret ?_) (fun h => ?_)
      · rw [if_pos h]; rfl
      · rw [if_neg h]; exact ih _ ⟨hp.1, by omega⟩)
    N 0 1 (by omega) (by omega) (by decide)
  exact key
theorem ref07_Count_sp (l : List Int) : Sp 71 [dI l] [.int (countS l).1, .int (countS l).2] := by
  refine sound_ (l.length + 1) (ref07_Count_tree _ _) ?_
  simp only [els_dI, List.length_map]
  unfold countS
  refine wp_decs (fun h => wp_ret ?_) (fun h => ?_)
  · rw [if_pos (by omega)]
  · rw [if_neg (by omega)]
    have key := loop_list (P := Try.prog) (md := md) l (fun m k (s : Bool × Bool) => ref07_Count_l5 (l.length + 1) m (dI l) s.1 s.2 (k : Int))
      (fun rest s => if rest.any (fun x => decide (x < 0)) then [.int 0, .int 3] else if s.1 || rest.any (fun x => decide (2048 < x)) then [.int 0, .int 7] else if s.2 || rest.any (fun x => decide (x = 0)) then [.int 0, .int 0] else cpD (prodS l 1))
      (fun rest s => (∀ x ∈ l, (0 ≤ x ∧ (s.1 = true ∨ x ≤ 2048) ∧ (s.2 = true ∨ x ≠ 0)) ∨ x ∈ rest))
      (fun m k s hk hI => by
        simp only [ref07_Count_l5_succ, els_dI, List.length_map]
        refine wp_ndec (by omega) (wp_br (fun h1 => wp_ret ?_) (fun h1 => wp_br (fun h2 => wp_ret ?_) (fun h2 => ?_)))
        · simp [h1]
        · simp [h1, h2]
        · simp only [h1, h2, List.any_nil, Bool.or_self, Bool.false_eq_true, if_false]
          refine ref07_Count2 (l.length + 1) l (by omega) (by omega) (fun x hx => ?_)
          rcases hI x hx with ⟨a, b, c⟩ | b
          · rw [h1] at b; rw [h2] at c
            simp at b c
            omega
          · cases b)
      (fun m k s x rest hd hI ih => by
        obtain ⟨h1, h2, h3⟩ := drop_cons hd
        simp only [ref07_Count_l5_succ, els_dI, List.length_map, Int.toNat_natCast, getD_map h2, toInt_int, wrap_succ (show k < 9223372036854775807 by omega), int_beq]
        repeat (refine wp_dec (by omega) ?_)
        refine wp_decs (fun h => wp_ret ?_) (fun h => ?_)
        · simp [h]
        · have hih : ∀ s' : Bool × Bool, s' = (s.1 || decide (2048 < x), s.2 || decide (x = 0)) → Tw (ref07_Count_l5 (l.length + 1) m (dI l) s'.1 s'.2 ((k + 1 : Nat) : Int)) (if (x :: rest).any (fun x => decide (x < 0)) then [.int 0, .int 3] else if s.1 || (x :: rest).any (fun x => decide (2048 < x)) then [.int 0, .int 7] else if s.2 || (x :: rest).any (fun x => decide (x = 0)) then [.int 0, .int 0] else cpD (prodS l 1)) := fun s' hs' => by
            have := ih s' (fun y hy => by
              subst hs'
              rcases hI y hy with ⟨a, b, c⟩ | b
              · refine .inl ⟨a, ?_, ?_⟩
                · rcases b with b | b
                  · left; simp [b]
                  · right; exact b
                · rcases c with b | b
                  · left; simp [b]
                  · right; exact b
              · rcases List.mem_cons.1 b with rfl | b
                · left
                  refine ⟨by omega, ?_, ?_⟩
                  · by_cases hh : 2048 < y
                    · left; simp [hh]
                    · right; omega
                  · by_cases hh : y = 0
                    · left; simp [hh]
                    · right; exact hh
                · exact .inr b)
            subst hs'
            rw [List.any_cons, List.any_cons, List.any_cons, decide_eq_false h, Bool.false_or, ← Bool.or_assoc, ← Bool.or_assoc]
            exact this
          refine wp_br (fun b1 => wp_br (fun b2 => ?_) (fun b2 => ?_)) (fun b1 => ?_)
          · exact hih (true, true) (by simp [b1, b2])
          · repeat (refine wp_dec (by omega) ?_)
            exact hih (true, decide (x = 0)) (by simp [b1, b2])
          · repeat (refine wp_dec (by omega) ?_)
            refine wp_br (fun b2 => ?_) (fun b2 => ?_)
            · exact hih (decide (2048 < x), true) (by simp [b1, b2])
            · repeat (refine wp_dec (by omega) ?_)
              exact hih (decide (2048 < x), decide (x = 0)) (by simp [b1, b2]))
      (l.length + 1) 0 (false, false) (by omega) (by omega) (fun x hx => .inr hx)
    have e : (fun (c : Int × Int) => [D.int c.1, D.int c.2]) (if l.any (fun x => decide (x < 0)) then (0, 3) else if l.any (fun x => decide (2048 < x)) then (0, 7)
      else if l.any (fun x => decide (x = 0)) then (0, 0) else if prodS l 1 = 0 then (0, 7) else (prodS l 1, 0)) = (if l.any (fun x => decide (x < 0)) then [.int 0, .int 3] else if false || l.any (fun x => decide (2048 < x)) then [.int 0, .int 7] else if false || l.any (fun x => decide (x = 0)) then [.int 0, .int 0] else cpD (prodS l 1)) := by
      simp only [Bool.false_or]
      split
      · rfl
      split
      · rfl
      split
      · rfl
      show _ = cpD _
      unfold cpD
      split <;> rfl
    show Tw _ ((fun (c : Int × Int) => [D.int c.1, D.int c.2]) _)
    rw [e]
    exact key
theorem idxD_any (p : Int → Bool) : ∀ (l : List Int) (k : Nat), decide (0 ≤ idxD p k l) = l.any p
  | [], k => by simp [idxD]
  | x :: xs, k => by
    rw [idxD_cons, List.any_cons]
    by_cases hp : p x = true
    · rw [if_pos hp]; simp [hp]
    · rw [if_neg hp, idxD_any p xs (k + 1)]; simp [hp]
theorem Count1_sp (x : Int) : Sp 96 [.int x] [.bool (decide (x < 0))] := sound_ 0 (shape_Count_1_tree _ _) (wp_ret rfl)
theorem Count2_sp (x : Int) : Sp 97 [.int x] [.bool (decide (2048 < x))] := sound_ 0 (shape_Count_2_tree _ _) (wp_ret rfl)
theorem Contains1_sp (l : List Int) (hb : l.length ≤ 6) : Sp 95 [dI l, D.fn 96 [] []] [.bool (l.any (fun x => decide (x < 0)))] := by
  refine sound_ 0 (slices_ContainsFunc_int_int_tree_shape_Count_1 _ _) (wp_call (ys := [.int (idxD (fun x => decide (x < 0)) 0 l)]) ?_ (wp_ret ?_))
  · refine sound_ (l.length + 1) (slices_IndexFunc_int_int_tree_shape_Count_1 _ _) ?_
    have key := loop_list (P := Try.prog) (md := md) l (fun m k (_ : Unit) => slices_IndexFunc_int_int_l2 (l.length + 1) m (dI l) (D.fn 96 [] []) (l.length : Int) (k : Int)) (fun rest _ => [.int (idxD (fun x => decide (x < 0)) (l.length - rest.length) rest)]) (fun _ _ => True)
      (fun m k p hk hI => by
        simp only [slices_IndexFunc_int_int_l2_succ_shape_Count_1]
        refine wp_ndec (by omega) (wp_ret ?_)
        simp [idxD])
      (fun m k p x rest hd hI ih => by
        obtain ⟨h1, h2, h3⟩ := drop_cons hd
        have hle := congrArg List.length hd; rw [List.length_drop, List.length_cons] at hle; have hk : l.length - (x :: rest).length = k := by rw [List.length_cons]; omega
        have hk' : l.length - rest.length = k + 1 := by omega
        simp only [slices_IndexFunc_int_int_l2_succ_shape_Count_1, els_dI, List.length_map, Int.toNat_natCast, getD_map h2, toInt_int, wrap_succ (show k < 9223372036854775807 by omega), fnId_fn, fnCts_fn, fnDs_fn, List.append_nil]
        repeat (refine wp_dec (by omega) ?_)
        refine wp_call (Count1_sp x) ?_
        simp only [getD_c0, toBool_bool, idxD, hk]
        refine wp_decs (fun h => wp_ret ?_) (fun h => ?_)
        · simp [h]
        · have := ih () trivial
          rw [hk'] at this
          simpa [h] using this)
      (l.length + 1) 0 () (by omega) (by omega) trivial
    simpa using key
  · exact congrArg (fun b => [D.bool b]) (idxD_any _ l 0)
theorem Contains2_sp (l : List Int) (hb : l.length ≤ 6) : Sp 95 [dI l, D.fn 97 [] []] [.bool (l.any (fun x => decide (2048 < x)))] := by
  refine sound_ 0 (slices_ContainsFunc_int_int_tree_shape_Count_2 _ _) (wp_call (ys := [.int (idxD (fun x => decide (2048 < x)) 0 l)]) ?_ (wp_ret ?_))
  · refine sound_ (l.length + 1) (slices_IndexFunc_int_int_tree_shape_Count_2 _ _) ?_
    have key := loop_list (P := Try.prog) (md := md) l (fun m k (_ : Unit) => slices_IndexFunc_int_int_l2 (l.length + 1) m (dI l) (D.fn 97 [] []) (l.length : Int) (k : Int)) (fun rest _ => [.int (idxD (fun x => decide (2048 < x)) (l.length - rest.length) rest)]) (fun _ _ => True)
      (fun m k p hk hI => by
        simp only [slices_IndexFunc_int_int_l2_succ_shape_Count_2]
        refine wp_ndec (by omega) (wp_ret ?_)
        simp [idxD])
      (fun m k p x rest hd hI ih => by
        obtain ⟨h1, h2, h3⟩ := drop_cons hd
        have hle := congrArg List.length hd; rw [List.length_drop, List.length_cons] at hle; have hk : l.length - (x :: rest).length = k := by rw [List.length_cons]; omega
        have hk' : l.length - rest.length = k + 1 := by omega
        simp only [slices_IndexFunc_int_int_l2_succ_shape_Count_2, els_dI, List.length_map, Int.toNat_natCast, getD_map h2, toInt_int, wrap_succ (show k < 9223372036854775807 by omega), fnId_fn, fnCts_fn, fnDs_fn, List.append_nil]
        repeat (refine wp_dec (by omega) ?_)
        refine wp_call (Count2_sp x) ?_
        simp only [getD_c0, toBool_bool, idxD, hk]
        refine wp_decs (fun h => wp_ret ?_) (fun h => ?_)
        · simp [h]
        · have := ih () trivial
          rw [hk'] at this
          simpa [h] using this)
      (l.length + 1) 0 () (by omega) (by omega) trivial
    simpa using key
  · exact congrArg (fun b => [D.bool b]) (idxD_any _ l 0)
theorem slices_Contains_sp (l : List Int) (v : Int) (hb : l.length ≤ 9223372036854775807) : Sp 98 [dI l, .int v] [.bool (l.any (fun x => decide (x = v)))] := by
  refine sound_ 0 (slices_Contains_int_int_tree _ _ _) (wp_call (ys := [.int (idxD (fun x => decide (x = v)) 0 l)]) ?_ (wp_ret ?_))
  · refine sound_ (l.length + 1) (slices_Index_int_int_tree _ _ _) ?_
    have key := loop_list (P := Try.prog) (md := md) l (fun m k (_ : Unit) => slices_Index_int_int_l2 (l.length + 1) m (dI l) v (l.length : Int) (k : Int)) (fun rest _ => [.int (idxD (fun x => decide (x = v)) (l.length - rest.length) rest)]) (fun _ _ => True)
      (fun m k p hk hI => by
        simp only [slices_Index_int_int_l2_succ]
        refine wp_ndec (by omega) (wp_ret ?_)
        simp [idxD])
      (fun m k p x rest hd hI ih => by
        obtain ⟨h1, h2, h3⟩ := drop_cons hd
        have hle := congrArg List.length hd; rw [List.length_drop, List.length_cons] at hle; have hk : l.length - (x :: rest).length = k := by rw [List.length_cons]; omega
        have hk' : l.length - rest.length = k + 1 := by omega
        simp only [slices_Index_int_int_l2_succ, els_dI, List.length_map, Int.toNat_natCast, getD_map h2, toInt_int, wrap_succ (show k < 9223372036854775807 by omega), int_beq]
        repeat (refine wp_dec (by omega) ?_)
        simp only [idxD, hk]
        refine wp_decs (fun h => wp_ret ?_) (fun h => ?_)
        · simp [h]
        · have := ih () trivial
          rw [hk'] at this
          simpa [show ¬ x = v from fun e => h e.symm] using this)
      (l.length + 1) 0 () (by omega) (by omega) trivial
    simpa using key
  · exact congrArg (fun b => [D.bool b]) (idxD_any _ l 0)
theorem shape_product_sp (l : List Int) (hb : l.length ≤ 6) (hx : ∀ x ∈ l, 1 ≤ x ∧ x ≤ 2048) : Sp 99 [dI l] [.int (prodS l 1)] := by
  refine sound_ (l.length + 1) (shape_product_tree _ _) ?_
  have key := loop_list (P := Try.prog) (md := md) l (fun m k (p : Int) => shape_product_l3 (l.length + 1) m p (dI l) (l.length : Int) (k : Int)) (fun rest p => [.int (prodS rest p)]) (fun _ p => 1 ≤ p ∧ p ≤ 2048)
    (fun m k p hk hI => by
      simp only [shape_product_l3_succ]
      exact wp_ndec (by omega) (wp_ret rfl))
    (fun m k p x rest hd hI ih => by
      obtain ⟨h1, h2, h3⟩ := drop_cons hd
      have hxx := hx x (List.mem_of_getElem? h2)
      have hp := prod_le hI.1 hI.2 hxx.1 hxx.2
      simp only [shape_product_l3_succ, els_dI, List.length_map, Int.toNat_natCast, getD_map h2, toInt_int, wrap_succ (show k < 9223372036854775807 by omega), wrap64 (x := p * x) (by omega) (by omega)]
      repeat (refine wp_dec (by omega) ?_)
      simp only [prodS]
      refine wp_decs (fun h => wp_ret ?_) (fun h => ?_)
      · rw [if_pos h]
      · rw [if_neg h]; exact ih _ ⟨hp.1, by omega⟩)
    (l.length + 1) 0 1 (by omega) (by omega) (by decide)
  simpa using key
theorem shape_Count_sp (l : List Int) : Sp 67 [dI l] [.int (countS l).1, .int (countS l).2] := by
  refine sound_ 0 (shape_Count_tree _ _) ?_
  simp only [els_dI, List.length_map]
  unfold countS
  refine wp_decs (fun h => wp_ret ?_) (fun h => ?_)
  · rw [if_pos (by omega)]
  · rw [if_neg (by omega)]
    refine wp_call (Contains1_sp l (by omega)) ?_
    simp only [getD_c0, toBool_bool]
    refine wp_br (fun h1 => wp_ret (by rw [if_pos h1])) (fun h1 => ?_)
    rw [if_neg (by simp [h1])]
    refine wp_call (Contains2_sp l (by omega)) ?_
    simp only [getD_c0, toBool_bool]
    refine wp_br (fun h2 => wp_ret (by rw [if_pos h2])) (fun h2 => ?_)
    rw [if_neg (by simp [h2])]
    refine wp_call (slices_Contains_sp l 0 (by omega)) ?_
    simp only [getD_c0, toBool_bool]
    refine wp_br (fun h3 => wp_ret (by rw [if_pos h3])) (fun h3 => ?_)
    rw [if_neg (by simp [h3])]
    refine wp_call (shape_product_sp l (by omega) (count_pos (by simp [h1]) (by simp [h2]) (by simp [h3]))) ?_
    simp only [getD_c0, toInt_int, int_beq]
    refine wp_decs (fun h4 => wp_ret (by rw [if_pos h4])) (fun h4 => wp_ret (by rw [if_neg h4]))
theorem ref07_Ints_sp (a b : List Int) (ha : a.length ≤ 9223372036854775807) : Sp 76 [dI a, dI b] [.bool (decide (a = b))] := by
  refine sound_ (a.length + 1) (ref07_Ints_tree _ _ _) ?_
  simp only [els_dI, List.length_map, int_bne]
  refine wp_decs (fun h => wp_ret ?_) (fun h => ?_)
  · rw [decide_eq_false]; rintro rfl; exact h rfl
  · exact eq_loop D.int dint_inj a b (by omega) ha (fun m i => ref07_Ints_l4 (a.length + 1) m (dI a) (dI b) i) (fun m i => ref07_Ints_l4_succ _ _ _ _ _)
def mayC (c : Int) : Bool := decide (0 ≤ c ∧ c ≤ 1114111 ∧ (c < 55296 ∨ 57343 < c))
theorem may_tree (c : Int) : Tw (.br (decide (0 ≤ c)) (.br (decide (c ≤ 1114111)) (.br (decide (c < 55296)) (.ret [D.bool true]) (.ret [D.bool (decide (57343 < c))])) (.ret [D.bool false])) (.ret [D.bool false])) [.bool (mayC c)] := by
  unfold mayC
  refine wp_decs (fun h1 => wp_decs (fun h2 => wp_decs (fun h3 => wp_ret ?_) (fun h3 => wp_ret ?_)) (fun h2 => wp_ret ?_)) (fun h1 => wp_ret ?_)
  · rw [decide_eq_true (by omega)]
  · congr 2; rw [decide_eq_decide]; omega
  · rw [decide_eq_false (by omega)]
  · rw [decide_eq_false (by omega)]
theorem ref06_May_sp (c : Int) : Sp 104 [.int c] [.bool (mayC c)] := sound_ 0 (ref06_May_tree _ _) (may_tree c)
theorem glyph_May_sp (c : Int) : Sp 133 [.int c] [.bool (mayC c)] := sound_ 0 (glyph_May_tree _ _) (may_tree c)
end Go.Proofs.Ytfnmaeniekggeaa
namespace Go.Proofs.Ytfnmaeniekggeaa
open Go.ChangeShapes Go.WideShapes Go.ChangeAt Go.RowKit

/-- Types that are made of integers, bools, strings, slices, structs. -/
def plainT (P : Program) (Ts : List Nat) (t : Nat) : Bool := match P.underlying t with
  | some (.int _) => true | some .bool => true | some .string => true
  | some (.slice e) => Ts.contains e && decide (0 < P.cellsOf e)
  | some (.struct _) => (match fieldsOf P t with | some fs => fs.all (fun f => Ts.contains f.type) | none => false)
  | _ => false
def plainTs (P : Program) (Ts : List Nat) : Bool := Ts.all (plainT P Ts)

section
variable {H : Type} {enc : TypeId × Value → H} {P : Program} {md : Nat → FMode} {W : World} {sp : Nat → Bool} {held : Bool}
theorem cells_at {w : World} {a : Addr} {k : Nat} {cs : List Value} (h : w.cells? 0 a k = some cs) (hk : 0 < k) : a.spot = none ∧ a.block < w.heap.size ∧ cs.length = k ∧ ∀ j, j < k → w.cell? ⟨a.block, a.off + j, none⟩ = cs[j]? := by
  unfold World.cells? at h
  rw [if_pos (Nat.zero_le _)] at h
  have hl := mapM_some_length h
  have hg := fun j (hj : j < k) => mapM_some_get h j j (by simp [hj])
  have h0 := hg 0 hk
  have hsp : a.spot = none := by
    have hc : cs[0]? = some (cs[0]'(by simp at hl; omega)) := List.getElem?_eq_getElem _
    rw [hc] at h0
    simp only [Addr.add, if_true] at h0
    unfold World.cell? at h0
    split at h0
    · split at h0
      · cases h0
      · rename_i hn; simpa using hn
    · cases h0
  refine ⟨hsp, ?_, by simpa using hl, fun j hj => ?_⟩
  · have hc : cs[0]? = some (cs[0]'(by simp at hl; omega)) := List.getElem?_eq_getElem _
    rw [hc] at h0
    exact World.block_lt_of_cell? w _ h0
  · rw [← hg j hj]
    congr 1
    cases a
    simp only at hsp
    subst hsp
    unfold Addr.add
    split
    · rename_i hj0; subst hj0; rfl
    · rfl
theorem wf_bd {k : IntKind} {n : Int} (h : (Lit.int k n).wf = true) : k.min ≤ n ∧ n ≤ k.max := by
  simpa [Lit.wf] using h
/-- Choice for a list. -/
theorem list_pick {α : Type} {p : Nat → α → Prop} : ∀ (k : Nat), (∀ i, i < k → ∃ y, p i y) → ∃ ys : List α, ys.length = k ∧ ∀ (i : Nat) (y : α), ys[i]? = some y → p i y
  | 0, _ => ⟨[], rfl, fun i y h => by simp at h⟩
  | k + 1, h => by
    obtain ⟨ys, h1, h2⟩ := list_pick k (fun i hi => h i (by omega))
    obtain ⟨y, hy⟩ := h k (by omega)
    refine ⟨ys ++ [y], by simp [h1], fun i z hz => ?_⟩
    rw [List.getElem?_append] at hz
    split at hz
    · exact h2 i z hz
    · rename_i hi
      have : i = k := by
        have := (List.getElem?_eq_some_iff.1 hz).1
        simp at this
        omega
      subst this
      simp [h1] at hz
      subst hz
      exact hy
/-- ████ What reads as data, reads as data. -/
theorem trod_rd {Ts : List Nat} (hT : plainTs P Ts = true) : ∀ (fuel t : Nat) (cs : List Value) (x : DataW H × List MemPlace), t ∈ Ts → DataW.trod enc P W 0 sp held fuel t cs = some x → ∃ y, RdC P md W (fun _ => False) (.ty t) y (fun j => cs[j]?)
  | 0, t, cs, x, _, h => by simp [DataW.trod] at h
  | fuel + 1, t, cs, x, ht, h => by
    have hp := List.all_eq_true.1 hT t ht
    unfold plainT at hp
    unfold DataW.trod at h
    split at h
    · rename_i b hu; exact ⟨.bool b, .bool hu rfl⟩
    · rename_i k k' m hu
      split at h
      · rename_i hc
        obtain ⟨rfl, hw⟩ := hc
        exact ⟨.int m, .int hu (wf_bd hw).1 (wf_bd hw).2 rfl⟩
      · cases h
    · rename_i hu; rw [hu] at hp; cases hp
    · rename_i s hu
      split at h
      · rename_i hl; exact ⟨.str s, .str hu hl rfl⟩
      · cases h
    · rename_i hu; rw [hu] at hp; cases hp
    · rename_i hu; rw [hu] at hp; cases hp
    · rename_i e hu
      exact ⟨.sl [], .sl (A := none) (cap := 0) (bk := 0) (off := 0) hu rfl (Nat.le_refl _) (Nat.zero_le _) (fun hne => absurd rfl hne) (fun i x hx => by simp at hx)⟩
    · rename_i e a len cap hu
      rw [hu] at hp
      simp only [Bool.and_eq_true, List.contains_iff_mem, decide_eq_true_eq] at hp
      obtain ⟨he, hpos⟩ := hp
      simp only at h
      split at h
      · rename_i hc
        obtain ⟨_, h1, h2⟩ := hc
        obtain ⟨els, hel, _⟩ := Option.bind_eq_some_iff.1 h
        have hlen : els.length = len := by simpa using mapM_some_length hel
        have hat : ∀ i, i < len → ∃ ci xi, W.cells? 0 (a.add (i * P.cellsOf e)) (P.cellsOf e) = some ci ∧ DataW.trod enc P W 0 sp held fuel e ci = some xi := by
          intro i hi
          have := mapM_some_get hel i i (by simp [hi])
          rw [List.getElem?_eq_getElem (by omega)] at this
          obtain ⟨ci, hci, hxi⟩ := Option.bind_eq_some_iff.1 this
          exact ⟨ci, _, hci, hxi⟩
        obtain ⟨ys, y1, y2⟩ := list_pick (p := fun i y => ∃ ci, W.cells? 0 (a.add (i * P.cellsOf e)) (P.cellsOf e) = some ci ∧ RdC P md W (fun _ => False) (.ty e) y (fun j => ci[j]?)) len (fun i hi => by
          obtain ⟨ci, xi, hci, hxi⟩ := hat i hi
          obtain ⟨y, hy⟩ := trod_rd hT fuel e ci xi he hxi
          exact ⟨y, ci, hci, hy⟩)
        have hspot : 0 < len → a.spot = none ∧ a.block < W.heap.size := by
          intro hl
          obtain ⟨ci, _, hci, _⟩ := hat 0 hl
          have := cells_at hci hpos
          rw [Nat.zero_mul] at this
          simp only [Addr.add, if_true] at this
          exact ⟨this.1, this.2.1⟩
        have hadd : ∀ i, 0 < len → a.add i = ⟨a.block, a.off + i, none⟩ := by
          intro i hl
          obtain ⟨hs, _⟩ := hspot hl
          cases a
          simp only at hs
          subst hs
          unfold Addr.add
          split
          · rename_i h0; subst h0; rfl
          · rfl
        refine ⟨.sl ys, .sl (A := some a) (cap := cap) (bk := a.block) (off := a.off) hu (by simp [y1]) (by omega) h2 (fun hne => ?_) (fun i x hx => ?_)⟩
        · have hl : 0 < len := by rw [← y1]; exact List.length_pos_iff.2 hne
          have := hadd 0 hl
          simp only [Addr.add, if_true, Nat.add_zero] at this
          exact ⟨by rw [← this], fun h => h, (hspot hl).2⟩
        · have hi : i < len := by rw [← y1]; exact (List.getElem?_eq_some_iff.1 hx).1
          obtain ⟨ci, hci, hrd⟩ := y2 i x hx
          rw [hadd _ (by omega)] at hci
          obtain ⟨_, _, c3, c4⟩ := cells_at hci hpos
          refine hrd.congr (fun j hj => ?_) hpos
          rw [← c4 j hj]
          simp only [Nat.add_assoc]
      · cases h
    · rename_i cs _ csq fs hu
      rw [hu] at hp
      simp only at hp
      split at hp
      · rename_i fs' hfs
        split at h
        · rename_i hl
          obtain ⟨xs, hxs, _⟩ := Option.map_eq_some_iff.1 h
          obtain ⟨⟨b, hb, hbl⟩, hok⟩ := fieldsOf_under hfs
          rw [hu] at hb
          injection hb with hb
          injection hb with hb
          subst hb
          have hlen : xs.length = fs'.length := by rw [mapM_some_length hxs, hbl]
          obtain ⟨ys, y1, y2⟩ := list_pick (p := fun i y => ∀ f, fs'[i]? = some f → RdC P md W (fun _ => False) (.ty f.type) y (fun j => cs[f.offset + j]?)) fs'.length (fun i hi => by
            have hf := List.getElem?_eq_getElem hi
            have hg := mapM_some_get hxs i fs'[i] (by rw [hbl]; exact hf)
            rw [List.getElem?_eq_getElem (by omega)] at hg
            have hft : (fs'[i]).type ∈ Ts := by
              have := List.all_eq_true.1 hp _ (List.getElem_mem hi)
              simpa using this
            obtain ⟨y, hy⟩ := trod_rd hT fuel _ _ _ hft hg
            refine ⟨y, fun f hf' => ?_⟩
            rw [hf] at hf'
            injection hf' with hf'
            subst hf'
            obtain ⟨p1, p2⟩ := okFs_at hok hf
            refine hy.congr (fun j hj => ?_) p1
            rw [List.getElem?_take, if_pos (show j < P.cellsOf _ from hj), List.getElem?_drop])
          exact ⟨.agg ys, .struct hfs y1 (fun i f d hf hd => y2 i d hd f hf)⟩
        · cases h
      · cases hp
    all_goals first | (cases h; done) | (rename_i hu; rw [hu] at hp; cases hp)
/-- An argument, as data. -/
theorem arg_rd (hP : WfP P) {Ts : List Nat} (hT : plainTs P Ts = true) {r : Reach} {b0 t : Nat} {v : Value} {d : DataW H} {ps : List MemPlace} (ht : t ∈ Ts) (hval : Value.okWide P W r b0 t v) (h : DataW.Trod enc P W 0 sp held t v d ps) : ∃ y, Rd P md W (fun _ => False) (.ty t) y v := by
  obtain ⟨fuel, hf⟩ := h
  obtain ⟨y, hy⟩ := trod_rd (md := md) hT fuel t _ _ ht hf
  have hy' : RdC P md W (fun _ => False) (.ty t) y (fun j => v.cells[j]?) := by simpa using hy
  have hu := rd_under hy'
  cases ha : isAggT P t with
  | true =>
    have : ∃ cs, v = .agg cs ∧ cs.size = P.cellsOf t := by
      unfold isAggT at ha
      unfold Value.okWide at hval
      split at ha
      · rename_i hh; rw [hh] at hval; obtain ⟨cs, h1, h2, _⟩ := hval; exact ⟨cs, h1, h2⟩
      · rename_i hh; rw [hh] at hval; obtain ⟨cs, h1, h2, _⟩ := hval; exact ⟨cs, h1, h2⟩
      · cases ha
    obtain ⟨cs, rfl, hs⟩ := this
    exact ⟨y, hy', hs, by simp [isAggV, CT.isAgg, ha]⟩
  | false =>
    have hv : isAggV v = false := by
      cases v <;> first | rfl | skip
      rename_i cs
      exfalso
      unfold Value.okWide at hval
      split at hval
      · rename_i hh; simp [isAggT, hh] at ha
      · rename_i hh; simp [isAggT, hh] at ha
      · cases hd : P.underlying t with
        | none => rw [hd] at hu; cases hu
        | some de => cases de <;> simp [Cell.okWide, Cell.ok, hd] at hval
    exact ⟨y, hy', by rw [cells_of hv]; exact (hP.one t ha hu).symm, by simp [hv, CT.isAgg, ha]⟩
end

end Go.Proofs.Ytfnmaeniekggeaa
namespace Go.Proofs.Ytfnmaeniekggeaa
open Go.ChangeShapes Go.WideShapes Go.ChangeAt Go.RowKit

/-- What a law tells: true; old memory is as it was. -/
def Yes (w : World) (e : Ending) (w' : World) : Prop := e = .returned (.bool true) ∧ Ext w w'

theorem knob : ownKnob Try.prog.godebug = none := by kernel_rfl
theorem laidOut : laidOutB Try.prog = true := by kernel_rfl

section
variable {H : Type} {enc : TypeId × Value → H} {P : Program}
theorem trodAll_stays (hl : laidOutB P = true) {W W' : World} (hx : Ext W W') (sp : Nat → Bool) : ∀ (ts : List TypeId) (vs : List Value) (ds : List (DataW H)) (ps : List MemPlace), DataW.TrodAll enc P W 0 (fun _ => true) true ts vs ds ps →
    (∀ t ∈ ts, P.readableRec t = true ∧ t < P.types.size) → (∀ x ∈ ps, x.block < W.heap.size) → (∀ x ∈ ps, sp x.block = true) → DataW.TrodAll enc P W' 0 sp true ts vs ds ps
  | [], vs, ds, ps, h, _, _, _ => by
    obtain ⟨rfl, rfl, rfl⟩ := trodAll_nil h
    exact trodAll_mk0
  | t :: ts, vs, ds, ps, h, hr, hlt, hsp => by
    obtain ⟨v, vs', d, ds', p, q, rfl, rfl, rfl, h1, h2⟩ := trodAll_cons h
    have := hr t (by simp)
    refine trodAll_cons_mk (WideElems.Trod_stays hl this.1 this.2 h1 (fun x hm => Below.same hx (hlt x (by simp [hm]))) (fun x hm => hsp x (by simp [hm]))) ?_
    exact trodAll_stays hl hx sp ts vs' ds' q h2 (fun t' ht => hr t' (by simp [ht])) (fun x hm => hlt x (by simp [hm])) (fun x hm => hsp x (by simp [hm]))

theorem law_post {f : Func} {s : ChangeSpec} (hl : laidOutB P = true) {W W' : World} {args : Array Value} {ds gs : List (DataW H)} {before : List MemPlace} {tb : TypeId}
    (hW : DataW.Whole enc P f.params.toList s.vars false W args.toList ds gs before) (hv : s.vars = []) (hrt : f.resultTypes = #[tb]) (htb : P.underlying tb = some .bool)
    (hfn : s.fn H ds = { results := [.lit (.bool true)], args := ds }) (hr : f.params.toList.all (fun t => P.readableRec t && decide (t < P.types.size)) = true) (hx : Ext W W') :
    s.post enc P f false true false false W args (.bool true) W' := by
  have hW' := hW
  obtain ⟨p, q, hA, hV, rfl, hfz, hnd⟩ := hW
  rw [hv] at hV
  obtain ⟨rfl, rfl⟩ := trodVars_none hV
  have hlt : ∀ x ∈ p, x.block < W.heap.size := fun x hm => hW'.lt x (by simpa using hm)
  have hrr : ∀ t ∈ f.params.toList, P.readableRec t = true ∧ t < P.types.size := fun t ht => by
    have := List.all_eq_true.1 hr t ht
    simpa using this
  have hold : ∀ x ∈ p ++ [], (fun b => decide (b < W.heap.size)) x.block = true := fun x hm => by simpa using hlt x (by simpa using hm)
  have hres : ∀ (b : Nat) (sp : Nat → Bool) (hd : Bool), DataW.TrodAll enc P W' b sp hd f.resultTypes.toList ((Value.bool true).resultList f.resultTypes.size) (s.fn H (ds ++ [])).results [] := by
    intro b sp hd
    rw [hrt, List.append_nil, hfn]
    exact trodAll_mk1 (shut_bool htb _)
  have hargs : ∀ sp : Nat → Bool, (∀ x ∈ p ++ [], sp x.block = true) → DataW.TrodAll enc P W' 0 sp true f.params.toList args.toList (s.fn H (ds ++ [])).args p := by
    intro sp hsp
    rw [List.append_nil, hfn]
    exact trodAll_stays hl hx sp _ _ _ _ hA hrr hlt (fun x hm => hsp x (by simpa using hm))
  have hvars : ∀ sp : Nat → Bool, DataW.TrodVars enc P W' sp s.vars (s.fn H (ds ++ [])).vars [] := by
    intro sp
    rw [hv, List.append_nil, hfn]; rfl
  refine ⟨ds, [], p ++ [], [], p, [], hW', hres _ _ _, hargs _ hold, hvars _, World.keptBut_mono (fun x hm => ⟨hm, ?_⟩) (Below.frame hx (· ∈ p ++ [])), fun _ => ?_⟩
  · exact Or.inr (by simpa using hm)
  · refine ⟨ok_one hrt rfl (okWide_bool_mk htb _), _, _, ([] ++ p) ++ [], ⟨[] ++ p, [], trodAll_append (hargs (fun _ => true) (fun _ _ => rfl)) (hres _ _ _), hvars _, rfl, ?_, ?_⟩, ?_⟩
    · intro b off hm
      have hin : MemPlace.cell b off ∈ p ++ [] := by simpa using hm
      rw [hx.frozen (p := ⟨b, off, none⟩) (show b < W.heap.size from hlt (.cell b off) (by simpa using hin))]
      exact hfz b off hin
    · intro ha; cases ha
    · intro x hm _
      simpa using hm
/-- An argument that is a slice of integers. -/
theorem sli_of_trod {r : Reach} {b0 : Nat} {t e : TypeId} {k : IntKind} {W : World} {v : Value} {d : DataW H} {ps : List MemPlace} (ht : P.underlying t = some (.slice e)) (he : P.underlying e = some (.int k)) (hc : P.cellsOf e = 1)
    (hval : Value.okWide P W r b0 t v) (h : DataW.Trod enc P W 0 (fun _ => true) true t v d ps) : ∃ xs : List Int, SlI W v k xs ∧ xs.length ≤ maxLen := by
  obtain ⟨a0, len0, cap0, rfl⟩ := okWide_slice ht hval
  obtain ⟨fuel, hf⟩ := h
  rcases open_ints ht he hc hf with ⟨hcs, _⟩ | ⟨a, len, cap, zs, hcs, _, hlc, hcm, hz, hx, hcell, _⟩
  · simp [Value.cells] at hcs
    obtain ⟨rfl, rfl, rfl⟩ := hcs
    exact ⟨[], SlI.nil_ _ _, Nat.zero_le _⟩
  · simp [Value.cells] at hcs
    obtain ⟨rfl, rfl, rfl⟩ := hcs
    simp only [if_true] at hz
    have hlen : (zs.take len0).length = len0 := by rw [List.length_take]; omega
    refine ⟨zs.take len0, ⟨some a, cap0, by rw [hlen], by omega, by simp, fun i x hxi => ⟨a, rfl, ?_, ?_⟩⟩, by omega⟩
    · rw [List.getElem?_map] at hxi
      obtain ⟨y, hy, _⟩ := Option.map_eq_some_iff.1 hxi
      have hi : i < (zs.take len0).length := (List.getElem?_eq_some_iff.1 hy).1
      have := World.block_lt_of_cell? W _ (hcell 0 (by omega))
      rwa [blk_add] at this
    · rw [List.getElem?_map] at hxi
      obtain ⟨y, hy, rfl⟩ := Option.map_eq_some_iff.1 hxi
      have hi : i < (zs.take len0).length := (List.getElem?_eq_some_iff.1 hy).1
      rw [hcell i (by omega)]
      have : zs.getD i 0 = y := by
        rw [List.getElem?_take] at hy
        split at hy
        · rw [List.getD_eq_getElem?_getD, hy]; rfl
        · cases hy
      rw [this]
end

end Go.Proofs.Ytfnmaeniekggeaa
set_option maxRecDepth 100000
namespace Go.Proofs.Ytfnmaeniekggeaa
open Go.ChangeShapes Go.WideShapes Go.ChangeAt Go.RowKit

section
variable {P : Program} {md : Nat → FMode}
theorem law_calls {F : Nat} {fn : Func} {xs : List D} {vs : List Value} {W : World} {tb : Nat} (hs : Spec P md F [] xs [.bool true]) (hfn : P.funcs[F]? = some fn) (hm : md F = {}) (hrt : fn.resultTypes = #[tb]) (htb : P.underlying tb = some .bool)
    (hlx : xs.length = fn.params.size) (hlv : vs.length = fn.params.size) (hrd : ∀ (i t : Nat) (x : D) (v : Value), fn.params.toList[i]? = some t → xs[i]? = some x → vs[i]? = some v → Rd P md W (fun _ => False) (.ty t) x v) :
    Calls P F vs.toArray W (fun e w' => e = .returned (.bool true) ∧ Ext W w') := by
  obtain ⟨fn', h1, _, _, h⟩ := hs
  rw [hfn] at h1
  injection h1 with h1
  subst h1
  refine (h W (fun _ => False) vs 0 1 (fun k hk => by rw [hm] at hk; cases hk) ⟨by simp [hlx], by simp [hlv], fun b hb => hb.elim, ?_, fun p hp => by rw [hm] at hp; cases hp⟩).mono ?_
  · intro i ct x v hc hx hv _
    simp only [List.append_nil, List.getElem?_map, Option.map_eq_some_iff] at hc
    obtain ⟨t, ht, rfl⟩ := hc
    have := hrd i t x v ht hx hv
    exact ⟨this.rd.mono (Nat.le_refl _) (fun _ _ _ => rfl) (fun b hb _ => by
      rcases hb with hb | ⟨p, u, hp, _⟩
      · exact hb
      · rw [hm] at hp; cases hp), this.size, this.agg⟩
  · rintro e w' ⟨us, β', hp⟩
    have hl := hp.len
    rw [hrt] at hl
    have : ∃ u, us = [u] := by
      match us, hl with
      | [u], _ => exact ⟨u, rfl⟩
    obtain ⟨u, rfl⟩ := this
    have hv := hp.vl [.b true] (by rw [hrt, hm]; simp [resL, setOwn, ofD, htb, D.toBool, List.getD]) 0 (.b true) u rfl rfl
    have hu := vl_b hv
    subst hu
    refine ⟨hp.ending, ?_⟩
    have := hp.stp
    refine Stp.ext (this.weak fun b ⟨p, v, h1, _⟩ => ?_)
    rw [hm] at h1; cases h1

theorem rd_int {t : Nat} {k : IntKind} {w : World} {M : Nat → Prop} {y : D} {c : Nat → Option Value} (h : RdC P md w M (.ty t) y c) (ht : P.underlying t = some (.int k)) : ∃ n, y = .int n ∧ k.min ≤ n ∧ n ≤ k.max := by
  cases h <;> simp_all [CT.desc]
  all_goals (rename_i hf _; obtain ⟨⟨a, ha, _⟩, _⟩ := fieldsOf_under hf; rw [ht] at ha; cases ha)
theorem rd_bool {t : Nat} {w : World} {M : Nat → Prop} {y : D} {c : Nat → Option Value} (h : RdC P md w M (.ty t) y c) (ht : P.underlying t = some .bool) : ∃ b, y = .bool b := by
  cases h <;> simp_all [CT.desc]
  all_goals (rename_i hf _; obtain ⟨⟨a, ha, _⟩, _⟩ := fieldsOf_under hf; rw [ht] at ha; cases ha)
theorem rd_str {t : Nat} {w : World} {M : Nat → Prop} {y : D} {c : Nat → Option Value} (h : RdC P md w M (.ty t) y c) (ht : P.underlying t = some .string) : ∃ s, y = .str s ∧ s.size ≤ maxLen := by
  cases h <;> simp_all [CT.desc]
  all_goals (rename_i hf _; obtain ⟨⟨a, ha, _⟩, _⟩ := fieldsOf_under hf; rw [ht] at ha; cases ha)
theorem rd_slc {t e : Nat} {w : World} {M : Nat → Prop} {y : D} {c : Nat → Option Value} (h : RdC P md w M (.ty t) y c) (ht : P.underlying t = some (.slice e)) : ∃ es, y = .sl es ∧ es.length ≤ maxLen ∧ ∀ x ∈ es, ∃ c', RdC P md w M (.ty e) x c' := by
  cases h with
  | sl ht' hc h1 h2 hA hh =>
    have : P.underlying t = some (.slice _) := ht'
    rw [ht] at this
    injection this with this
    injection this with this
    subst this
    refine ⟨_, rfl, Nat.le_trans h1 h2, fun x hx => ?_⟩
    obtain ⟨i, hi, rfl⟩ := List.getElem_of_mem hx
    exact ⟨_, hh i _ (List.getElem?_eq_getElem hi)⟩
  | struct hf _ _ => obtain ⟨⟨a, ha, _⟩, _⟩ := fieldsOf_under hf; rw [ht] at ha; cases ha
  | int ht' => have : P.underlying t = _ := ht'; rw [ht] at this; cases this
  | bool ht' => have : P.underlying t = _ := ht'; rw [ht] at this; cases this
  | str ht' => have : P.underlying t = _ := ht'; rw [ht] at this; cases this
  | fn ht' => have : P.underlying t = _ := ht'; rw [ht] at this; cases this
  | ref ht' => have : P.underlying t = _ := ht'; rw [ht] at this; cases this
theorem rd_struct {t : Nat} {fs : List Field} {w : World} {M : Nat → Prop} {y : D} {c : Nat → Option Value} (h : RdC P md w M (.ty t) y c) (ht : fieldsOf P t = some fs) : ∃ ds, y = .agg ds ∧ ds.length = fs.length ∧ ∀ (i : Nat) (f : Field) (d : D), fs[i]? = some f → ds[i]? = some d → ∃ c', RdC P md w M (.ty f.type) d c' := by
  obtain ⟨⟨a, ha, _⟩, _⟩ := fieldsOf_under ht
  cases h with
  | struct hf hl hh =>
    rw [ht] at hf
    injection hf with hf
    subst hf
    exact ⟨_, rfl, hl, fun i f d h1 h2 => ⟨_, hh i f d h1 h2⟩⟩
  | sl ht' => have : P.underlying t = _ := ht'; rw [ha] at this; cases this
  | int ht' => have : P.underlying t = _ := ht'; rw [ha] at this; cases this
  | bool ht' => have : P.underlying t = _ := ht'; rw [ha] at this; cases this
  | str ht' => have : P.underlying t = _ := ht'; rw [ha] at this; cases this
  | fn ht' => have : P.underlying t = _ := ht'; rw [ha] at this; cases this
  | ref ht' => have : P.underlying t = _ := ht'; rw [ha] at this; cases this
theorem rd_ints {t e : Nat} {w : World} {M : Nat → Prop} {y : D} {c : Nat → Option Value} (h : RdC P md w M (.ty t) y c) (ht : P.underlying t = some (.slice e)) (he : P.underlying e = some (.int .i64)) : ∃ l, y = dI l ∧ l.length ≤ maxLen ∧ ∀ x ∈ l, -9223372036854775808 ≤ x ∧ x ≤ 9223372036854775807 := by
  obtain ⟨es, rfl, hl, hh⟩ := rd_slc h ht
  have : ∃ l : List Int, es = l.map .int ∧ ∀ x ∈ l, -9223372036854775808 ≤ x ∧ x ≤ 9223372036854775807 := by
    clear hl h
    induction es with
    | nil => exact ⟨[], rfl, fun _ h => by cases h⟩
    | cons x es ih =>
      obtain ⟨l, rfl, hl⟩ := ih (fun y hy => hh y (by simp [hy]))
      obtain ⟨c', hc⟩ := hh x (by simp)
      obtain ⟨n, rfl, h1, h2⟩ := rd_int hc he
      exact ⟨n :: l, rfl, fun y hy => by rcases List.mem_cons.1 hy with rfl | hy; exact ⟨h1, h2⟩; exact hl y hy⟩
  obtain ⟨l, rfl, h2⟩ := this
  exact ⟨l, rfl, by simpa using hl, h2⟩
theorem rd_limbs {t e : Nat} {w : World} {M : Nat → Prop} {y : D} {c : Nat → Option Value} (h : RdC P md w M (.ty t) y c) (ht : P.underlying t = some (.slice e)) (he : P.underlying e = some (.int .u32)) : ∃ l : List Limb, y = dL l ∧ l.length ≤ maxLen := by
  obtain ⟨es, rfl, hl, hh⟩ := rd_slc h ht
  have : ∃ l : List Limb, es = l.map dB := by
    clear hl h
    induction es with
    | nil => exact ⟨[], rfl⟩
    | cons x es ih =>
      obtain ⟨l, rfl⟩ := ih (fun y hy => hh y (by simp [hy]))
      obtain ⟨c', hc⟩ := hh x (by simp)
      obtain ⟨n, rfl, h1, h2⟩ := rd_int hc he
      have h1 : 0 ≤ n := h1
      have h2 : n ≤ 4294967295 := h2
      refine ⟨BitVec.ofNat 32 n.toNat :: l, ?_⟩
      simp only [List.map_cons, dB, BitVec.toNat_ofNat]
      rw [Nat.mod_eq_of_lt (by omega), Int.toNat_of_nonneg h1]
  obtain ⟨l, rfl⟩ := this
  exact ⟨l, rfl, by simpa using hl⟩
theorem rd_lab {t : Nat} {w : World} {M : Nat → Prop} {y : D} {c : Nat → Option Value} (h : RdC P md w M (.ty t) y c) (ht : P.underlying t = some (.int .u64)) : ∃ l : Lab, y = dB l := by
  obtain ⟨n, rfl, h1, h2⟩ := rd_int h ht
  have h1 : 0 ≤ n := h1
  have h2 : n ≤ 18446744073709551615 := h2
  refine ⟨BitVec.ofNat 64 n.toNat, ?_⟩
  simp only [dB, BitVec.toNat_ofNat]
  rw [Nat.mod_eq_of_lt (by omega), Int.toNat_of_nonneg h1]
end

theorem len3 {α : Type} {l : List α} (h : l.length = 3) : ∃ a b c, l = [a, b, c] := by
  match l, h with
  | [a, b, c], _ => exact ⟨a, b, c, rfl⟩
theorem len5 {α : Type} {l : List α} (h : l.length = 5) : ∃ a b c d e, l = [a, b, c, d, e] := by
  match l, h with
  | [a, b, c, d, e], _ => exact ⟨a, b, c, d, e, rfl⟩
/-- No list of an array is longer than it can be; lengths of axes are ints. -/
inductive Fits : Arr → Prop where
  | mk {s : Lab} {sh : List Int} {cs : List Cell} (h1 : sh.length ≤ maxLen) (h2 : cs.length ≤ maxLen) (h3 : ∀ c ∈ cs, c.n.top.length ≤ maxLen ∧ c.n.bot.length ≤ maxLen ∧ c.inn.length ≤ maxLen) (h5 : ∀ x ∈ sh, -9223372036854775808 ≤ x ∧ x ≤ 9223372036854775807)
      (h4 : ∀ c ∈ cs, ∀ x ∈ c.inn, Fits x) : Fits (.mk s sh cs)
theorem fields_Num : (fieldsOf Try.prog 54).map (fun fs => fs.map (·.type)) = some [4, 52, 52] := by kernel_rfl
theorem fields_Cell : (fieldsOf Try.prog 57).map (fun fs => fs.map (·.type)) = some [22, 3, 54, 3, 55] := by kernel_rfl
theorem fields_Array : (fieldsOf Try.prog 26).map (fun fs => fs.map (·.type)) = some [22, 23, 24] := by kernel_rfl
theorem types_at {fs : List Field} {ts : List Nat} (h : fs.map (·.type) = ts) {i t : Nat} (ht : ts[i]? = some t) : ∃ f, fs[i]? = some f ∧ f.type = t := by
  subst h
  simpa [List.getElem?_map, Option.map_eq_some_iff] using ht
theorem rd_num {w : World} {M : Nat → Prop} {y : D} {c : Nat → Option Value} (h : RdC Try.prog md w M (.ty 54) y c) : ∃ n, y = dN n ∧ n.top.length ≤ maxLen ∧ n.bot.length ≤ maxLen := by
  obtain ⟨fs, hf, ht⟩ := Option.map_eq_some_iff.1 fields_Num
  obtain ⟨ds, rfl, hl, hh⟩ := rd_struct h hf
  have : fs.length = 3 := by rw [← List.length_map (f := (·.type)), ht]; rfl
  obtain ⟨a, b, c, rfl⟩ := len3 (by rw [hl, this])
  obtain ⟨f0, hf0, e0⟩ := types_at ht (i := 0) rfl
  obtain ⟨f1, hf1, e1⟩ := types_at ht (i := 1) rfl
  obtain ⟨f2, hf2, e2⟩ := types_at ht (i := 2) rfl
  obtain ⟨_, h0⟩ := hh 0 f0 a hf0 rfl
  obtain ⟨_, h1⟩ := hh 1 f1 b hf1 rfl
  obtain ⟨_, h2⟩ := hh 2 f2 c hf2 rfl
  rw [e0] at h0; rw [e1] at h1; rw [e2] at h2
  obtain ⟨n, rfl⟩ := rd_bool h0 (by kernel_rfl)
  obtain ⟨t, rfl, l1⟩ := rd_limbs h1 (e := 99) (by kernel_rfl) (by kernel_rfl)
  obtain ⟨t', rfl, l2⟩ := rd_limbs h2 (e := 99) (by kernel_rfl) (by kernel_rfl)
  exact ⟨⟨n, t, t'⟩, rfl, l1, l2⟩
mutual
def D.sz : D → Nat
  | .agg fs => 1 + D.szL fs | .sl es => 1 + D.szL es | _ => 0
def D.szL : List D → Nat
  | [] => 0 | x :: xs => 1 + x.sz + D.szL xs
end
theorem szL_mem : ∀ {l : List D} {x : D}, x ∈ l → x.sz < D.szL l
  | y :: ys, x, h => by
    rcases List.mem_cons.1 h with rfl | h
    · simp only [D.szL]; omega
    · have := szL_mem h; simp only [D.szL]; omega
theorem rd_arr : ∀ (k : Nat) {w : World} {M : Nat → Prop} {y : D} {c : Nat → Option Value}, y.sz < k → RdC Try.prog md w M (.ty 26) y c → ∃ a, y = dA a ∧ Fits a
  | 0, _, _, _, _, hk, _ => by omega
  | k + 1, w, M, y, c, hk, h => by
    obtain ⟨fs, hf, ht⟩ := Option.map_eq_some_iff.1 fields_Array
    obtain ⟨ds, rfl, hl, hh⟩ := rd_struct h hf
    have : fs.length = 3 := by rw [← List.length_map (f := (·.type)), ht]; rfl
    obtain ⟨a, b, c, rfl⟩ := len3 (by rw [hl, this])
    obtain ⟨f0, hf0, e0⟩ := types_at ht (i := 0) rfl
    obtain ⟨f1, hf1, e1⟩ := types_at ht (i := 1) rfl
    obtain ⟨f2, hf2, e2⟩ := types_at ht (i := 2) rfl
    obtain ⟨_, h0⟩ := hh 0 f0 a hf0 rfl
    obtain ⟨_, h1⟩ := hh 1 f1 b hf1 rfl
    obtain ⟨_, h2⟩ := hh 2 f2 c hf2 rfl
    rw [e0] at h0; rw [e1] at h1; rw [e2] at h2
    obtain ⟨s, rfl⟩ := rd_lab h0 (by kernel_rfl)
    obtain ⟨sh, rfl, l1, l1'⟩ := rd_ints h1 (e := 3) (by kernel_rfl) (by kernel_rfl)
    obtain ⟨es, rfl, l2, hes⟩ := rd_slc h2 (e := 57) (by kernel_rfl)
    have hsz : D.szL es < k := by simp only [D.sz, D.szL] at hk; omega
    have key : ∃ cs : List Cell, es = cs.map dC ∧ (∀ c ∈ cs, c.n.top.length ≤ maxLen ∧ c.n.bot.length ≤ maxLen ∧ c.inn.length ≤ maxLen) ∧ ∀ c ∈ cs, ∀ x ∈ c.inn, Fits x := by
      clear l2 h2 h hh h0 h1 hf0 hf1 hf2 e0 e1 e2 hl hk
      induction es with
      | nil => exact ⟨[], rfl, (fun _ h => by cases h), (fun _ h => by cases h)⟩
      | cons x es ih =>
        simp only [D.szL] at hsz
        obtain ⟨cs, rfl, g1, g2⟩ := ih (fun y hy => hes y (by simp [hy])) (by omega)
        obtain ⟨_, hx⟩ := hes x (by simp)
        obtain ⟨fs, hf, ht⟩ := Option.map_eq_some_iff.1 fields_Cell
        obtain ⟨ds, rfl, hl, hh⟩ := rd_struct hx hf
        have : fs.length = 5 := by rw [← List.length_map (f := (·.type)), ht]; rfl
        obtain ⟨a, b, c, d, e, rfl⟩ := len5 (by rw [hl, this])
        obtain ⟨f0, hf0, e0⟩ := types_at ht (i := 0) rfl
        obtain ⟨f1, hf1, e1⟩ := types_at ht (i := 1) rfl
        obtain ⟨f2, hf2, e2⟩ := types_at ht (i := 2) rfl
        obtain ⟨f3, hf3, e3⟩ := types_at ht (i := 3) rfl
        obtain ⟨f4, hf4, e4⟩ := types_at ht (i := 4) rfl
        obtain ⟨_, h0⟩ := hh 0 f0 a hf0 rfl
        obtain ⟨_, h1⟩ := hh 1 f1 b hf1 rfl
        obtain ⟨_, h2⟩ := hh 2 f2 c hf2 rfl
        obtain ⟨_, h3⟩ := hh 3 f3 d hf3 rfl
        obtain ⟨_, h4⟩ := hh 4 f4 e hf4 rfl
        rw [e0] at h0; rw [e1] at h1; rw [e2] at h2; rw [e3] at h3; rw [e4] at h4
        obtain ⟨l, rfl⟩ := rd_lab h0 (by kernel_rfl)
        obtain ⟨kd, rfl, _⟩ := rd_int h1 (k := .i64) (by kernel_rfl)
        obtain ⟨n, rfl, n1, n2⟩ := rd_num h2
        obtain ⟨ch, rfl, _⟩ := rd_int h3 (k := .i64) (by kernel_rfl)
        obtain ⟨as_, rfl, l4, has⟩ := rd_slc h4 (e := 26) (by kernel_rfl)
        have hsz4 : D.szL as_ < k := by simp only [D.sz, D.szL] at hsz; omega
        have key2 : ∃ bs : List Arr, as_ = bs.map dA ∧ ∀ x ∈ bs, Fits x := by
          clear h4 hh hx hes ih l4 hsz hl
          induction as_ with
          | nil => exact ⟨[], rfl, fun _ h => by cases h⟩
          | cons z zs ihz =>
            simp only [D.szL] at hsz4
            obtain ⟨bs, rfl, hb⟩ := ihz (fun y hy => has y (by simp [hy])) (by omega)
            obtain ⟨_, hz⟩ := has z (by simp)
            obtain ⟨a, rfl, ha⟩ := rd_arr k (by omega) hz
            exact ⟨a :: bs, rfl, fun y hy => by rcases List.mem_cons.1 hy with rfl | hy; exact ha; exact hb y hy⟩
        obtain ⟨bs, rfl, hb⟩ := key2
        refine ⟨⟨l, kd, n, ch, bs⟩ :: cs, by simp [dC_eq], fun c hc => ?_, fun c hc => ?_⟩
        · rcases List.mem_cons.1 hc with rfl | hc
          · exact ⟨n1, n2, by simpa using l4⟩
          · exact g1 c hc
        · rcases List.mem_cons.1 hc with rfl | hc
          · exact hb
          · exact g2 c hc
    obtain ⟨cs, rfl, g1, g2⟩ := key
    exact ⟨.mk s sh cs, (dA_mk s sh cs), .mk l1 (by simpa using l2) g1 l1' g2⟩
/-- An argument that is an array. -/
def lawTs : List Nat := [4, 3, 22, 99, 52, 23, 54, 57, 26, 55, 24]
theorem lawTs_plain : plainTs Try.prog lawTs = true := by kernel_rfl
section
variable {H : Type} {enc : TypeId × Value → H} {W : World} {sp : Nat → Bool} {held : Bool} {r : Reach} {b0 : Nat} {v : Value} {d : DataW H} {ps : List MemPlace}
theorem arg_arr (hval : Value.okWide Try.prog W r b0 26 v) (h : DataW.Trod enc Try.prog W 0 sp held 26 v d ps) : ∃ a, Fits a ∧ Rd Try.prog md W (fun _ => False) (.ty 26) (dA a) v := by
  obtain ⟨y, hy⟩ := arg_rd (md := md) wfP lawTs_plain (by decide) hval h
  obtain ⟨a, rfl, ha⟩ := rd_arr _ (Nat.lt_succ_self _) hy.rd
  exact ⟨a, ha, hy⟩
theorem arg_bool (hval : Value.okWide Try.prog W r b0 4 v) (h : DataW.Trod enc Try.prog W 0 sp held 4 v d ps) : ∃ a, Rd Try.prog md W (fun _ => False) (.ty 4) (.bool a) v := by
  obtain ⟨y, hy⟩ := arg_rd (md := md) wfP lawTs_plain (by decide) hval h
  obtain ⟨a, rfl⟩ := rd_bool hy.rd (by kernel_rfl)
  exact ⟨a, hy⟩
theorem arg_lab (hval : Value.okWide Try.prog W r b0 22 v) (h : DataW.Trod enc Try.prog W 0 sp held 22 v d ps) : ∃ a : Lab, Rd Try.prog md W (fun _ => False) (.ty 22) (dB a) v := by
  obtain ⟨y, hy⟩ := arg_rd (md := md) wfP lawTs_plain (by decide) hval h
  obtain ⟨a, rfl⟩ := rd_lab hy.rd (by kernel_rfl)
  exact ⟨a, hy⟩
theorem arg_int (hval : Value.okWide Try.prog W r b0 3 v) (h : DataW.Trod enc Try.prog W 0 sp held 3 v d ps) : ∃ a : Int, (-9223372036854775808 ≤ a ∧ a ≤ 9223372036854775807) ∧ Rd Try.prog md W (fun _ => False) (.ty 3) (.int a) v := by
  obtain ⟨y, hy⟩ := arg_rd (md := md) wfP lawTs_plain (by decide) hval h
  obtain ⟨a, rfl, h1, h2⟩ := rd_int hy.rd (k := .i64) (by kernel_rfl)
  exact ⟨a, ⟨h1, h2⟩, hy⟩
theorem arg_num (hval : Value.okWide Try.prog W r b0 54 v) (h : DataW.Trod enc Try.prog W 0 sp held 54 v d ps) : ∃ n : Num, (n.top.length ≤ maxLen ∧ n.bot.length ≤ maxLen) ∧ Rd Try.prog md W (fun _ => False) (.ty 54) (dN n) v := by
  obtain ⟨y, hy⟩ := arg_rd (md := md) wfP lawTs_plain (by decide) hval h
  obtain ⟨n, rfl, h1, h2⟩ := rd_num hy.rd
  exact ⟨n, ⟨h1, h2⟩, hy⟩
end
end Go.Proofs.Ytfnmaeniekggeaa
set_option maxRecDepth 100000
namespace Go.Proofs.Ytfnmaeniekggeaa

theorem Fits.len {a : Arr} (h : Fits a) : a.cells.length ≤ 9223372036854775807 := by cases h; assumption
theorem Fits.sh {a : Arr} (h : Fits a) : a.shape.length ≤ 9223372036854775807 := by cases h; assumption
theorem Fits.shR {a : Arr} (h : Fits a) : ∀ x ∈ a.shape, inR x := by cases h; assumption
/-- What a cell's lists may be. -/
def FitsC (c : Cell) : Prop := c.n.top.length ≤ 9223372036854775807 ∧ c.n.bot.length ≤ 9223372036854775807 ∧ c.inn.length ≤ 9223372036854775807 ∧ ∀ x ∈ c.inn, Fits x
theorem Fits.cell {a : Arr} (h : Fits a) : ∀ c ∈ a.cells, FitsC c := by
  cases h with
  | mk h1 h2 h3 h5 h4 => exact fun c hc => ⟨(h3 c hc).1, (h3 c hc).2.1, (h3 c hc).2.2, h4 c hc⟩
theorem Fits.of {s : Lab} {sh : List Int} {cs : List Cell} (h1 : sh.length ≤ 9223372036854775807) (h2 : cs.length ≤ 9223372036854775807) (h3 : ∀ x ∈ sh, inR x) (h4 : ∀ c ∈ cs, FitsC c) : Fits (.mk s sh cs) :=
  .mk h1 h2 (fun c hc => ⟨(h4 c hc).1, (h4 c hc).2.1, (h4 c hc).2.2.1⟩) h3 (fun c hc => (h4 c hc).2.2.2)

mutual
def totA : Arr → Lab
  | .mk s _ cs => totCs s cs
def totCs : Lab → List (CellF Arr) → Lab
  | l, [] => l
  | l, c :: cs => totCs (totC l c) cs
def totC : Lab → CellF Arr → Lab
  | l, ⟨cl, _, _, _, inn⟩ => totAs (l ||| cl) inn
def totAs : Lab → List Arr → Lab
  | l, [] => l
  | l, a :: as_ => totAs (l ||| totA a) as_
end
theorem totAs_fold : ∀ (as_ : List Arr) (l : Lab), totAs l as_ = as_.foldl (fun l x => l ||| totA x) l
  | [], l => by simp [totAs]
  | a :: as_, l => by simp [totAs, totAs_fold as_]
theorem totC_eq (l : Lab) (c : Cell) : totC l c = c.inn.foldl (fun l x => l ||| totA x) (l ||| c.l) := by cases c; rw [totC, totAs_fold]
theorem totCs_fold : ∀ (cs : List Cell) (l : Lab), totCs l cs = cs.foldl totC l
  | [], l => by simp [totCs]
  | c :: cs, l => by simp [totCs, totCs_fold cs]
theorem totA_eq (a : Arr) : totA a = a.cells.foldl totC a.s := by cases a; rw [totA, totCs_fold]; rfl

/-- One cell without axes that is no box. -/
def simpleA (a : Arr) : Bool := match a.shape, a.cells with
  | [], [c] => decide (¬ c.kind = 2)
  | _, _ => false
def boxOK (c : Cell) (r : Arr → Bool) : Bool := match c.inn with
  | [x] => !simpleA x && r x
  | _ => false
def cellR (k : Bool) (r : Arr → Bool) (c : Cell) : Bool :=
  if c.kind = 0 then decide (c.c = 0 ∧ c.inn.length = 0) && rightN c.n
  else if c.kind = 1 then decide (c.n = .zero ∧ c.inn.length = 0) && mayC c.c
  else decide (c.kind = 2 ∧ c.n = .zero ∧ c.c = 0) && (k && boxOK c r)
def rightA : Nat → Arr → Bool
  | 0, a => decide (countS a.shape = ((a.cells.length : Int), 0)) && a.cells.all (cellR false (fun _ => false))
  | d + 1, a => decide (countS a.shape = ((a.cells.length : Int), 0)) && a.cells.all (cellR true (rightA d))
def rightC : Nat → Cell → Bool
  | 0 => cellR false (fun _ => false)
  | d + 1 => cellR true (rightA d)
theorem rightA_eq (d : Nat) (a : Arr) : rightA d a = (decide (countS a.shape = ((a.cells.length : Int), 0)) && a.cells.all (rightC d)) := by cases d <;> rfl

theorem simple_tree {Q : List D → Prop} (a : Arr) (hq : Q [.bool (simpleA a)]) : (Tree.br (decide ((a.shape.length : Int) = 0)) (.br (decide ((a.cells.length : Int) = 1)) (.br (decide (0 ≤ (0 : Int))) (.br (decide (0 < (a.cells.length : Int))) (.ret [D.bool (decide (¬ (((((a.cells.map dC).getD (Int.toNat 0) D.nil).fld 1).toInt) = 2)))]) .fail) .fail) (.ret [D.bool false])) (.ret [D.bool false])).wp Try.prog md Q := by
  unfold simpleA at hq
  refine wp_decs (fun h1 => wp_decs (fun h2 => ?_) (fun h2 => wp_ret ?_)) (fun h1 => wp_ret ?_)
  · match hs : a.shape, hc : a.cells with
    | [], [c] =>
      rw [hs, hc] at hq
      exact wp_dec (by omega) (wp_dec (by simp) (wp_ret (by simpa [Int.toNat] using hq)))
    | x :: xs, _ => rw [hs] at h1; simp at h1; omega
    | _, [] => rw [hc] at h2; simp at h2
    | _, x :: y :: xs => rw [hc] at h2; simp at h2; omega
  · match hs : a.shape, hc : a.cells with
    | [], [c] => rw [hc] at h2; simp at h2
    | x :: xs, _ => rw [hs] at hq; exact hq
    | [], [] => rw [hs, hc] at hq; exact hq
    | [], x :: y :: xs => rw [hs, hc] at hq; exact hq
  · match hs : a.shape, hc : a.cells with
    | [], _ => rw [hs] at h1; simp at h1
    | x :: xs, _ => rw [hs] at hq; exact hq
theorem ref08_Simple_sp (a : Arr) : Sp 47 [dA a] [.bool (simpleA a)] := by
  refine sound_ 0 (ref08_Simple_tree _ _) ?_
  simp only [dA_0, dA_1, dA_2, dC_0, dC_1, dC_2, dC_3, dC_4, dN_0, dN_1, dN_2, els_sl, els_dI, els_dL, List.length_map, Int.toNat_natCast, toInt_int, toInt_dB, toBool_bool, getD_c0, getD_c1, int_beq, int_bne, not_dec, dInt_dB, Int.toNat_zero]
  exact simple_tree a rfl
theorem ref08_zero_sp (n : Num) : Sp 103 [dN n] [.bool (decide (n = .zero))] := by
  refine sound_ 0 (ref08_zero_tree _ _) ?_
  simp only [dN_0, dN_1, dN_2, els_dL, List.length_map, toBool_bool, int_beq]
  have e : (n = Num.zero) ↔ (n.neg = false ∧ n.top.length = 0 ∧ n.bot.length = 0) := by
    rw [num_eq, List.length_eq_zero_iff, List.length_eq_zero_iff]; rfl
  refine wp_br (fun h1 => wp_decs (fun h2 => wp_ret ?_) (fun h2 => wp_ret ?_)) (fun h1 => wp_ret ?_)
  · congr 2; rw [decide_eq_decide, e]; exact ⟨fun h => ⟨by simpa using h1, by omega, by omega⟩, fun h => by omega⟩
  · rw [decide_eq_false]; rw [e]; omega
  · rw [decide_eq_false]; rw [e]; simp at h1; simp [h1]
theorem ref08_Cell_step (d : Nat) (c : Cell) (hc : FitsC c) (hd : d ≤ 100) (ih : ∀ e, e + 1 = d → ∀ a, Fits a → Sp 17 [dA a, .int (e : Int)] [.bool (rightA e a)]) : Sp 73 [dC c, .int (d : Int)] [.bool (rightC d c)] := by
  suffices key : ∀ (k : Bool) (r : Arr → Bool), (k = true ↔ 0 < d) → (∀ a, k = true → Fits a → Sp 17 [dA a, .int ((d : Int) - 1)] [.bool (r a)]) → Sp 73 [dC c, .int (d : Int)] [.bool (cellR k r c)] by
    cases d with
    | zero => exact key false (fun _ => false) (by simp) (by simp)
    | succ e => exact key true (rightA e) (by simp) (fun a _ ha => by have := ih e rfl a ha; simpa using this)
  intro k r hk hr
  refine sound_ 0 (ref08_Cell_tree _ _ _) ?_
  simp only [dA_0, dA_1, dA_2, dC_0, dC_1, dC_2, dC_3, dC_4, dN_0, dN_1, dN_2, els_sl, els_dI, els_dL, List.length_map, Int.toNat_natCast, toInt_int, toInt_dB, toBool_bool, getD_c0, getD_c1, int_beq, int_bne, not_dec, dInt_dB, Int.toNat_zero]
  unfold cellR
  refine wp_decs (fun h0 => ?_) (fun h0 => ?_)
  · rw [if_pos h0]
    refine wp_decs (fun h1 => wp_decs (fun h2 => wp_call (ref04_Right_sp c.n) (wp_ret ?_)) (fun h2 => wp_ret ?_)) (fun h1 => wp_ret ?_)
    · rw [decide_eq_true ⟨h1, by omega⟩]; rfl
    · rw [decide_eq_false (by omega)]; rfl
    · rw [decide_eq_false (by omega)]; rfl
  rw [if_neg h0]
  refine wp_decs (fun h0 => wp_call (ref08_zero_sp c.n) ?_) (fun h0 => ?_)
  · rw [if_pos h0]
    simp only [getD_c0, toBool_bool]
    refine wp_decs (fun h1 => wp_decs (fun h2 => wp_call (ref06_May_sp c.c) (wp_ret ?_)) (fun h2 => wp_ret ?_)) (fun h1 => wp_ret ?_)
    · rw [decide_eq_true ⟨h1, by omega⟩]; rfl
    · rw [decide_eq_false (fun hh => h2 (by omega))]; rfl
    · rw [decide_eq_false (fun hh => h1 hh.1)]; rfl
  rw [if_neg h0]
  refine wp_decs (fun h0 => wp_call (ref08_zero_sp c.n) ?_) (fun h0 => wp_ret (by rw [decide_eq_false (fun hh => h0 hh.1)]; rfl))
  simp only [getD_c0, toBool_bool]
  refine wp_decs (fun h1 => wp_decs (fun h2 => wp_decs (fun h3 => wp_decs (fun h4 => ?_) (fun h4 => wp_ret ?_)) (fun h3 => wp_ret ?_)) (fun h2 => wp_ret ?_)) (fun h1 => wp_ret ?_)
  · have hkt := hk.2 (by omega)
    rw [show decide (c.kind = 2 ∧ c.n = .zero ∧ c.c = 0) = true from decide_eq_true ⟨h0, h1, h2⟩, hkt, Bool.true_and, Bool.true_and]
    unfold boxOK
    match hi : c.inn with
    | [] => rw [hi] at h3; simp at h3
    | x :: y :: xs => rw [hi] at h3; simp at h3; omega
    | [x] =>
      simp only [List.map_cons, List.map_nil, Int.toNat_zero, getD_c0, List.length_cons, List.length_nil]
      refine wp_dec (by omega) (wp_dec (by omega) (wp_call (ref08_Simple_sp x) ?_))
      simp only [getD_c0, toBool_bool]
      refine wp_br (fun h5 => wp_dec (by omega) (wp_dec (by omega) ?_)) (fun h5 => wp_ret (by rw [h5]; rfl))
      rw [wrap64 (by omega) (by omega)]
      refine wp_call (hr x hkt (hc.2.2.2 x (by rw [hi]; simp))) (wp_ret ?_)
      rw [h5]; rfl
  · have : k = false := by cases k with
      | false => rfl
      | true => exact absurd (hk.1 rfl) (by omega)
    rw [this, Bool.false_and, Bool.and_false]
  · have : boxOK c r = false := by
      unfold boxOK
      match hi : c.inn with
      | [] => rfl
      | x :: y :: xs => rfl
      | [x] => rw [hi] at h3; simp at h3
    rw [this, Bool.and_false, Bool.and_false]
  · rw [decide_eq_false (fun hh => h2 hh.2.2)]; rfl
  · rw [decide_eq_false (fun hh => h1 hh.2.1)]; rfl
theorem ref08_Right_step (d : Nat) (a : Arr) (ha : Fits a) (ih : ∀ c, FitsC c → Sp 73 [dC c, .int (d : Int)] [.bool (rightC d c)]) : Sp 17 [dA a, .int (d : Int)] [.bool (rightA d a)] := by
  have hl := ha.len
  refine sound_ (a.cells.length + 1) (ref08_Right_tree _ _ _) ?_
  simp only [dA_0, dA_1, dA_2, dC_0, dC_1, dC_2, dC_3, dC_4, dN_0, dN_1, dN_2, els_sl, els_dI, els_dL, List.length_map, Int.toNat_natCast, toInt_int, toInt_dB, toBool_bool, getD_c0, getD_c1, int_beq, int_bne, not_dec, dInt_dB, Int.toNat_zero]
  refine wp_call (ref07_Count_sp a.shape) ?_
  rw [rightA_eq]
  simp only [getD_c0, getD_c1, toInt_int]
  refine wp_decs (fun h => wp_ret ?_) (fun h => wp_decs (fun h' => wp_ret ?_) (fun h' => ?_))
  · rw [decide_eq_false]; rfl
    intro hh; rw [hh] at h; exact h rfl
  · rw [decide_eq_false]; rfl
    intro hh; rw [hh] at h'; exact h' rfl
  · have hc : countS a.shape = ((a.cells.length : Int), 0) := Prod.ext (by simpa using h') (by simpa using h)
    rw [hc, decide_eq_true rfl, Bool.true_and]
    have key := loop_list (P := Try.prog) (md := md) a.cells (fun m k (_ : Unit) => ref08_Right_l5 (a.cells.length + 1) m (d : Int) (a.cells.length : Int) (k : Int) (dA a)) (fun rest _ => [.bool (rest.all (rightC d))]) (fun _ _ => True)
      (fun m k s hk _ => by
        simp only [ref08_Right_l5_succ]
        exact wp_ndec (by omega) (wp_ret rfl))
      (fun m k s x rest hd _ ih' => by
        obtain ⟨h1, h2, h3⟩ := drop_cons hd
        simp only [ref08_Right_l5_succ, dA_0, dA_1, dA_2, dC_0, dC_1, dC_2, dC_3, dC_4, dN_0, dN_1, dN_2, els_sl, els_dI, els_dL, List.length_map, Int.toNat_natCast, toInt_int, toInt_dB, toBool_bool, getD_c0, getD_c1, int_beq, int_bne, not_dec, dInt_dB, Int.toNat_zero, getD_map h2, wrap_succ (show k < 9223372036854775807 by omega)]
        repeat (refine wp_dec (by omega) ?_)
        refine wp_call (ih x (ha.cell x (List.mem_of_getElem? h2))) ?_
        simp only [getD_c0, toBool_bool, List.all_cons]
        refine wp_br (fun h4 => wp_ret ?_) (fun h4 => ?_)
        · simp at h4; rw [h4]; rfl
        · simp at h4; rw [h4, Bool.true_and]; exact ih' () trivial)
      (a.cells.length + 1) 0 () (by omega) (by omega) trivial
    exact key
theorem ref08_Right_all : ∀ d : Nat, d ≤ 100 → (∀ c, FitsC c → Sp 73 [dC c, .int (d : Int)] [.bool (rightC d c)]) ∧ ∀ a, Fits a → Sp 17 [dA a, .int (d : Int)] [.bool (rightA d a)]
  | 0, hd => by
    have hc : ∀ c, FitsC c → Sp 73 [dC c, .int ((0 : Nat) : Int)] [.bool (rightC 0 c)] := fun c hc => ref08_Cell_step 0 c hc hd (fun e he => by omega)
    exact ⟨hc, fun a ha => ref08_Right_step 0 a ha hc⟩
  | d + 1, hd => by
    have ih := ref08_Right_all d (by omega)
    have hc : ∀ c, FitsC c → Sp 73 [dC c, .int ((d + 1 : Nat) : Int)] [.bool (rightC (d + 1) c)] := fun c hc => ref08_Cell_step (d + 1) c hc hd (fun e he => by
      have : e = d := by omega
      subst this; exact ih.2)
    exact ⟨hc, fun a ha => ref08_Right_step (d + 1) a ha hc⟩
theorem ref08_Right_sp (a : Arr) (ha : Fits a) : Sp 17 [dA a, .int 8] [.bool (rightA 8 a)] := (ref08_Right_all 8 (by decide)).2 a ha
/-- How many of so many parts are left behind an array. -/
def w64 (x : Int) : Int := IntKind.wrap .i64 x
def leftAs (r : Arr → Int → Int) : List Arr → Int → Int
  | [], n => n
  | a :: as_, n => if 0 ≤ n then leftAs r as_ (r a n) else n
def leftCs (r : Arr → Int → Int) : List Cell → Int → Int
  | [], n => n
  | c :: cs, n => if 0 ≤ n then leftCs r cs (leftAs r c.inn (w64 (w64 (w64 (n - 1) - (c.n.top.length : Int)) - (c.n.bot.length : Int)))) else n
def leftA : Nat → Arr → Int → Int
  | 0, _, _ => -1
  | d + 1, a, n => leftCs (leftA d) a.cells (w64 (w64 (n - 1) - (a.shape.length : Int)))
def fewA (a : Arr) : Bool := decide (0 ≤ leftA 12 a 4000)
theorem ref08_left_sp : ∀ (d : Nat), d ≤ 100 → ∀ (a : Arr), Fits a → ∀ n : Int, Sp 83 [dA a, .int (d : Int), .int n] [.int (leftA d a n)]
  | 0, _, a, ha, n => sound_ 0 (ref08_left_tree _ _ _ _) (wp_tt rfl (wp_ret rfl))
  | d + 1, hd, a, ha, n => by
    obtain ⟨N, hN⟩ := bigFuel
    have hl := ha.len
    refine sound_ N (ref08_left_tree _ _ _ _) ?_
    simp only [dA_0, dA_1, dA_2, dC_0, dC_1, dC_2, dC_3, dC_4, dN_0, dN_1, dN_2, els_sl, els_dI, els_dL, List.length_map, Int.toNat_natCast, toInt_int, toInt_dB, toBool_bool, getD_c0, getD_c1, int_beq, int_bne, not_dec, dInt_dB, Int.toNat_zero]
    refine wp_ndec (by omega) ?_
    have key := loop_list (P := Try.prog) (md := md) a.cells (fun m k (n : Int) => ref08_left_l5 N m ((d + 1 : Nat) : Int) n (k : Int) (dA a)) (fun rest n => [.int (leftCs (leftA d) rest n)]) (fun _ _ => True)
      (fun m k n hk _ => by
        simp only [ref08_left_l5_succ, dA_0, dA_1, dA_2, dC_0, dC_1, dC_2, dC_3, dC_4, dN_0, dN_1, dN_2, els_sl, els_dI, els_dL, List.length_map, Int.toNat_natCast, toInt_int, toInt_dB, toBool_bool, getD_c0, getD_c1, int_beq, int_bne, not_dec, dInt_dB, Int.toNat_zero]
        exact wp_ndec (by omega) (wp_ret rfl))
      (fun m k n c rest hdr _ ih => by
        obtain ⟨h1, h2, h3⟩ := drop_cons hdr
        have hc := ha.cell c (List.mem_of_getElem? h2)
        have hlc := hc.2.2.1
        simp only [ref08_left_l5_succ, dA_0, dA_1, dA_2, dC_0, dC_1, dC_2, dC_3, dC_4, dN_0, dN_1, dN_2, els_sl, els_dI, els_dL, List.length_map, Int.toNat_natCast, toInt_int, toInt_dB, toBool_bool, getD_c0, getD_c1, int_beq, int_bne, not_dec, dInt_dB, Int.toNat_zero, getD_map h2, leftCs]
        refine wp_dec (by omega) (wp_decs (fun hn => ?_) (fun hn => wp_ret (by rw [if_neg hn])))
        rw [if_pos hn]
        repeat (refine wp_dec (by omega) ?_)
        have key := loop_list (P := Try.prog) (md := md) c.inn (fun m' j (n : Int) => ref08_left_l9 N m m' ((d + 1 : Nat) : Int) n (k : Int) (j : Int) (dA a)) (fun rest' n => [.int (leftCs (leftA d) rest (leftAs (leftA d) rest' n))]) (fun _ _ => True)
          (fun m' j n hj _ => by
            simp only [ref08_left_l9_succ, dA_0, dA_1, dA_2, dC_0, dC_1, dC_2, dC_3, dC_4, dN_0, dN_1, dN_2, els_sl, els_dI, els_dL, List.length_map, Int.toNat_natCast, toInt_int, toInt_dB, toBool_bool, getD_c0, getD_c1, int_beq, int_bne, not_dec, dInt_dB, Int.toNat_zero, getD_map h2, wrap_succ (show k < 9223372036854775807 by omega), leftAs]
            repeat (refine wp_dec (by omega) ?_)
            exact wp_ndec (by omega) (ih _ trivial))
          (fun m' j n x rest' hdr' _ ih' => by
            obtain ⟨g1, g2, g3⟩ := drop_cons hdr'
            simp only [ref08_left_l9_succ, dA_0, dA_1, dA_2, dC_0, dC_1, dC_2, dC_3, dC_4, dN_0, dN_1, dN_2, els_sl, els_dI, els_dL, List.length_map, Int.toNat_natCast, toInt_int, toInt_dB, toBool_bool, getD_c0, getD_c1, int_beq, int_bne, not_dec, dInt_dB, Int.toNat_zero, getD_map h2, getD_map g2, wrap_succ (show k < 9223372036854775807 by omega), wrap_succ (show j < 9223372036854775807 by omega), leftAs]
            refine wp_dec (by omega) (wp_dec (by omega) (wp_dec (by omega) (wp_decs (fun hn => ?_) (fun hn => by rw [if_neg hn]; exact ih _ trivial))))
            rw [if_pos hn]
            repeat (refine wp_dec (by omega) ?_)
            rw [wrap64 (by omega) (by omega), show ((d + 1 : Nat) : Int) - 1 = (d : Int) by omega]
            exact wp_call (ref08_left_sp d (by omega) x (hc.2.2.2 x (List.mem_of_getElem? g2)) n) (ih' _ trivial))
          N 0 (w64 (w64 (w64 (n - 1) - (c.n.top.length : Int)) - (c.n.bot.length : Int))) (by omega) (by omega) trivial
        exact key)
      N 0 (w64 (w64 (n - 1) - (a.shape.length : Int))) (by omega) (by omega) trivial
    exact key
theorem ref08_Few_sp (a : Arr) (ha : Fits a) : Sp 40 [dA a] [.bool (fewA a)] := sound_ 0 (ref08_Few_tree _ _) (wp_call (ref08_left_sp 12 (by decide) a ha 4000) (wp_ret rfl))
/-- Axes that make few places. -/
def thinS : List Int → Int → Int
  | [], n => n
  | x :: xs, n => if n ≤ 100000 then thinS xs (if 0 < x then w64 (n * x) else n) else n
def okT (n : Int) : Bool := decide (¬ 100000 < n)
mutual
def thinA : Arr → Bool
  | .mk _ sh cs => okT (thinS sh 1) && thinCs cs
def thinCs : List (CellF Arr) → Bool
  | [] => true
  | c :: cs => thinC c && thinCs cs
def thinC : CellF Arr → Bool
  | ⟨_, _, _, _, inn⟩ => thinAs inn
def thinAs : List Arr → Bool
  | [] => true
  | a :: as_ => thinA a && thinAs as_
end
theorem thinA_eq (a : Arr) : thinA a = (okT (thinS a.shape 1) && thinCs a.cells) := by cases a; rw [thinA]; rfl
theorem thinC_eq (c : Cell) : thinC c = thinAs c.inn := by cases c; rw [thinC]
theorem ref08_thin_sp (a : Arr) : Fits a → Sp 64 [dA a] [.bool (thinA a)] := by
  induction a using Arr.ind with
  | h s sh cs IH =>
    intro ha
    have hl := ha.len
    have hs := ha.sh
    have IH' : ∀ c ∈ (Arr.mk s sh cs).cells, ∀ x ∈ c.inn, Fits x → Sp 64 [dA x] [.bool (thinA x)] := IH
    generalize Arr.mk s sh cs = a at *
    obtain ⟨N, hN⟩ := bigFuel
    refine sound_ N (ref08_thin_tree _ _) ?_
    rw [thinA_eq]
    have inner : Tw (ref08_thin_l10 N N 0 (dA a)) [.bool (thinCs a.cells)] := by
      have key := loop_list (P := Try.prog) (md := md) a.cells (fun m k (_ : Unit) => ref08_thin_l10 N m (k : Int) (dA a)) (fun rest _ => [.bool (thinCs rest)]) (fun _ _ => True)
        (fun m k n hk _ => by
          simp only [ref08_thin_l10_succ, dA_0, dA_1, dA_2, dC_0, dC_1, dC_2, dC_3, dC_4, dN_0, dN_1, dN_2, els_sl, els_dI, els_dL, List.length_map, Int.toNat_natCast, toInt_int, toInt_dB, toBool_bool, getD_c0, getD_c1, int_beq, int_bne, not_dec, dInt_dB, Int.toNat_zero]
          exact wp_ndec (by omega) (wp_ret (by rw [thinCs])))
        (fun m k n c rest hdr _ ih => by
          obtain ⟨h1, h2, h3⟩ := drop_cons hdr
          have hc := ha.cell c (List.mem_of_getElem? h2)
          have hlc := hc.2.2.1
          simp only [ref08_thin_l10_succ, dA_0, dA_1, dA_2, dC_0, dC_1, dC_2, dC_3, dC_4, dN_0, dN_1, dN_2, els_sl, els_dI, els_dL, List.length_map, Int.toNat_natCast, toInt_int, toInt_dB, toBool_bool, getD_c0, getD_c1, int_beq, int_bne, not_dec, dInt_dB, Int.toNat_zero, getD_map h2]
          repeat (refine wp_dec (by omega) ?_)
          rw [thinCs, thinC_eq]
          have key := loop_list (P := Try.prog) (md := md) c.inn (fun m' j (_ : Unit) => ref08_thin_l13 N m m' (k : Int) (j : Int) (dA a)) (fun rest' _ => [.bool (thinAs rest' && thinCs rest)]) (fun _ _ => True)
            (fun m' j n hj _ => by
              simp only [ref08_thin_l13_succ, dA_0, dA_1, dA_2, dC_0, dC_1, dC_2, dC_3, dC_4, dN_0, dN_1, dN_2, els_sl, els_dI, els_dL, List.length_map, Int.toNat_natCast, toInt_int, toInt_dB, toBool_bool, getD_c0, getD_c1, int_beq, int_bne, not_dec, dInt_dB, Int.toNat_zero, getD_map h2, wrap_succ (show k < 9223372036854775807 by omega)]
              repeat (refine wp_dec (by omega) ?_)
              rw [thinAs, Bool.true_and]
              exact wp_ndec (by omega) (ih () trivial))
            (fun m' j n x rest' hdr' _ ih' => by
              obtain ⟨g1, g2, g3⟩ := drop_cons hdr'
              simp only [ref08_thin_l13_succ, dA_0, dA_1, dA_2, dC_0, dC_1, dC_2, dC_3, dC_4, dN_0, dN_1, dN_2, els_sl, els_dI, els_dL, List.length_map, Int.toNat_natCast, toInt_int, toInt_dB, toBool_bool, getD_c0, getD_c1, int_beq, int_bne, not_dec, dInt_dB, Int.toNat_zero, getD_map h2, getD_map g2, wrap_succ (show j < 9223372036854775807 by omega)]
              repeat (refine wp_dec (by omega) ?_)
              refine wp_call (IH' c (List.mem_of_getElem? h2) x (List.mem_of_getElem? g2) (hc.2.2.2 x (List.mem_of_getElem? g2))) ?_
              simp only [getD_c0, toBool_bool]
              rw [thinAs]
              refine wp_br (fun e => wp_ret ?_) (fun e => ?_)
              · simp at e; rw [e]; rfl
              · simp at e; rw [e, Bool.true_and]; exact ih' () trivial)
            N 0 () (by omega) (by omega) trivial
          exact key)
        N 0 () (by omega) (by omega) trivial
      exact key
    have fin : ∀ n : Int, Tw (.br (decide (100000 < n)) (.ret [D.bool false]) (ref08_thin_l10 N N 0 (dA a))) [.bool (okT n && thinCs a.cells)] := fun n => by
      unfold okT
      refine wp_decs (fun h => wp_ret ?_) (fun h => ?_)
      · rw [decide_eq_false (fun hh => hh h)]; rfl
      · rw [decide_eq_true h, Bool.true_and]; exact inner
    have key := loop_list (P := Try.prog) (md := md) a.shape (fun m k (n : Int) => ref08_thin_l3 N m n (k : Int) (dA a)) (fun rest n => [.bool (okT (thinS rest n) && thinCs a.cells)]) (fun _ _ => True)
      (fun m k n hk _ => by
        simp only [ref08_thin_l3_succ, dA_0, dA_1, dA_2, dC_0, dC_1, dC_2, dC_3, dC_4, dN_0, dN_1, dN_2, els_sl, els_dI, els_dL, List.length_map, Int.toNat_natCast, toInt_int, toInt_dB, toBool_bool, getD_c0, getD_c1, int_beq, int_bne, not_dec, dInt_dB, Int.toNat_zero]
        exact wp_ndec (by omega) (fin n))
      (fun m k n x rest hdr _ ih => by
        obtain ⟨h1, h2, h3⟩ := drop_cons hdr
        simp only [ref08_thin_l3_succ, dA_0, dA_1, dA_2, dC_0, dC_1, dC_2, dC_3, dC_4, dN_0, dN_1, dN_2, els_sl, els_dI, els_dL, List.length_map, Int.toNat_natCast, toInt_int, toInt_dB, toBool_bool, getD_c0, getD_c1, int_beq, int_bne, not_dec, dInt_dB, Int.toNat_zero, getD_map h2, wrap_succ (show k < 9223372036854775807 by omega), thinS]
        refine wp_dec (by omega) (wp_decs (fun hn => wp_dec (by omega) (wp_dec (by omega) (wp_decs (fun hx => wp_dec (by omega) (wp_dec (by omega) ?_)) (fun hx => ?_)))) (fun hn => ?_))
        · rw [if_pos hn, if_pos hx]; exact ih _ trivial
        · rw [if_pos hn, if_neg hx]; exact ih _ trivial
        · rw [if_neg hn]; exact fin n)
      N 0 1 (by omega) (by omega) trivial
    exact key
def goodA (a : Arr) : Bool := fewA a && rightA 8 a && thinA a
theorem goodA_right {a : Arr} (h : goodA a = true) : rightA 8 a = true := by unfold goodA at h; simp at h; exact h.1.2
theorem ref08_Good_sp (a : Arr) (ha : Fits a) : Sp 12 [dA a] [.bool (goodA a)] := by
  refine sound_ 0 (ref08_Good_tree _ _) (wp_call (ref08_Few_sp a ha) ?_)
  unfold goodA
  simp only [getD_c0, toBool_bool]
  refine wp_br (fun e1 => wp_call (ref08_Right_sp a ha) ?_) (fun e1 => wp_ret (by rw [e1]; rfl))
  simp only [getD_c0, toBool_bool]
  refine wp_br (fun e2 => wp_call (ref08_thin_sp a ha) (wp_ret ?_)) (fun e2 => wp_ret (by rw [e2, Bool.and_false]; rfl))
  rw [e1, e2]; rfl
theorem ref08_Good_ex (a : Arr) (ha : Fits a) : ∃ b, (b = true → rightA 8 a = true) ∧ Sp 12 [dA a] [.bool b] := ⟨goodA a, goodA_right, ref08_Good_sp a ha⟩
theorem ref08_Total_sp (a : Arr) : Fits a → Sp 34 [dA a] [dB (totA a)] := by
  induction a using Arr.ind with
  | h s sh cs IH =>
    intro ha
    have hl := ha.len
    have IH' : ∀ c ∈ (Arr.mk s sh cs).cells, ∀ x ∈ c.inn, Fits x → Sp 34 [dA x] [dB (totA x)] := IH
    generalize Arr.mk s sh cs = a at *
    obtain ⟨N, hN⟩ := bigFuel
    refine sound_ N (ref08_Total_tree _ _) ?_
    rw [totA_eq]
    have key := loop_list (P := Try.prog) (md := md) a.cells (fun m k (l : Lab) => ref08_Total_l3 N m (l.toNat : Int) (k : Int) (dA a)) (fun rest l => [dB (rest.foldl totC l)]) (fun _ _ => True)
      (fun m k l hk _ => by
        simp only [ref08_Total_l3_succ, dA_0, dA_1, dA_2, dC_0, dC_1, dC_2, dC_3, dC_4, dN_0, dN_1, dN_2, els_sl, els_dI, els_dL, List.length_map, Int.toNat_natCast, toInt_int, toInt_dB, toBool_bool, getD_c0, getD_c1, int_beq, int_bne, not_dec, dInt_dB, Int.toNat_zero]
        exact wp_ndec (by omega) (wp_ret rfl))
      (fun m k l c rest hdr _ ih => by
        obtain ⟨h1, h2, h3⟩ := drop_cons hdr
        have hc := ha.cell c (List.mem_of_getElem? h2)
        have hlc := hc.2.2.1
        simp only [ref08_Total_l3_succ, dA_0, dA_1, dA_2, dC_0, dC_1, dC_2, dC_3, dC_4, dN_0, dN_1, dN_2, els_sl, els_dI, els_dL, List.length_map, Int.toNat_natCast, toInt_int, toInt_dB, toBool_bool, getD_c0, getD_c1, int_beq, int_bne, not_dec, dInt_dB, Int.toNat_zero, getD_map h2]
        repeat (refine wp_dec (by omega) ?_)
        refine wp_call (ref01_Join_sp l c.l) ?_
        simp only [getD_c0, toInt_dB, List.foldl_cons]
        rw [totC_eq]
        have key := loop_list (P := Try.prog) (md := md) c.inn (fun m' j (l : Lab) => ref08_Total_l7 N m m' (l.toNat : Int) (k : Int) (j : Int) (dA a)) (fun rest' l => [dB (rest.foldl totC (rest'.foldl (fun l x => l ||| totA x) l))]) (fun _ _ => True)
          (fun m' j l hj _ => by
            simp only [ref08_Total_l7_succ, dA_0, dA_1, dA_2, dC_0, dC_1, dC_2, dC_3, dC_4, dN_0, dN_1, dN_2, els_sl, els_dI, els_dL, List.length_map, Int.toNat_natCast, toInt_int, toInt_dB, toBool_bool, getD_c0, getD_c1, int_beq, int_bne, not_dec, dInt_dB, Int.toNat_zero, getD_map h2, wrap_succ (show k < 9223372036854775807 by omega)]
            repeat (refine wp_dec (by omega) ?_)
            exact wp_ndec (by omega) (ih _ trivial))
          (fun m' j l x rest' hdr' _ ih' => by
            obtain ⟨g1, g2, g3⟩ := drop_cons hdr'
            simp only [ref08_Total_l7_succ, dA_0, dA_1, dA_2, dC_0, dC_1, dC_2, dC_3, dC_4, dN_0, dN_1, dN_2, els_sl, els_dI, els_dL, List.length_map, Int.toNat_natCast, toInt_int, toInt_dB, toBool_bool, getD_c0, getD_c1, int_beq, int_bne, not_dec, dInt_dB, Int.toNat_zero, getD_map h2, getD_map g2, wrap_succ (show j < 9223372036854775807 by omega)]
            repeat (refine wp_dec (by omega) ?_)
            refine wp_call (IH' c (List.mem_of_getElem? h2) x (List.mem_of_getElem? g2) (hc.2.2.2 x (List.mem_of_getElem? g2))) (wp_call (ref01_Join_sp l (totA x)) ?_)
            exact ih' (l ||| totA x) trivial)
          N 0 (l ||| c.l) (by omega) (by omega) trivial
        exact key)
      N 0 a.s (by omega) (by omega) trivial
    simp only [dA_0, toInt_dB]
    exact key
/-- The same, with labels. -/
noncomputable def eqA (a b : Arr) : Bool := @decide (a = b) (Classical.propDecidable _)
noncomputable def eqC (a b : Cell) : Bool := @decide (a = b) (Classical.propDecidable _)
theorem eqA_iff {a b : Arr} : eqA a b = true ↔ a = b := by unfold eqA; exact @decide_eq_true_iff _ (Classical.propDecidable _)
theorem eqA_false {a b : Arr} (h : a ≠ b) : eqA a b = false := by cases e : eqA a b with
  | false => rfl
  | true => exact absurd (eqA_iff.1 e) h
theorem eqC_iff {a b : Cell} : eqC a b = true ↔ a = b := by unfold eqC; exact @decide_eq_true_iff _ (Classical.propDecidable _)
theorem eqC_false {a b : Cell} (h : a ≠ b) : eqC a b = false := by cases e : eqC a b with
  | false => rfl
  | true => exact absurd (eqC_iff.1 e) h
theorem eqA_self (a : Arr) : eqA a a = true := eqA_iff.2 rfl
theorem eqC_self (a : Cell) : eqC a a = true := eqC_iff.2 rfl
theorem cell_eq (a b : Cell) : (a = b) ↔ (a.l = b.l ∧ a.kind = b.kind ∧ a.c = b.c ∧ a.n = b.n ∧ a.inn = b.inn) := by
  cases a; cases b
  constructor
  · rintro ⟨⟩; exact ⟨rfl, rfl, rfl, rfl, rfl⟩
  · rintro ⟨h1, h2, h3, h4, h5⟩; dsimp only at h1 h2 h3 h4 h5; subst h1; subst h2; subst h3; subst h4; subst h5; rfl
theorem arr_eq (a b : Arr) : (a = b) ↔ (a.s = b.s ∧ a.shape = b.shape ∧ a.cells = b.cells) := by
  cases a; cases b; simp
/-- A loop that asks whether two lists are the same. -/
theorem same_loop {α : Type} {P : Program} {md : Nat → FMode} (a b : List α) (e : α → α → Bool) (he : ∀ x ∈ a, ∀ y, e x y = true ↔ x = y) (hlen : a.length = b.length) (r : Bool) (hr : r = true ↔ a = b) (L : Nat → Nat → Tree)
    (hend : ∀ m, ∀ Q : List D → Prop, Q [.bool true] → (L (m + 1) a.length).wp P md Q)
    (hstep : ∀ m k x y, ∀ Q : List D → Prop, a[k]? = some x → b[k]? = some y → (e x y = false → Q [.bool false]) → (e x y = true → (L m (k + 1)).wp P md Q) → (L (m + 1) k).wp P md Q) (N : Nat) (hN : a.length < N) : (L N 0).wp P md (fun zs => zs = [.bool r]) := by
  have key := loop_up (P := P) (md := md) a.length (fun m k (_ : Unit) => L m k) (fun _ _ => [.bool r]) (fun k _ => a.take k = b.take k)
    (fun m s h => by
      refine hend m _ ?_
      rw [List.take_of_length_le (Nat.le_refl _), List.take_of_length_le (by omega)] at h
      rw [hr.2 h])
    (fun m k s hk h ih => by
      have ha : a[k]? = some a[k] := List.getElem?_eq_getElem _
      have hb : b[k]? = some (b[k]'(by omega)) := List.getElem?_eq_getElem _
      refine hstep m k _ _ _ ha hb (fun hf => ?_) (fun ht => ih () ?_)
      · have : r = false := by
          cases hrr : r with
          | false => rfl
          | true =>
            have := hr.1 hrr
            subst this
            rw [(he a[k] (List.getElem_mem _) a[k]).2 rfl] at hf; cases hf
        rw [this]
      · have : a[k] = b[k] := (he a[k] (List.getElem_mem _) _).1 ht
        rw [List.take_succ_eq_append_getElem hk, List.take_succ_eq_append_getElem (by omega), h, this])
    N 0 () (by omega) (by omega) (by simp)
  exact key
theorem ref08_SameCell_step (a : Cell) (hf : FitsC a) (ih : ∀ x ∈ a.inn, Fits x → ∀ y, Sp 23 [dA x, dA y] [.bool (eqA x y)]) (b : Cell) : Sp 60 [dC a, dC b] [.bool (eqC a b)] := by
  refine sound_ (a.inn.length + 1) (ref08_SameCell_tree _ _ _) ?_
  have hl := hf.2.2.1
  simp only [dA_0, dA_1, dA_2, dC_0, dC_1, dC_2, dC_3, dC_4, dN_0, dN_1, dN_2, els_sl, els_dI, els_dL, List.length_map, Int.toNat_natCast, toInt_int, toInt_dB, toBool_bool, getD_c0, getD_c1, int_beq, int_bne, not_dec, dInt_dB, Int.toNat_zero]
  refine wp_decs (fun h => wp_ret ?_) (fun h1 => wp_decs (fun h => wp_ret ?_) (fun h2 => wp_decs (fun h => wp_ret ?_) (fun h3 => wp_call (ref04_Same_sp a.n b.n hf.1 hf.2.1) ?_)))
  · rw [eqC_false]; rintro rfl; exact h rfl
  · rw [eqC_false]; rintro rfl; exact h rfl
  · rw [eqC_false]; rintro rfl; exact h rfl
  simp only [getD_c0, toBool_bool, not_dec]
  refine wp_decs (fun h => wp_ret ?_) (fun h4 => wp_decs (fun h => wp_ret ?_) (fun h5 => ?_))
  · rw [eqC_false]; rintro rfl; exact h rfl
  · rw [eqC_false]; rintro rfl; exact h rfl
  have e1 : a.l = b.l := BitVec.eq_of_toNat_eq (by omega)
  refine same_loop (P := Try.prog) (md := md) a.inn b.inn eqA (fun x _ y => eqA_iff) (by omega) (eqC a b) ?_ (fun m k => ref08_SameCell_l4 (a.inn.length + 1) m (k : Int) (dC a) (dC b)) ?_ ?_ (a.inn.length + 1) (by omega)
  · rw [eqC_iff, cell_eq]
    have h2' := Classical.not_not.1 h2
    have h3' := Classical.not_not.1 h3
    have h4' := Classical.not_not.1 h4
    simp [e1, h2', h3', h4']
  · intro m Q hQ
    simp only [ref08_SameCell_l4_succ, dA_0, dA_1, dA_2, dC_0, dC_1, dC_2, dC_3, dC_4, dN_0, dN_1, dN_2, els_sl, els_dI, els_dL, List.length_map, Int.toNat_natCast, toInt_int, toInt_dB, toBool_bool, getD_c0, getD_c1, int_beq, int_bne, not_dec, dInt_dB, Int.toNat_zero]
    exact wp_ndec (by omega) (wp_ret hQ)
  · intro m k x y Q hx hy hF hT
    have hk : k < a.inn.length := (List.getElem?_eq_some_iff.1 hx).1
    simp only [ref08_SameCell_l4_succ, dA_0, dA_1, dA_2, dC_0, dC_1, dC_2, dC_3, dC_4, dN_0, dN_1, dN_2, els_sl, els_dI, els_dL, List.length_map, Int.toNat_natCast, toInt_int, toInt_dB, toBool_bool, getD_c0, getD_c1, int_beq, int_bne, not_dec, dInt_dB, Int.toNat_zero, getD_map hx, getD_map hy, wrap_succ (show k < 9223372036854775807 by omega)]
    repeat (refine wp_dec (by omega) ?_)
    refine wp_call (ih x (List.mem_of_getElem? hx) (hf.2.2.2 x (List.mem_of_getElem? hx)) y) ?_
    simp only [getD_c0, toBool_bool]
    refine wp_br (fun h => wp_ret (hF (by simpa using h))) (fun h => hT (by simpa using h))
theorem ref08_Same_sp (a : Arr) : Fits a → ∀ b, Sp 23 [dA a, dA b] [.bool (eqA a b)] := by
  induction a using Arr.ind with
  | h s sh cs IH =>
    intro ha b
    have hl := ha.len
    have IH' : ∀ c ∈ (Arr.mk s sh cs).cells, ∀ x ∈ c.inn, Fits x → ∀ y, Sp 23 [dA x, dA y] [.bool (eqA x y)] := IH
    generalize Arr.mk s sh cs = a at *
    refine sound_ (a.cells.length + 1) (ref08_Same_tree _ _ _) ?_
    simp only [dA_0, dA_1, dA_2, dC_0, dC_1, dC_2, dC_3, dC_4, dN_0, dN_1, dN_2, els_sl, els_dI, els_dL, List.length_map, Int.toNat_natCast, toInt_int, toInt_dB, toBool_bool, getD_c0, getD_c1, int_beq, int_bne, not_dec, dInt_dB, Int.toNat_zero]
    refine wp_decs (fun h => wp_ret ?_) (fun h1 => wp_call (ref07_Ints_sp a.shape b.shape ha.sh) ?_)
    · rw [eqA_false]; rintro rfl; exact h rfl
    simp only [getD_c0, toBool_bool, not_dec]
    refine wp_decs (fun h => wp_ret ?_) (fun h4 => wp_decs (fun h => wp_ret ?_) (fun h5 => ?_))
    · rw [eqA_false]; rintro rfl; exact h rfl
    · rw [eqA_false]; rintro rfl; exact h rfl
    have e1 : a.s = b.s := BitVec.eq_of_toNat_eq (by omega)
    refine same_loop (P := Try.prog) (md := md) a.cells b.cells eqC (fun x _ y => eqC_iff) (by omega) (eqA a b) ?_ (fun m k => ref08_Same_l4 (a.cells.length + 1) m (k : Int) (dA a) (dA b)) ?_ ?_ (a.cells.length + 1) (by omega)
    · rw [eqA_iff, arr_eq]
      have h4' := Classical.not_not.1 h4
      simp [e1, h4']
    · intro m Q hQ
      simp only [ref08_Same_l4_succ, dA_0, dA_1, dA_2, dC_0, dC_1, dC_2, dC_3, dC_4, dN_0, dN_1, dN_2, els_sl, els_dI, els_dL, List.length_map, Int.toNat_natCast, toInt_int, toInt_dB, toBool_bool, getD_c0, getD_c1, int_beq, int_bne, not_dec, dInt_dB, Int.toNat_zero]
      exact wp_ndec (by omega) (wp_ret hQ)
    · intro m k x y Q hx hy hF hT
      have hk : k < a.cells.length := (List.getElem?_eq_some_iff.1 hx).1
      simp only [ref08_Same_l4_succ, dA_0, dA_1, dA_2, dC_0, dC_1, dC_2, dC_3, dC_4, dN_0, dN_1, dN_2, els_sl, els_dI, els_dL, List.length_map, Int.toNat_natCast, toInt_int, toInt_dB, toBool_bool, getD_c0, getD_c1, int_beq, int_bne, not_dec, dInt_dB, Int.toNat_zero, getD_map hx, getD_map hy, wrap_succ (show k < 9223372036854775807 by omega)]
      repeat (refine wp_dec (by omega) ?_)
      refine wp_call (ref08_SameCell_step x (ha.cell x (List.mem_of_getElem? hx)) (IH' x (List.mem_of_getElem? hx)) y) ?_
      simp only [getD_c0, toBool_bool]
      refine wp_br (fun h => wp_ret (hF (by simpa using h))) (fun h => hT (by simpa using h))
theorem ref08_SameCell_sp (a b : Cell) (hf : FitsC a) : Sp 60 [dC a, dC b] [.bool (eqC a b)] := ref08_SameCell_step a hf (fun x _ hx y => ref08_Same_sp x hx y) b
/-- Small whole numbers; an error. -/
def intsCs : List Cell → Option (List Int)
  | [] => some []
  | c :: cs => if c.kind = 0 then (smallN c.n).bind (fun z => (intsCs cs).map (z :: ·)) else none
def intsA (a : Arr) : List Int × Int := if 1 < a.shape.length then ([], 5) else match intsCs a.cells with
  | some l => (l, 0)
  | none => ([], 3)
def intC (z : Int) : Cell := ⟨0, 0, ofZ z, 0, []⟩
def fillC (a : Arr) : Cell := match a.cells with
  | [] => intC 0
  | c :: _ => if c.kind = 1 then ⟨c.l, 1, .zero, 32, []⟩ else ⟨c.l, 0, ofZ 0, 0, []⟩
theorem smallN_inR {n : Num} {z : Int} (h : smallN n = some z) : inR z := by
  unfold smallN smO at h
  split at h
  · split at h
    · injection h with h; subst h; assumption
    · cases h
  · cases h
theorem intsCs_inR : ∀ {cs : List Cell} {l : List Int}, intsCs cs = some l → l.length = cs.length ∧ ∀ x ∈ l, inR x
  | [], l, h => by simp [intsCs] at h; subst h; simp
  | c :: cs, l, h => by
    simp only [intsCs] at h
    split at h
    · cases hn : smallN c.n with
      | none => rw [hn] at h; cases h
      | some z =>
        rw [hn] at h
        cases hc : intsCs cs with
        | none => rw [hc] at h; cases h
        | some l' =>
          rw [hc] at h
          injection h with h; subst h
          have := intsCs_inR hc
          exact ⟨by simp [this.1], fun x hx => by rcases List.mem_cons.1 hx with rfl | hx; exact smallN_inR hn; exact this.2 x hx⟩
    · cases h
def insD (out : List Int) : Option (List Int) → List D
  | some l => [dI (out ++ l), .int 0]
  | none => [.sl [], .int 3]
theorem insD_intsA {a : Arr} (h : ¬ 1 < a.shape.length) : insD [] (intsCs a.cells) = [dI (intsA a).1, .int (intsA a).2] := by
  unfold intsA; rw [if_neg h]; cases intsCs a.cells <;> rfl
theorem ref08_Ints_sp (a : Arr) (hl : a.cells.length ≤ 2048) (hn : ∀ c ∈ a.cells, c.n.top.length ≤ 32) : Sp 70 [dA a] [dI (intsA a).1, .int (intsA a).2] := by
  refine sound_ (a.cells.length + 1) (ref08_Ints_tree _ _) ?_
  simp only [dA_0, dA_1, dA_2, dC_0, dC_1, dC_2, dC_3, dC_4, dN_0, dN_1, dN_2, els_sl, els_dI, els_dL, List.length_map, Int.toNat_natCast, toInt_int, toInt_dB, toBool_bool, getD_c0, getD_c1, int_beq, int_bne, not_dec, dInt_dB, Int.toNat_zero]
  refine wp_decs (fun h => wp_ret ?_) (fun h => ?_)
  · unfold intsA; rw [if_pos (by omega)]; rfl
  · rw [← insD_intsA (by omega)]
    have key := loop_list (P := Try.prog) (md := md) a.cells (fun m k (out : List Int) => ref08_Ints_l5 (a.cells.length + 1) m (out.map .int) (k : Int) (dA a)) (fun rest out => insD out (intsCs rest)) (fun rest out => out.length + rest.length ≤ 2048)
      (fun m k out hk _ => by
        simp only [ref08_Ints_l5_succ, dA_0, dA_1, dA_2, dC_0, dC_1, dC_2, dC_3, dC_4, dN_0, dN_1, dN_2, els_sl, els_dI, els_dL, List.length_map, Int.toNat_natCast, toInt_int, toInt_dB, toBool_bool, getD_c0, getD_c1, int_beq, int_bne, not_dec, dInt_dB, Int.toNat_zero]
        exact wp_ndec (by omega) (wp_ret (by simp [intsCs, insD, dI])))
      (fun m k out c rest hdr hI ih => by
        obtain ⟨h1, h2, h3⟩ := drop_cons hdr
        have hm := List.mem_of_getElem? h2
        simp only [ref08_Ints_l5_succ, dA_0, dA_1, dA_2, dC_0, dC_1, dC_2, dC_3, dC_4, dN_0, dN_1, dN_2, els_sl, els_dI, els_dL, List.length_map, Int.toNat_natCast, toInt_int, toInt_dB, toBool_bool, getD_c0, getD_c1, int_beq, int_bne, not_dec, dInt_dB, Int.toNat_zero, getD_map h2, wrap_succ (show k < 9223372036854775807 by omega)]
        repeat (refine wp_dec (by omega) ?_)
        simp only [intsCs]
        refine wp_decs (fun hk => wp_ret ?_) (fun hk => ?_)
        · rw [if_neg hk]; rfl
        rw [if_pos (Classical.not_not.1 hk)]
        repeat (refine wp_dec (by omega) ?_)
        refine wp_call (ref04_Small_sp c.n (by have := hn c hm; omega)) ?_
        cases hs : smallN c.n with
        | none => exact wp_tt rfl (wp_ret rfl)
        | some z =>
          refine wp_ff rfl (wp_dec ?_ ?_)
          · simp only [List.length_cons, List.length_nil, bigN, List.length_map] at hI ⊢; omega
          · have := ih (out ++ [z]) (by simp only [List.length_append, List.length_cons, List.length_nil] at hI ⊢; omega)
            simp only [optI, getD_c0, toInt_int]
            rw [List.map_append] at this
            refine Tree.wp_mono this (fun ys hy => hy.trans ?_)
            cases intsCs rest with
            | none => rfl
            | some l => simp [insD])
      (a.cells.length + 1) 0 [] (by omega) (by omega) (by simpa using hl)
    exact key
theorem ref08_Int_sp (z : Int) (hz : inR z) : Sp 72 [.int z] [dC (intC z)] := by
  refine sound_ 0 (ref08_Int_tree _ _) (wp_call (ref04_Of_sp z hz) (wp_ret ?_))
  rw [dC_eq]; rfl
end Go.Proofs.Ytfnmaeniekggeaa
set_option maxRecDepth 100000
namespace Go.Proofs.Ytfnmaeniekggeaa

theorem array_Total_sp (a : Arr) : Fits a → Sp 48 [dA a] [dB (totA a)] := by
  induction a using Arr.ind with
  | h s sh cs IH =>
    intro ha
    have hl := ha.len
    have IH' : ∀ c ∈ (Arr.mk s sh cs).cells, ∀ x ∈ c.inn, Fits x → Sp 48 [dA x] [dB (totA x)] := IH
    generalize Arr.mk s sh cs = a at *
    obtain ⟨N, hN⟩ := bigFuel
    refine sound_ N (array_Total_tree _ _) ?_
    rw [totA_eq]
    have key := loop_list (P := Try.prog) (md := md) a.cells (fun m k (l : Lab) => array_Total_l3 N m (l.toNat : Int) (.sl (a.cells.map dC)) (a.cells.length : Int) (k : Int)) (fun rest l => [dB (rest.foldl totC l)]) (fun _ _ => True)
      (fun m k l hk _ => by
        simp only [array_Total_l3_succ, dA_0, dA_1, dA_2, dC_0, dC_1, dC_2, dC_3, dC_4, dN_0, dN_1, dN_2, els_sl, els_dI, els_dL, List.length_map, Int.toNat_natCast, toInt_int, toInt_dB, toBool_bool, getD_c0, getD_c1, int_beq, int_bne, not_dec, dInt_dB, Int.toNat_zero]
        exact wp_ndec (by omega) (wp_ret rfl))
      (fun m k l c rest hdr _ ih => by
        obtain ⟨h1, h2, h3⟩ := drop_cons hdr
        have hc := ha.cell c (List.mem_of_getElem? h2)
        have hlc := hc.2.2.1
        simp only [array_Total_l3_succ, dA_0, dA_1, dA_2, dC_0, dC_1, dC_2, dC_3, dC_4, dN_0, dN_1, dN_2, els_sl, els_dI, els_dL, List.length_map, Int.toNat_natCast, toInt_int, toInt_dB, toBool_bool, getD_c0, getD_c1, int_beq, int_bne, not_dec, dInt_dB, Int.toNat_zero, getD_map h2]
        repeat (refine wp_dec (by omega) ?_)
        refine wp_call (label_Join_sp l c.l) ?_
        simp only [getD_c0, toInt_dB, List.foldl_cons]
        rw [totC_eq]
        have key := loop_list (P := Try.prog) (md := md) c.inn (fun m' j (l : Lab) => array_Total_l7 N m m' (l.toNat : Int) (.sl (a.cells.map dC)) (a.cells.length : Int) (k : Int) (.sl (c.inn.map dA)) (c.inn.length : Int) (j : Int)) (fun rest' l => [dB (rest.foldl totC (rest'.foldl (fun l x => l ||| totA x) l))]) (fun _ _ => True)
          (fun m' j l hj _ => by
            simp only [array_Total_l7_succ, dA_0, dA_1, dA_2, dC_0, dC_1, dC_2, dC_3, dC_4, dN_0, dN_1, dN_2, els_sl, els_dI, els_dL, List.length_map, Int.toNat_natCast, toInt_int, toInt_dB, toBool_bool, getD_c0, getD_c1, int_beq, int_bne, not_dec, dInt_dB, Int.toNat_zero, getD_map h2, wrap_succ (show k < 9223372036854775807 by omega)]
            exact wp_ndec (by omega) (ih _ trivial))
          (fun m' j l x rest' hdr' _ ih' => by
            obtain ⟨g1, g2, g3⟩ := drop_cons hdr'
            simp only [array_Total_l7_succ, dA_0, dA_1, dA_2, dC_0, dC_1, dC_2, dC_3, dC_4, dN_0, dN_1, dN_2, els_sl, els_dI, els_dL, List.length_map, Int.toNat_natCast, toInt_int, toInt_dB, toBool_bool, getD_c0, getD_c1, int_beq, int_bne, not_dec, dInt_dB, Int.toNat_zero, getD_map h2, getD_map g2, wrap_succ (show j < 9223372036854775807 by omega)]
            repeat (refine wp_dec (by omega) ?_)
            refine wp_call (IH' c (List.mem_of_getElem? h2) x (List.mem_of_getElem? g2) (hc.2.2.2 x (List.mem_of_getElem? g2))) (wp_call (label_Join_sp l (totA x)) ?_)
            exact ih' (l ||| totA x) trivial)
          N 0 (l ||| c.l) (by omega) (by omega) trivial
        exact key)
      N 0 a.s (by omega) (by omega) trivial
    simp only [dA_0, dA_1, dA_2, dC_0, dC_1, dC_2, dC_3, dC_4, dN_0, dN_1, dN_2, els_sl, els_dI, els_dL, List.length_map, Int.toNat_natCast, toInt_int, toInt_dB, toBool_bool, getD_c0, getD_c1, int_beq, int_bne, not_dec, dInt_dB, Int.toNat_zero]
    exact key
theorem array_Ints_sp (a : Arr) (hl : a.cells.length ≤ 2048) (hn : ∀ c ∈ a.cells, c.n.top.length ≤ 32) : Sp 66 [dA a] [dI (intsA a).1, .int (intsA a).2] := by
  refine sound_ (a.cells.length + 1) (array_Ints_tree _ _) ?_
  simp only [dA_0, dA_1, dA_2, dC_0, dC_1, dC_2, dC_3, dC_4, dN_0, dN_1, dN_2, els_sl, els_dI, els_dL, List.length_map, Int.toNat_natCast, toInt_int, toInt_dB, toBool_bool, getD_c0, getD_c1, int_beq, int_bne, not_dec, dInt_dB, Int.toNat_zero, List.replicate_zero]
  refine wp_decs (fun h => wp_ret ?_) (fun h => ?_)
  · unfold intsA; rw [if_pos (by omega)]; rfl
  · rw [← insD_intsA (by omega)]
    refine wp_dec (by omega) (wp_dec (by omega) (wp_dec (by simp only [bigN]; omega) ?_))
    have key := loop_list (P := Try.prog) (md := md) a.cells (fun m k (out : List Int) => array_Ints_l5 (a.cells.length + 1) m (out.map .int) (.sl (a.cells.map dC)) (a.cells.length : Int) (k : Int)) (fun rest out => insD out (intsCs rest)) (fun rest out => out.length + rest.length ≤ 2048)
      (fun m k out hk _ => by
        simp only [array_Ints_l5_succ, dA_0, dA_1, dA_2, dC_0, dC_1, dC_2, dC_3, dC_4, dN_0, dN_1, dN_2, els_sl, els_dI, els_dL, List.length_map, Int.toNat_natCast, toInt_int, toInt_dB, toBool_bool, getD_c0, getD_c1, int_beq, int_bne, not_dec, dInt_dB, Int.toNat_zero]
        exact wp_ndec (by omega) (wp_ret (by simp [intsCs, insD, dI])))
      (fun m k out c rest hdr hI ih => by
        obtain ⟨h1, h2, h3⟩ := drop_cons hdr
        have hm := List.mem_of_getElem? h2
        simp only [array_Ints_l5_succ, dA_0, dA_1, dA_2, dC_0, dC_1, dC_2, dC_3, dC_4, dN_0, dN_1, dN_2, els_sl, els_dI, els_dL, List.length_map, Int.toNat_natCast, toInt_int, toInt_dB, toBool_bool, getD_c0, getD_c1, int_beq, int_bne, not_dec, dInt_dB, Int.toNat_zero, getD_map h2, wrap_succ (show k < 9223372036854775807 by omega)]
        repeat (refine wp_dec (by omega) ?_)
        simp only [intsCs]
        refine wp_call (ratio_Small_sp c.n (by have := hn c hm; omega)) ?_
        refine wp_decs (fun hk => wp_ret ?_) (fun hk => ?_)
        · rw [if_neg hk]; rfl
        rw [if_pos (Classical.not_not.1 hk)]
        cases hs : smallN c.n with
        | none => exact wp_tt rfl (wp_ret rfl)
        | some z =>
          refine wp_ff rfl (wp_dec ?_ ?_)
          · simp only [List.length_cons, List.length_nil, bigN, List.length_map] at hI ⊢; omega
          · have := ih (out ++ [z]) (by simp only [List.length_append, List.length_cons, List.length_nil] at hI ⊢; omega)
            simp only [optI, getD_c0, toInt_int]
            rw [List.map_append] at this
            refine Tree.wp_mono this (fun ys hy => hy.trans ?_)
            cases intsCs rest with
            | none => rfl
            | some l => simp [insD])
      (a.cells.length + 1) 0 [] (by omega) (by omega) (by simpa using hl)
    exact key
theorem array_Int_sp (z : Int) (hz : inR z) : Sp 77 [.int z] [dC (intC z)] := by
  refine sound_ 0 (array_Int_tree _ _) (wp_call (ratio_Of_sp z hz) (wp_ret ?_))
  rw [dC_eq]; rfl
def chrC (c : Int) : Cell := ⟨0, 1, .zero, c, []⟩
theorem array_Chr_sp (z : Int) : Sp 85 [.int z] [dC (chrC z)] := by
  refine sound_ 0 (array_Chr_tree _ _) (wp_ret ?_)
  rw [dC_eq]; rfl
theorem inR0 : inR 0 := by unfold inR; decide
theorem array_Fill_sp (a : Arr) : Sp 68 [dA a] [dC (fillC a)] := by
  refine sound_ 0 (array_Fill_tree _ _) ?_
  simp only [dA_0, dA_1, dA_2, dC_0, dC_1, dC_2, dC_3, dC_4, dN_0, dN_1, dN_2, els_sl, els_dI, els_dL, List.length_map, Int.toNat_natCast, toInt_int, toInt_dB, toBool_bool, getD_c0, getD_c1, int_beq, int_bne, not_dec, dInt_dB, Int.toNat_zero]
  unfold fillC
  match hc : a.cells with
  | [] => exact wp_dec (by simp) (wp_call (array_Int_sp 0 inR0) (wp_ret rfl))
  | c :: cs =>
    refine wp_ndec (by simp; omega) (wp_call (array_Int_sp 0 inR0) (wp_dec (by omega) (wp_dec (by simp) ?_)))
    simp only [List.map_cons, getD_c0, dA_0, dA_1, dA_2, dC_0, dC_1, dC_2, dC_3, dC_4, dN_0, dN_1, dN_2, els_sl, els_dI, els_dL, List.length_map, Int.toNat_natCast, toInt_int, toInt_dB, toBool_bool, getD_c0, getD_c1, int_beq, int_bne, not_dec, dInt_dB, Int.toNat_zero]
    refine wp_decs (fun h => wp_call (array_Chr_sp 32) (wp_dec (by omega) (wp_dec (by simp) (wp_ret ?_)))) (fun h => wp_dec (by omega) (wp_dec (by simp) (wp_ret ?_)))
    · rw [if_pos h, dC_eq]
      simp only [dA_0, dA_1, dA_2, dC_0, dC_1, dC_2, dC_3, dC_4, dN_0, dN_1, dN_2, els_sl, els_dI, els_dL, List.length_map, Int.toNat_natCast, toInt_int, toInt_dB, toBool_bool, getD_c0, getD_c1, int_beq, int_bne, not_dec, dInt_dB, Int.toNat_zero]; rfl
    · rw [if_neg h, dC_eq]
      simp only [dA_0, dA_1, dA_2, dC_0, dC_1, dC_2, dC_3, dC_4, dN_0, dN_1, dN_2, els_sl, els_dI, els_dL, List.length_map, Int.toNat_natCast, toInt_int, toInt_dB, toBool_bool, getD_c0, getD_c1, int_beq, int_bne, not_dec, dInt_dB, Int.toNat_zero]; rfl
end Go.Proofs.Ytfnmaeniekggeaa
set_option maxRecDepth 100000
namespace Go.Proofs.Ytfnmaeniekggeaa

/-- Numbers along one axis. -/
def vecA (l : List Int) (s : Lab) : Arr := .mk s [(l.length : Int)] (l.map intC)
def aloneA (n : Int) (s : Lab) : Arr := .mk s [] [intC n]
theorem ref11_Vector_sp (l : List Int) (s : Lab) (hl : l.length ≤ 100000) (hr : ∀ x ∈ l, inR x) : Sp 65 [dI l, dB s] [dA (vecA l s)] := by
  refine sound_ (l.length + 1) (ref11_Vector_tree _ _ _) ?_
  simp only [dA_0, dA_1, dA_2, dC_0, dC_1, dC_2, dC_3, dC_4, dN_0, dN_1, dN_2, els_sl, els_dI, els_dL, List.length_map, Int.toNat_natCast, toInt_int, toInt_dB, toBool_bool, getD_c0, getD_c1, int_beq, int_bne, not_dec, dInt_dB, Int.toNat_zero]
  have key := loop_list (P := Try.prog) (md := md) l (fun m k (out : List Cell) => ref11_Vector_l3 (l.length + 1) m (dI l) (k : Int) 0 (s.toNat : Int) [D.int (l.length : Int)] (out.map dC)) (fun rest out => [dA (.mk s [(l.length : Int)] (out ++ rest.map intC))]) (fun rest out => out.length + rest.length ≤ 100000)
    (fun m k out hk _ => by
      simp only [ref11_Vector_l3_succ, dA_0, dA_1, dA_2, dC_0, dC_1, dC_2, dC_3, dC_4, dN_0, dN_1, dN_2, els_sl, els_dI, els_dL, List.length_map, Int.toNat_natCast, toInt_int, toInt_dB, toBool_bool, getD_c0, getD_c1, int_beq, int_bne, not_dec, dInt_dB, Int.toNat_zero]
      refine wp_ndec (by omega) (wp_ret ?_)
      rw [dA_eq]; simp; rfl)
    (fun m k out x rest hdr hI ih => by
      obtain ⟨h1, h2, h3⟩ := drop_cons hdr
      have hm := List.mem_of_getElem? h2
      simp only [ref11_Vector_l3_succ, dA_0, dA_1, dA_2, dC_0, dC_1, dC_2, dC_3, dC_4, dN_0, dN_1, dN_2, els_sl, els_dI, els_dL, List.length_map, Int.toNat_natCast, toInt_int, toInt_dB, toBool_bool, getD_c0, getD_c1, int_beq, int_bne, not_dec, dInt_dB, Int.toNat_zero, getD_map h2, wrap_succ (show k < 9223372036854775807 by omega)]
      repeat (refine wp_dec (by omega) ?_)
      refine wp_call (ref08_Int_sp x (hr x hm)) (wp_dec ?_ ?_)
      · simp only [List.length_cons, List.length_nil, bigN, List.length_map] at hI ⊢; omega
      · have := ih (out ++ [intC x]) (by simp only [List.length_append, List.length_cons, List.length_nil] at hI ⊢; omega)
        rw [List.map_append] at this
        refine Tree.wp_mono this (fun ys hy => hy.trans ?_)
        simp)
    (l.length + 1) 0 [] (by omega) (by omega) (by simpa using hl)
  exact key
theorem ref11_Alone_sp (n : Int) (s : Lab) (hr : inR n) : Sp 32 [.int n, dB s] [dA (aloneA n s)] := by
  refine sound_ 0 (ref11_Alone_tree _ _ _) (wp_call (ref08_Int_sp n hr) (wp_ret ?_))
  rw [dA_eq]; rfl
/-- The cells of an array, from the first one on again. -/
def cyc (fr : List Cell) (k : Nat) : List Cell := (List.range k).map (fun i => fr.getD (i % fr.length) (intC 0))
def reshA (n a : Arr) : Arr × Int :=
  if (intsA n).2 = 0 then (if (countS (intsA n).1).2 = 0 then (.mk (a.s ||| totA n) (intsA n).1 (cyc a.cells (countS (intsA n).1).1.toNat), 0) else (.none, (countS (intsA n).1).2)) else (.none, (intsA n).2)
theorem dA_none : D.agg [D.int 0, D.sl [], D.sl []] = dA .none := by rw [dA_eq]; rfl
theorem cyc_succ (fr : List Cell) (k : Nat) : cyc fr (k + 1) = cyc fr k ++ [fr.getD (k % fr.length) (intC 0)] := by simp [cyc, List.range_succ]
theorem cyc_len (fr : List Cell) (k : Nat) : (cyc fr k).length = k := by simp [cyc]
theorem cyc_mem {fr : List Cell} {k : Nat} {c : Cell} (h : c ∈ cyc fr k) : c ∈ fr ∨ c = intC 0 := by
  simp only [cyc, List.mem_map] at h
  obtain ⟨i, _, rfl⟩ := h
  rw [List.getD_eq_getElem?_getD]
  cases hg : fr[i % fr.length]? with
  | none => right; rfl
  | some x => left; exact List.mem_of_getElem? hg
theorem getD_mapC {fr : List Cell} {i : Nat} (h : i < fr.length) : (fr.map dC).getD i D.nil = dC (fr.getD i (intC 0)) := by
  rw [getD_map (List.getElem?_eq_getElem h), List.getD_eq_getElem?_getD, List.getElem?_eq_getElem h]; rfl
theorem mod_next {i n : Nat} (h : 0 < n) : (if i % n + 1 = n then 0 else i % n + 1) = (i + 1) % n := by
  have h1 := Nat.mod_lt i h
  rw [Nat.add_mod]
  by_cases hn : n = 1
  · subst hn; simp [Nat.mod_one]
  · rw [Nat.mod_eq_of_lt (show 1 < n by omega)]
    split
    · rename_i he; rw [he, Nat.mod_self]
    · rw [Nat.mod_eq_of_lt (show i % n + 1 < n by omega)]
theorem ref11_Reshape_sp (n a : Arr) (hn : Fits n) (ha : a.cells.length ≤ 2048) (hnl : n.cells.length ≤ 2048) (hnt : ∀ c ∈ n.cells, c.n.top.length ≤ 32) : Sp 15 [dA n, dA a] [dA (reshA n a).1, .int (reshA n a).2] := by
  refine sound_ 2049 (ref11_Reshape_tree _ _ _) (wp_call (ref08_Ints_sp n hnl hnt) ?_)
  simp only [getD_c0, getD_c1, toInt_int, int_bne, dA_none]
  unfold reshA
  refine wp_decs (fun h => wp_ret ?_) (fun h => wp_call (ref07_Count_sp (intsA n).1) ?_)
  · rw [if_neg h]
  rw [if_pos (Classical.not_not.1 h)]
  simp only [getD_c0, getD_c1, toInt_int]
  refine wp_decs (fun h => wp_ret ?_) (fun h => wp_call (ref08_Total_sp n hn) ?_)
  · rw [if_neg h]
  rw [if_pos (Classical.not_not.1 h)]
  simp only [getD_c0, dA_0, toInt_dB, dInt_dB]
  refine wp_call (ref01_Join_sp a.s (totA n)) ?_
  have hk := countS_le (intsA n).1
  generalize (countS (intsA n).1).1 = kz at *
  obtain ⟨K, rfl⟩ : ∃ K : Nat, kz = (K : Int) := ⟨kz.toNat, by omega⟩
  simp only [getD_c0, toInt_dB, Int.toNat_natCast]
  have key := loop_up (P := Try.prog) (md := md) K (fun m k (s : Nat × List Cell) => ref11_Reshape_l10 2049 m (K : Int) (s.1 : Int) (k : Int) (dA a) 0 ((a.s ||| totA n).toNat : Int) (dI (intsA n).1) (s.2.map dC)) (fun _ _ => [dA (.mk (a.s ||| totA n) (intsA n).1 (cyc a.cells K)), .int 0])
    (fun k s => s.2 = cyc a.cells k ∧ (0 < a.cells.length → s.1 = k % a.cells.length))
    (fun m s hI => by
      simp only [ref11_Reshape_l10_succ, dA_0, dA_1, dA_2, dC_0, dC_1, dC_2, dC_3, dC_4, dN_0, dN_1, dN_2, els_sl, els_dI, els_dL, List.length_map, Int.toNat_natCast, toInt_int, toInt_dB, toBool_bool, getD_c0, getD_c1, int_beq, int_bne, not_dec, dInt_dB, Int.toNat_zero]
      refine wp_ndec (by omega) (wp_ret ?_)
      rw [hI.1, dA_eq]; rfl)
    (fun m k s hkK hI ih => by
      have hlen : (s.2.map dC).length = k := by rw [hI.1, List.length_map, cyc_len]
      simp only [ref11_Reshape_l10_succ, dA_0, dA_1, dA_2, dC_0, dC_1, dC_2, dC_3, dC_4, dN_0, dN_1, dN_2, els_sl, els_dI, els_dL, List.length_map, Int.toNat_natCast, toInt_int, toInt_dB, toBool_bool, getD_c0, getD_c1, int_beq, int_bne, not_dec, dInt_dB, Int.toNat_zero, wrap_succ (show k < 9223372036854775807 by omega)]
      rw [List.length_map] at hlen
      refine wp_dec (by omega) (wp_decs (fun he => wp_call (ref08_Int_sp 0 inR0) (wp_dec (by simp only [List.length_cons, List.length_nil, bigN]; omega) ?_)) (fun he => ?_))
      · have := ih (s.1, s.2 ++ [intC 0]) ⟨by rw [hI.1, cyc_succ, List.length_eq_zero_iff.1 (show a.cells.length = 0 by omega)]; rfl, fun hh => by omega⟩
        rw [List.map_append] at this
        exact this
      · have hp : 0 < a.cells.length := by omega
        have hs := hI.2 hp
        have hlt := Nat.mod_lt k hp
        rw [← hs] at hlt
        refine wp_dec (by omega) (wp_dec (by omega) (wp_dec (by simp only [List.length_cons, List.length_nil, bigN]; omega) ?_))
        rw [getD_mapC hlt]
        have hnx := mod_next (i := k) hp
        have e2 : s.2 ++ [a.cells.getD s.1 (intC 0)] = cyc a.cells (k + 1) := by rw [cyc_succ, hI.1, ← hs]
        rw [wrap_succ (show s.1 < 9223372036854775807 by omega)]
        refine wp_decs (fun h5 => ?_) (fun h5 => ?_)
        · have := ih (0, s.2 ++ [a.cells.getD s.1 (intC 0)]) ⟨e2, fun _ => by rw [← hnx, ← hs, if_pos (by omega)]⟩
          rw [List.map_append] at this
          exact this
        · have := ih (s.1 + 1, s.2 ++ [a.cells.getD s.1 (intC 0)]) ⟨e2, fun _ => by rw [← hnx, ← hs, if_neg (by omega)]⟩
          rw [List.map_append] at this
          exact this)
    2049 0 (0, []) (by omega) (by omega) ⟨by simp [cyc], fun _ => by simp⟩
  exact key
theorem mold_Reshape_loop (n a : Arr) (hn : Fits n) (sh : List Int) (fr : List Cell) (hfr : 0 < fr.length) (K : Nat) (hK : K ≤ 2048) (hf : fr.length ≤ 2048) : Tw (mold_Reshape_l12 2049 2049 (dI sh) (.sl (fr.map dC)) (List.replicate K (dC Cell.none)) (K : Int) 0 (dA n) (dA a) 0) [dA (.mk (a.s ||| totA n) sh (cyc fr K)), .int 0] := by
  have key := loop_up (P := Try.prog) (md := md) K (fun m k (cs : List D) => mold_Reshape_l12 2049 m (dI sh) (.sl (fr.map dC)) cs (K : Int) (k : Int) (dA n) (dA a) 0) (fun _ _ => [dA (.mk (a.s ||| totA n) sh (cyc fr K)), .int 0])
    (fun k cs => cs = (cyc fr k).map dC ++ List.replicate (K - k) (dC Cell.none))
    (fun m cs hI => by
      simp only [mold_Reshape_l12_succ]
      refine wp_ndec (by omega) (wp_call (array_Total_sp n hn) ?_)
      simp only [getD_c0, toInt_dB, dA_0, dInt_dB]
      refine wp_call (label_Join_sp a.s (totA n)) (wp_ret ?_)
      rw [hI, dA_eq, Nat.sub_self, List.replicate_zero, List.append_nil]; rfl)
    (fun m k cs hkK hI ih => by
      have hm := Nat.mod_lt k hfr
      have hcl : cs.length = K := by rw [hI]; simp [cyc_len]; omega
      have et : Int.tmod (k : Int) (fr.length : Int) = ((k % fr.length : Nat) : Int) := rfl
      simp only [mold_Reshape_l12_succ, dA_0, dA_1, dA_2, dC_0, dC_1, dC_2, dC_3, dC_4, dN_0, dN_1, dN_2, els_sl, els_dI, els_dL, List.length_map, Int.toNat_natCast, toInt_int, toInt_dB, toBool_bool, getD_c0, getD_c1, int_beq, int_bne, not_dec, dInt_dB, Int.toNat_zero, et, hcl, getD_mapC hm, wrap_succ (show k < 9223372036854775807 by omega)]
      repeat (refine wp_dec (by omega) ?_)
      refine ih _ ?_
      rw [hI, cyc_succ, List.set_append_right _ _ (by simp [cyc_len]), List.length_map, cyc_len, Nat.sub_self, show K - k = (K - (k + 1)) + 1 by omega, List.replicate_succ, List.set_cons_zero]
      simp)
    2049 0 (List.replicate K (dC Cell.none)) (by omega) (by omega) (by simp [cyc])
  exact key
theorem dC_none : D.agg [D.int 0, D.int 0, D.agg [D.bool false, D.sl [], D.sl []], D.int 0, D.sl []] = dC Cell.none := by rw [dC_eq]; rfl
theorem cyc_one (K : Nat) : cyc [intC 0] K = cyc [] K := by
  unfold cyc
  refine List.map_congr_left (fun i _ => ?_)
  simp [Nat.mod_one]
theorem mold_Reshape_sp (n a : Arr) (hn : Fits n) (ha : a.cells.length ≤ 2048) (hnl : n.cells.length ≤ 2048) (hnt : ∀ c ∈ n.cells, c.n.top.length ≤ 32) : Sp 14 [dA n, dA a] [dA (reshA n a).1, .int (reshA n a).2] := by
  refine sound_ 2049 (mold_Reshape_tree _ _ _) (wp_call (array_Ints_sp n hnl hnt) ?_)
  simp only [getD_c0, getD_c1, toInt_int, int_bne, dA_none, dC_none]
  unfold reshA
  refine wp_decs (fun h => wp_ret ?_) (fun h => wp_call (shape_Count_sp (intsA n).1) ?_)
  · rw [if_neg h]
  rw [if_pos (Classical.not_not.1 h)]
  simp only [getD_c0, getD_c1, toInt_int]
  refine wp_decs (fun h => wp_ret ?_) (fun h => ?_)
  · rw [if_neg h]
  rw [if_pos (Classical.not_not.1 h)]
  have hk := countS_le (intsA n).1
  generalize (countS (intsA n).1).1 = kz at *
  obtain ⟨K, rfl⟩ : ∃ K : Nat, kz = (K : Int) := ⟨kz.toNat, by omega⟩
  simp only [dA_0, dA_1, dA_2, dC_0, dC_1, dC_2, dC_3, dC_4, dN_0, dN_1, dN_2, els_sl, els_dI, els_dL, List.length_map, Int.toNat_natCast, toInt_int, toInt_dB, toBool_bool, getD_c0, getD_c1, int_beq, int_bne, not_dec, dInt_dB, Int.toNat_zero, List.length_replicate]
  refine wp_decs (fun he => wp_call (array_Fill_sp a) ?_) (fun he => ?_)
  · refine wp_dec (by omega) (wp_dec (by omega) (wp_dec (by simp only [bigN]; omega) ?_))
    have hc := List.length_eq_zero_iff.1 (show a.cells.length = 0 by omega)
    have hfl : fillC a = intC 0 := by unfold fillC; rw [hc]
    have := mold_Reshape_loop n a hn (intsA n).1 [intC 0] (by decide) K (by omega) (by decide)
    rw [cyc_one] at this
    rw [hc, hfl]
    exact this
  · refine wp_dec (by omega) (wp_dec (by omega) (wp_dec (by simp only [bigN]; omega) ?_))
    exact mold_Reshape_loop n a hn (intsA n).1 a.cells (by omega) K (by omega) ha
theorem ref10_Same_sp (x y : Arr) (e f : Int) (hx : Fits x) : Sp 16 [dA x, .int e, dA y, .int f] [.bool (decide (e = f) && eqA x y)] := by
  refine sound_ 0 (ref10_Same_tree _ _ _ _ _) ?_
  simp only [toInt_int, int_beq]
  refine wp_decs (fun h => wp_call (ref08_Same_sp x hx y) (wp_ret ?_)) (fun h => wp_ret ?_)
  · rw [decide_eq_true h]; rfl
  · rw [decide_eq_false h]; rfl
end Go.Proofs.Ytfnmaeniekggeaa
set_option maxRecDepth 100000
namespace Go.Proofs.Ytfnmaeniekggeaa

theorem lb_one : lb 1 = [1] := by rw [lb_pos (by decide), show 1 / B = 0 by decide, lb_zero]; rfl
theorem numT_ofZ (z : Int) : numT (ofZ z) = z := zv_wz z
theorem numB_ofZ (z : Int) : numB (ofZ z) = 1 := by simp [numB, ofZ, nv]
theorem lb_inR {z : Int} (h : inR z) : (lb z.natAbs).length ≤ 2 := lb_len.2 (by unfold inR at h; show z.natAbs < 18446744073709551616; omega)
theorem rightN_ofZ {z : Int} (h : inR z) : rightN (ofZ z) = true := by
  have hl := lb_inR h
  unfold rightN
  rw [numT_ofZ, numB_ofZ]
  refine decide_eq_true ⟨by simp only [ofZ]; omega, by simp [ofZ], ?_⟩
  unfold mkR
  simp only [Int.natAbs_one, Nat.gcd_one_right, Nat.div_one, lb_one]
  rw [if_neg (by decide), if_neg (by simp only [List.length_cons, List.length_nil]; omega)]
  unfold ofZ
  congr 2
  by_cases hz : z < 0
  · have : 0 < (lb z.natAbs).length := by
      rcases Nat.eq_zero_or_pos (lb z.natAbs).length with h0 | h0
      · have := lb_len0.1 h0; omega
      · exact h0
    simp [hz, this]
  · simp [hz]
theorem smallN_ofZ {z : Int} (h : inR z) : smallN (ofZ z) = some z := by
  unfold smallN smO
  rw [if_pos (show (ofZ z).bot = [1] from rfl), numT_ofZ, if_pos h]
theorem rightN_len {n : Num} (h : rightN n = true) : n.top.length ≤ 32 ∧ n.bot.length ≤ 32 := by
  have := of_decide_eq_true h
  exact ⟨this.1, this.2.1⟩
theorem rightC_len {d : Nat} {c : Cell} (h : rightC d c = true) : c.n.top.length ≤ 32 ∧ c.n.bot.length ≤ 32 ∧ c.inn.length ≤ 1 := by
  suffices key : ∀ k r, cellR k r c = true → c.n.top.length ≤ 32 ∧ c.n.bot.length ≤ 32 ∧ c.inn.length ≤ 1 by
    cases d with
    | zero => exact key _ _ h
    | succ d => exact key _ _ h
  intro k r h
  unfold cellR at h
  split at h
  · simp only [Bool.and_eq_true, decide_eq_true_eq] at h
    exact ⟨(rightN_len h.2).1, (rightN_len h.2).2, by omega⟩
  split at h
  · simp only [Bool.and_eq_true, decide_eq_true_eq] at h
    rw [h.1.1]; exact ⟨by decide, by decide, by omega⟩
  · simp only [Bool.and_eq_true, decide_eq_true_eq] at h
    rw [h.1.2.1]
    refine ⟨by decide, by decide, ?_⟩
    have hb := h.2.2
    unfold boxOK at hb
    split at hb
    · rename_i hi; rw [hi]; simp
    · cases hb
theorem rightA_cells {d : Nat} {a : Arr} (h : rightA d a = true) : countS a.shape = ((a.cells.length : Int), 0) ∧ ∀ c ∈ a.cells, rightC d c = true := by
  rw [rightA_eq] at h
  simp only [Bool.and_eq_true, decide_eq_true_eq, List.all_eq_true] at h
  exact h
theorem rightA_of {d : Nat} {a : Arr} (h1 : countS a.shape = ((a.cells.length : Int), 0)) (h2 : ∀ c ∈ a.cells, rightC d c = true) : rightA d a = true := by
  rw [rightA_eq]
  simp only [Bool.and_eq_true, decide_eq_true_eq, List.all_eq_true]
  exact ⟨h1, h2⟩
theorem rightA_len {d : Nat} {a : Arr} (h : rightA d a = true) : a.cells.length ≤ 2048 ∧ a.shape.length ≤ 6 ∧ ∀ x ∈ a.shape, 0 ≤ x ∧ x ≤ 2048 := by
  have h1 := (rightA_cells h).1
  have h2 := countS_le a.shape
  have h3 := countS_len (l := a.shape) (by rw [h1])
  rw [h1] at h2
  exact ⟨by simp only at h2; omega, h3⟩
theorem rightA_top {d : Nat} {a : Arr} (h : rightA d a = true) : ∀ c ∈ a.cells, c.n.top.length ≤ 32 := fun c hc => (rightC_len ((rightA_cells h).2 c hc)).1
theorem rightC_int {z : Int} (d : Nat) (h : inR z) : rightC d (intC z) = true := by
  have : ∀ k r, cellR k r (intC z) = true := by
    intro k r
    unfold cellR
    rw [if_pos (show (intC z).kind = 0 from rfl)]
    have := rightN_ofZ h
    simp only [intC, this]; rfl
  cases d <;> exact this _ _
theorem fitsC_int {z : Int} (h : inR z) : FitsC (intC z) := by
  have := lb_inR h
  refine ⟨?_, ?_, ?_, ?_⟩
  · simp only [intC, ofZ]; omega
  · simp [intC, ofZ]
  · simp [intC]
  · simp [intC]
theorem inR_small {z : Int} (h1 : -100000 ≤ z) (h2 : z ≤ 100000) : inR z := by unfold inR; omega
theorem fits_vec {l : List Int} {s : Lab} (hl : l.length ≤ 100000) (h : ∀ x ∈ l, inR x) : Fits (.mk s [(l.length : Int)] (l.map intC)) := by
  refine Fits.of (by simp) (by simp; omega) ?_ ?_
  · intro x hx; simp only [List.mem_singleton] at hx; subst hx; exact inR_small (by omega) (by omega)
  · intro c hc
    obtain ⟨z, hz, rfl⟩ := List.mem_map.1 hc
    exact fitsC_int (h z hz)
theorem fits_none : Fits .none := Fits.of (by simp) (by simp) (by simp) (by simp)
end Go.Proofs.Ytfnmaeniekggeaa
set_option maxRecDepth 100000
namespace Go.Proofs.Ytfnmaeniekggeaa
/-! scrim/scrimlaw11.MoldReshapes -/
def law11_MoldReshapes_orc : List (Nat × Orc) := []
theorem law11_MoldReshapes_tree (n : Nat) (n0 : D) (a1 : D) : evFun Try.prog md law11_MoldReshapes_orc n 3 [] [n0, a1] =
 .call 12 [] [n0] fun yy1 =>
 .br (!((yy1.getD 0 D.nil).toBool)) (.call 13 [] [] fun yy2 =>
 .ret [D.bool ((yy2.getD 0 D.nil).toBool)])
 (.call 12 [] [a1] fun yy3 =>
 .br (!((yy3.getD 0 D.nil).toBool)) (.call 13 [] [] fun yy4 =>
 .ret [D.bool ((yy4.getD 0 D.nil).toBool)])
 (.call 14 [] [n0, a1] fun yy5 =>
 .call 15 [] [n0, a1] fun yy6 =>
 .call 16 [] [yy5.getD 0 D.nil, D.int ((yy5.getD 1 D.nil).toInt), yy6.getD 0 D.nil, D.int ((yy6.getD 1 D.nil).toInt)] fun yy7 =>
 .br ((yy7.getD 0 D.nil).toBool) (.br (((yy5.getD 1 D.nil).toInt) != 0) (.call 13 [] [] fun yy8 =>
 .ret [D.bool ((yy8.getD 0 D.nil).toBool)])
 (.call 17 [] [yy5.getD 0 D.nil, D.int 8] fun yy9 =>
 .br ((yy9.getD 0 D.nil).toBool) (.call 13 [] [] fun yy10 =>
 .ret [D.bool ((yy10.getD 0 D.nil).toBool)])
 (.ret [D.bool false])))
 (.ret [D.bool false]))) := by kernel_rfl

/-! scrim/scrimlaw11.awake -/
def law11_awake_orc : List (Nat × Orc) := []
theorem law11_awake_tree (n : Nat)  : evFun Try.prog md law11_awake_orc n 13 [] [] =
 .call 65 [] [D.sl [D.int 2, D.int 3], D.int 0] fun yy1 =>
 .call 65 [] [D.sl [D.int 1, D.int 2, D.int 3, D.int 4], D.int 0] fun yy2 =>
 .call 14 [] [yy1.getD 0 D.nil, yy2.getD 0 D.nil] fun yy3 =>
 .call 65 [] [D.sl [D.int 1, D.int 2, D.int 3, D.int 4, D.int 1, D.int 2], D.int 0] fun yy4 =>
 .br (((yy3.getD 1 D.nil).toInt) == 0) (.call 23 [] [yy3.getD 0 D.nil, D.agg [D.int (((yy4.getD 0 D.nil).fld 0).toInt), D.sl [D.int 2, D.int 3], (yy4.getD 0 D.nil).fld 2]] fun yy5 =>
 .ret [D.bool ((yy5.getD 0 D.nil).toBool)])
 (.ret [D.bool false]) := by kernel_rfl

end Go.Proofs.Ytfnmaeniekggeaa
set_option maxRecDepth 100000
namespace Go.Proofs.Ytfnmaeniekggeaa

theorem intsCs_vec : ∀ {l : List Int}, (∀ x ∈ l, inR x) → intsCs (l.map intC) = some l
  | [], _ => rfl
  | x :: xs, h => by
    simp only [List.map_cons, intsCs]
    rw [if_pos (show (intC x).kind = 0 from rfl), show (intC x).n = ofZ x from rfl, smallN_ofZ (h x (by simp)), intsCs_vec (fun y hy => h y (by simp [hy]))]
    rfl
theorem totA_vec (l : List Int) (s : Lab) : totA (vecA l s) = s := by
  rw [totA_eq]
  unfold vecA
  simp only [Arr.cells_mk, Arr.s_mk]
  induction l with
  | nil => rfl
  | cons x xs ih =>
    rw [List.map_cons, List.foldl_cons, totC_eq]
    have e0 : s ||| (0 : Lab) = s := by simp
    rw [show (intC x).inn = [] from rfl, show (intC x).l = 0 from rfl, e0, List.foldl_nil]
    exact ih
theorem reshA_fits {n a : Arr} (ha : Fits a) : Fits (reshA n a).1 := by
  unfold reshA
  split
  · split
    · rename_i h1 h2
      have h3 := countS_len h2
      have h4 := countS_le (intsA n).1
      refine Fits.of (by omega) (by rw [cyc_len]; omega) (fun x hx => inR_small (by have := h3.2 x hx; omega) (by have := h3.2 x hx; omega)) (fun c hc => ?_)
      rcases cyc_mem hc with h | rfl
      · exact ha.cell c h
      · exact fitsC_int inR0
    · exact fits_none
  · exact fits_none
theorem reshA_right {n a : Arr} {d : Nat} (ha : ∀ c ∈ a.cells, rightC d c = true) (h : (reshA n a).2 = 0) : rightA d (reshA n a).1 = true := by
  unfold reshA at h ⊢
  split at h
  · rename_i h1
    rw [if_pos h1]
    split at h
    · rename_i h2
      rw [if_pos h2]
      have h4 := countS_le (intsA n).1
      refine rightA_of ?_ ?_
      · simp only [Arr.shape_mk, Arr.cells_mk, cyc_len]
        exact Prod.ext (by simp only; omega) h2
      · intro c hc
        rcases cyc_mem hc with h | rfl
        · exact ha c h
        · exact rightC_int d inR0
    · rename_i h2; exact absurd h h2
  · rename_i h1; exact absurd h h1
theorem aw_in (l : List Int) (h : l.all (fun x => decide (-100000 ≤ x ∧ x ≤ 100000)) = true) : ∀ x ∈ l, inR x := fun x hx => by
  have := of_decide_eq_true (List.all_eq_true.1 h x hx)
  exact inR_small this.1 this.2
theorem law11_awake_sp : Sp 13 [] [.bool true] := by
  refine sound_ 0 (law11_awake_tree _) ?_
  refine wp_call (ref11_Vector_sp [2, 3] 0 (by decide) (aw_in _ (by decide))) (wp_call (ref11_Vector_sp [1, 2, 3, 4] 0 (by decide) (aw_in _ (by decide))) ?_)
  have f1 : Fits (vecA [2, 3] 0) := fits_vec (by decide) (aw_in _ (by decide))
  have f2 : Fits (vecA [1, 2, 3, 4] 0) := fits_vec (by decide) (aw_in _ (by decide))
  have e : reshA (vecA [2, 3] 0) (vecA [1, 2, 3, 4] 0) = (.mk 0 [2, 3] ([1, 2, 3, 4, 1, 2].map intC), 0) := by
    have e1 : intsA (vecA [2, 3] 0) = ([2, 3], 0) := by
      unfold intsA vecA
      simp only [Arr.shape_mk, Arr.cells_mk, intsCs_vec (aw_in [2, 3] (by decide))]
      rfl
    unfold reshA
    rw [e1, totA_vec]
    have e2 : countS [2, 3] = (6, 0) := by decide
    simp only [e2]
    rfl
  have ht : ∀ c ∈ (vecA [2, 3] 0).cells, c.n.top.length ≤ 32 := fun c hc => by
    obtain ⟨z, hz, rfl⟩ := List.mem_map.1 hc
    exact (rightN_len (rightN_ofZ (aw_in [2, 3] (by decide) z hz))).1
  have sp := mold_Reshape_sp (vecA [2, 3] 0) (vecA [1, 2, 3, 4] 0) f1 (by decide) (by decide) ht
  rw [e] at sp
  refine wp_call sp (wp_call (ref11_Vector_sp [1, 2, 3, 4, 1, 2] 0 (by decide) (aw_in _ (by decide))) (wp_tt rfl ?_))
  have f3 : Fits (.mk 0 [2, 3] ([1, 2, 3, 4, 1, 2].map intC)) := by
    have := reshA_fits (n := vecA [2, 3] 0) f2
    rw [e] at this; exact this
  have sp2 := ref08_Same_sp _ f3 (.mk 0 [2, 3] ([1, 2, 3, 4, 1, 2].map intC))
  rw [eqA_self] at sp2
  rw [getD_c0, getD_c0]
  simp only [dA_0, dA_2, toInt_dB, dInt_dB]
  have e3 : D.agg [dB (vecA [1, 2, 3, 4, 1, 2] 0).s, D.sl [D.int 2, D.int 3], D.sl ((vecA [1, 2, 3, 4, 1, 2] 0).cells.map dC)] = dA (.mk 0 [2, 3] ([1, 2, 3, 4, 1, 2].map intC)) := by rw [dA_eq]; rfl
  rw [e3]
  exact wp_call sp2 (wp_ret rfl)
theorem awake_ret : Tw (.call 13 [] [] fun y => .ret [D.bool ((y.getD 0 D.nil).toBool)]) [.bool true] := wp_call law11_awake_sp (wp_ret rfl)
end Go.Proofs.Ytfnmaeniekggeaa
set_option maxRecDepth 100000
namespace Go.Proofs.Ytfnmaeniekggeaa
open Go.ChangeShapes Go.WideShapes Go.ChangeAt Go.RowKit

theorem moldReshapes_sp (n a : Arr) (hn : Fits n) (ha : Fits a) : Sp 3 [dA n, dA a] [.bool true] := by
  obtain ⟨b1, r1, s1⟩ := ref08_Good_ex n hn
  obtain ⟨b2, r2, s2⟩ := ref08_Good_ex a ha
  refine sound_ 0 (law11_MoldReshapes_tree _ _ _) (wp_call s1 (wp_br (fun _ => awake_ret) (fun e1 => wp_call s2 (wp_br (fun _ => awake_ret) (fun e2 => ?_)))))
  have g1 := r1 (by simpa using e1)
  have g2 := r2 (by simpa using e2)
  have l1 := rightA_len g1
  have l2 := rightA_len g2
  refine wp_call (mold_Reshape_sp n a hn l2.1 l1.1 (rightA_top g1)) (wp_call (ref11_Reshape_sp n a hn l2.1 l1.1 (rightA_top g1)) ?_)
  have hf := reshA_fits (n := n) ha
  have hr := reshA_right (n := n) (rightA_cells g2).2
  generalize reshA n a = r at *
  simp only [getD_c0, getD_c1, toInt_int]
  refine wp_call (ref10_Same_sp r.1 r.1 r.2 r.2 hf) (wp_tt (by rw [eqA_self]; simp) ?_)
  simp only [int_bne]
  refine wp_decs (fun _ => awake_ret) (fun h => wp_call (ref08_Right_sp r.1 hf) (wp_tt ?_ awake_ret))
  exact hr (Classical.not_not.1 h)

set_option maxRecDepth 100000 in
theorem moldReshapes_lifted (os : Os) (started : os.Started) (H : Type) (enc : TypeId × Value → H) :
    ReturnsInHanded {} Try.checked os 3 .any (Rows.moldReshapesSpec.pre6 enc Try.prog Try.f3 Rows.moldReshapesRow.domain false) (Rows.moldReshapesSpec.post enc Try.prog Try.f3 false true false false) := by
  refine returnsInHanded_of_change (C := Try.checked) knob started (by kernel_rfl) Try.func3
    (ChangeSpec.witness6 (enc := enc) (C := Try.checked) false ⟨#[], #[.agg #[.int .u64 0, .slice none 0 0, .slice none 0 0], .agg #[.int .u64 0, .slice none 0 0, .slice none 0 0]], []⟩ 16 (by kernel_rfl) (by kernel_rfl) (by kernel_rfl) (by kernel_rfl)) ?_
  intro W base args ds gs before hval0 hW hcnd _
  have hval : ∀ (j : Nat) t v, Try.f3.params[j]? = some t → args[j]? = some v → Value.okWide Try.prog W .any base t v := hval0
  have hW' := hW
  obtain ⟨p, q, hA0, hV, rfl, hfz, hnd⟩ := hW
  have hA : DataW.TrodAll enc Try.prog W 0 (fun _ => true) true Try.f3.params.toList args.toList ds p := hA0
  rw [Try.params3] at hA hval
  obtain ⟨v0, vs0, d0, ds0, p0, q0, hargs, rfl, rfl, h0, r0⟩ := trodAll_cons hA
  obtain ⟨v1, vs1, d1, ds1, p1, q1, rfl, rfl, rfl, h1, r1⟩ := trodAll_cons r0
  obtain ⟨rfl, rfl, rfl⟩ := trodAll_nil r1
  obtain rfl : args = #[v0, v1] := by cases args; simp_all
  obtain ⟨x0, hx0, hr0⟩ := arg_arr (hval 0 26 v0 rfl rfl) h0
  obtain ⟨x1, hx1, hr1⟩ := arg_arr (hval 1 26 v1 rfl rfl) h1
  refine (law_calls (vs := [v0, v1]) (moldReshapes_sp x0 x1 hx0 hx1) Try.func3 (by kernel_rfl) (by kernel_rfl) Try.underlying4 rfl rfl ?_).mono fun e W' ⟨he, hx⟩ => ⟨_, he, law_post laidOut hW' rfl (by kernel_rfl) Try.underlying4 rfl (by kernel_rfl) hx⟩
  intro i t x v ht hx hv
  match i with
  | 0 => cases (show some 26 = some t from ht); cases hx; cases hv; exact hr0
  | 1 => cases (show some 26 = some t from ht); cases hx; cases hv; exact hr1
  | i + 2 => cases hx

theorem moldReshapes_holds : Rows.MoldReshapesSaid :=
  OpenClaim.holds_of_wide 3 Try.f3 rfl rfl rfl rfl rfl rfl rfl ⟨rfl, rfl, rfl, rfl, rfl⟩ rfl rfl rfl rfl rfl (by kernel_rfl) Try.func3 (by kernel_rfl)
    (of_decide_eq_true (by kernel_rfl)) (by unfold Func.isWrapper; first | (rw [if_pos (by decide +kernel)]; kernel_rfl) | (rw [if_neg (by decide +kernel)]; exact ⟨rfl, rfl⟩))
    (fun os started H enc _ => moldReshapes_lifted os started H enc)

end Go.Proofs.Ytfnmaeniekggeaa
