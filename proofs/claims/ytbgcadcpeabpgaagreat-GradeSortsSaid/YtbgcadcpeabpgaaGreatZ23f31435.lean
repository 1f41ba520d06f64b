/- Proved: lemmas for the law of this folder, part 5. No condition. -/
import Derived.Test.YtbgcadcpeabpgaaGreatRows
import Derived.WalkKit
import Derived.WalkSpells
import Derived.WalkLawsBesides
import Derived.Lib.Hide
import Derived.Laws.CopyOwn
import Derived.Deep.QuietTactic
import Derived.BigQuiet
import Derived.Orders
import Derived.Defers
import Derived.Recover
import Derived.Test.YtbgcadcpeabpgaaGreatProg
import Derived.KernelRfl
import Derived.ProofKit
import Derived.OpenShut
import Derived.Test.YtbgcadcpeabpgaaGreatZ3f5fe11a
set_option linter.unusedSimpArgs false
set_option linter.unusedVariables false
set_option maxRecDepth 100000
namespace Go.Proofs.YtbgcadcpeabpgaaGreat

structure Wh where
  neg : Bool
  mag : List Limb
def dW (w : Wh) : D := .agg [.bool w.neg, dL w.mag]
def zv (w : Wh) : Int := if w.neg then -(nv w.mag : Int) else (nv w.mag : Int)
def wz (z : Int) : Wh := ⟨decide (z < 0), lb z.natAbs⟩
@[simp] theorem dW_0 (w : Wh) : (dW w).fld 0 = .bool w.neg := rfl
@[simp] theorem dW_1 (w : Wh) : (dW w).fld 1 = dL w.mag := rfl
theorem dW_mk (b : Bool) (l : List Limb) : D.agg [.bool b, dL l] = dW ⟨b, l⟩ := rfl
theorem dW_zero : D.agg [.bool false, .sl []] = dW (wz 0) := by simp [dW, wz, lb_zero, dL]
theorem zv_abs (w : Wh) : (zv w).natAbs = nv w.mag := by unfold zv; split <;> omega
theorem wz_len (w : Wh) : (lb (zv w).natAbs).length ≤ w.mag.length := by rw [zv_abs]; exact lb_len.2 (nv_lt _)
theorem zv_wz (z : Int) : zv (wz z) = z := by
  unfold zv wz
  simp only [nv_lb, decide_eq_true_eq]
  split <;> omega
theorem zv_lb (b : Bool) (n : Nat) : zv ⟨b, lb n⟩ = if b then -(n : Int) else (n : Int) := by simp only [zv, nv_lb]
theorem wz_zero : wz 0 = ⟨false, []⟩ := by simp [wz, lb_zero]
theorem wz_of (b : Bool) {n : Nat} (h : n ≠ 0) : wz (if b then -(n : Int) else (n : Int)) = ⟨b, lb n⟩ := by
  cases b <;> simp [wz] <;> omega
theorem wz_zv (w : Wh) : wz (zv w) = if nv w.mag = 0 then ⟨false, []⟩ else ⟨w.neg, lb (nv w.mag)⟩ := by
  split
  · rename_i h
    unfold zv; rw [h]; simp [wz_zero]
  · rename_i h
    unfold zv
    exact wz_of _ h
theorem bool_beq (a b : Bool) : (a == b) = decide (a = b) := by cases a <;> cases b <;> rfl
def inR (z : Int) : Prop := -9223372036854775808 ≤ z ∧ z ≤ 9223372036854775807
instance (z : Int) : Decidable (inR z) := by unfold inR; infer_instance
/-- A number as an int. -/
def smallZ (z : Int) : List D := if inR z then [.int z, .bool true] else [.int 0, .bool false]
def sgnZ (z : Int) : Int := if z < 0 then -1 else if z = 0 then 0 else 1
def cmpZ (x y : Int) : Int := if x < y then -1 else if x = y then 0 else 1
theorem ref03_Norm_sp (w : Wh) (h : w.mag.length ≤ 1000000) : Sp 145 [dW w] [dW (wz (zv w))] := by
  refine sound_ 0 (ref03_Norm_tree _ _) (wp_call (ref02_Norm_sp w.mag h) ?_)
  simp only [getD_c0, els_dL, List.length_map, int_beq, dW_0, toBool_bool]
  refine wp_decs (fun h => wp_ret ?_) (fun h => wp_ret ?_)
  · have h0 : nv w.mag = 0 := lb_len0.1 (by omega)
    rw [wz_zv, if_pos h0]; rfl
  · have h0 : nv w.mag ≠ 0 := fun hh => h (by rw [hh, lb_zero]; rfl)
    rw [wz_zv, if_neg h0]; rfl
theorem two_limbs {n : Nat} (h : n < 18446744073709551616) : nv [BitVec.ofNat 32 (n % 4294967296), BitVec.ofNat 32 (n / 4294967296)] = n := by
  simp only [nv, nv_nil]
  rw [ofNat_lt (by rw [B_eq]; omega), ofNat_lt (by rw [B_eq]; omega), B_eq]; omega
theorem ref03_Of_sp (z : Int) (h : inR z) : Sp 147 [.int z] [dW (wz z)] := by
  unfold inR at h
  refine sound_ 0 (ref03_Of_tree _ _) ?_
  simp only [toInt_int]
  refine wp_decs (fun h0 => ?_) (fun h0 => ?_)
  · obtain ⟨n, rfl⟩ : ∃ n : Nat, z = n := ⟨z.toNat, by omega⟩
    have e : [D.int (IntKind.wrap .u32 (Int.tmod (n : Int) 4294967296)), D.int (IntKind.wrap .u32 (IntKind.wrap .i64 (Int.tdiv (n : Int) 4294967296)))] = [BitVec.ofNat 32 (n % 4294967296), BitVec.ofNat 32 (n / 4294967296)].map dB := by
      rw [Int.tmod_eq_emod_of_nonneg (by omega), Int.tdiv_eq_ediv_of_nonneg (by omega), show (n : Int) % 4294967296 = ((n % 4294967296 : Nat) : Int) by omega, show (n : Int) / 4294967296 = ((n / 4294967296 : Nat) : Int) by omega,
        wrap64 (by omega) (by omega), wrapU32 (by omega) (by omega), wrapU32 (by omega) (by omega), dB_ofNat (by rw [B_eq]; omega), dB_ofNat (by rw [B_eq]; omega)]; rfl
    rw [e]
    have hv := two_limbs (n := n) (by omega)
    refine wp_tt (by decide) (wp_tt (by decide) (wp_call (ref03_Norm_sp ⟨false, [BitVec.ofNat 32 (n % 4294967296), BitVec.ofNat 32 (n / 4294967296)]⟩ (by simp)) (wp_ret ?_)))
    simp only [getD_c0, zv, hv]; rfl
  · obtain ⟨n, rfl⟩ : ∃ n : Nat, z = -1 - (n : Int) := ⟨(-1 - z).toNat, by omega⟩
    have e : [D.int (IntKind.wrap .u32 (Int.tmod (IntKind.wrap .i64 (-1 - (-1 - (n : Int)))) 4294967296)), D.int (IntKind.wrap .u32 (IntKind.wrap .i64 (Int.tdiv (IntKind.wrap .i64 (-1 - (-1 - (n : Int)))) 4294967296)))] = [BitVec.ofNat 32 (n % 4294967296), BitVec.ofNat 32 (n / 4294967296)].map dB := by
      rw [show (-1 : Int) - (-1 - (n : Int)) = (n : Int) by omega, wrap64 (x := (n : Int)) (by omega) (by omega), Int.tmod_eq_emod_of_nonneg (by omega), Int.tdiv_eq_ediv_of_nonneg (by omega), show (n : Int) % 4294967296 = ((n % 4294967296 : Nat) : Int) by omega, show (n : Int) / 4294967296 = ((n / 4294967296 : Nat) : Int) by omega,
        wrap64 (by omega) (by omega), wrapU32 (by omega) (by omega), wrapU32 (by omega) (by omega), dB_ofNat (by rw [B_eq]; omega), dB_ofNat (by rw [B_eq]; omega)]; rfl
    rw [e]
    have hv := two_limbs (n := n) (by omega)
    have sp := ref02_Add_sp [BitVec.ofNat 32 (n % 4294967296), BitVec.ofNat 32 (n / 4294967296)] [1] (by simp) (by simp)
    rw [hv, show nv [1] = 1 from rfl] at sp
    refine wp_tt (by decide) (wp_tt (by decide) (wp_call sp ?_))
    simp only [getD_c0]
    have hl : (lb (n + 1)).length ≤ 3 := lb_len.2 (by show n + 1 < 79228162514264337593543950336; omega)
    refine wp_call (ref03_Norm_sp ⟨true, lb (n + 1)⟩ (by simp only; omega)) (wp_ret ?_)
    simp only [getD_c0, zv_lb, if_true]
    rw [show -((n + 1 : Nat) : Int) = -1 - (n : Int) by omega]
theorem ref03_Neg_sp (w : Wh) (h : w.mag.length ≤ 1000000) : Sp 149 [dW w] [dW (wz (-zv w))] := by
  refine sound_ 0 (ref03_Neg_tree _ _) ?_
  simp only [dW_0, dW_1, toBool_bool]
  refine wp_call (ref03_Norm_sp ⟨!w.neg, w.mag⟩ h) (wp_ret ?_)
  simp only [getD_c0]
  rw [show zv ⟨!w.neg, w.mag⟩ = -zv w by unfold zv; cases w.neg <;> simp]
theorem ref03_Add_sp (a b : Wh) (ha : a.mag.length ≤ 10000) (hb : b.mag.length ≤ 10000) : Sp 148 [dW a, dW b] [dW (wz (zv a + zv b))] := by
  refine sound_ 0 (ref03_Add_tree _ _ _) (wp_call (ref03_Norm_sp a (by omega)) (wp_call (ref03_Norm_sp b (by omega)) ?_))
  have la := wz_len a
  have lb' := wz_len b
  generalize zv a = x at *
  generalize zv b = y at *
  simp only [getD_c0, dW_0, dW_1, toBool_bool, bool_beq, wz]
  have hadd : (lb (x.natAbs + y.natAbs)).length ≤ 10001 := by
    refine lb_len.2 ?_
    have h1 := lb_len.1 (Nat.le_trans la ha)
    have h2 := lb_len.1 (Nat.le_trans lb' hb)
    obtain ⟨K, hK⟩ : ∃ K, K = 10000 := ⟨_, rfl⟩
    rw [← hK] at h1 h2
    rw [show 10001 = K + 1 by omega, Nat.pow_succ, B_eq]
    rw [B_eq] at h1 h2
    omega
  have hsub : ∀ p q : Nat, (lb p).length ≤ 10000 → (lb (p - q)).length ≤ 10000 := fun p q hp => by
    obtain ⟨K, hK⟩ : ∃ K, K = 10000 := ⟨_, rfl⟩
    rw [← hK] at hp ⊢
    exact lb_len.2 (Nat.lt_of_le_of_lt (Nat.sub_le _ _) (lb_len.1 hp))
  refine wp_decs (fun h => ?_) (fun h => ?_)
  · have sp := ref02_Add_sp (lb x.natAbs) (lb y.natAbs) (by omega) (by omega)
    rw [nv_lb, nv_lb] at sp
    refine wp_call sp ?_
    simp only [getD_c0]
    refine wp_call (ref03_Norm_sp ⟨decide (x < 0), lb (x.natAbs + y.natAbs)⟩ (by simp only; omega)) (wp_ret ?_)
    simp only [getD_c0, zv_lb]
    have h' : x < 0 ↔ y < 0 := by simpa using h
    congr 2
    rw [show (if decide (x < 0) = true then -((x.natAbs + y.natAbs : Nat) : Int) else ((x.natAbs + y.natAbs : Nat) : Int)) = x + y by
      by_cases hx : x < 0 <;> simp [hx] <;> omega]
    rfl
  · have h' : ¬ (x < 0 ↔ y < 0) := by simpa using h
    have sp := ref02_Cmp_sp (lb x.natAbs) (lb y.natAbs) (by omega) (by omega)
    rw [nv_lb, nv_lb] at sp
    refine wp_call sp ?_
    simp only [getD_c0, toInt_int, cmpN]
    refine wp_decs (fun h2 => ?_) (fun h2 => ?_)
    · have sp := ref02_Sub_sp (lb x.natAbs) (lb y.natAbs) (by omega) (by omega)
      rw [nv_lb, nv_lb] at sp
      refine wp_call sp ?_
      simp only [getD_c0]
      refine wp_call (ref03_Norm_sp ⟨decide (x < 0), lb (x.natAbs - y.natAbs)⟩ (by simp only; have := hsub x.natAbs y.natAbs (by omega); omega)) (wp_ret ?_)
      simp only [getD_c0, zv_lb]
      have hge : y.natAbs ≤ x.natAbs := by split at h2 <;> omega
      rw [show (if decide (x < 0) = true then -((x.natAbs - y.natAbs : Nat) : Int) else ((x.natAbs - y.natAbs : Nat) : Int)) = x + y by
        by_cases hx : x < 0 <;> simp [hx] <;> omega]
      rfl
    · have sp := ref02_Sub_sp (lb y.natAbs) (lb x.natAbs) (by omega) (by omega)
      rw [nv_lb, nv_lb] at sp
      refine wp_call sp ?_
      simp only [getD_c0]
      refine wp_call (ref03_Norm_sp ⟨decide (y < 0), lb (y.natAbs - x.natAbs)⟩ (by simp only; have := hsub y.natAbs x.natAbs (by omega); omega)) (wp_ret ?_)
      simp only [getD_c0, zv_lb]
      have hge : x.natAbs < y.natAbs := by
        rcases Nat.lt_or_ge x.natAbs y.natAbs with h3 | h3
        · exact h3
        · rw [if_neg (by omega)] at h2; split at h2 <;> omega
      rw [show (if decide (y < 0) = true then -((y.natAbs - x.natAbs : Nat) : Int) else ((y.natAbs - x.natAbs : Nat) : Int)) = x + y by
        by_cases hx : y < 0 <;> simp [hx] <;> omega]
      rfl
theorem ref03_Sub_sp (a b : Wh) (ha : a.mag.length ≤ 10000) (hb : b.mag.length ≤ 10000) : Sp 118 [dW a, dW b] [dW (wz (zv a - zv b))] := by
  refine sound_ 0 (ref03_Sub_tree _ _ _) (wp_call (ref03_Neg_sp b (by omega)) ?_)
  simp only [getD_c0]
  have := wz_len b
  refine wp_call (ref03_Add_sp a (wz (-zv b)) ha (by simp only [wz, Int.natAbs_neg]; omega)) (wp_ret ?_)
  simp only [getD_c0, zv_wz, ← Int.sub_eq_add_neg]
theorem ref03_Sign_sp (a : Wh) (ha : a.mag.length ≤ 1000000) : Sp 117 [dW a] [.int (sgnZ (zv a))] := by
  refine sound_ 0 (ref03_Sign_tree _ _) (wp_call (ref03_Norm_sp a ha) ?_)
  generalize zv a = x
  simp only [getD_c0, dW_0, dW_1, els_dL, List.length_map, int_beq, toBool_bool, wz]
  have h0 : ((lb x.natAbs).length : Int) = 0 ↔ x = 0 := by rw [Int.natCast_eq_zero, lb_len0]; omega
  unfold sgnZ
  refine wp_decs (fun h => wp_ret ?_) (fun h => wp_decs (fun h2 => wp_ret ?_) (fun h2 => wp_ret ?_))
  · rw [if_neg (by have := h0.1 h; omega), if_pos (h0.1 h)]
  · rw [if_pos h2]
  · rw [if_neg h2, if_neg (fun hh => h (h0.2 hh))]
theorem sub_len {a b : Wh} {k : Nat} (ha : a.mag.length ≤ k) (hb : b.mag.length ≤ k) : (wz (zv a - zv b)).mag.length ≤ k + 1 := by
  simp only [wz]
  refine lb_len.2 ?_
  have h1 := lb_len.1 (Nat.le_trans (wz_len a) ha)
  have h2 := lb_len.1 (Nat.le_trans (wz_len b) hb)
  rw [Nat.pow_succ, B_eq]
  rw [B_eq] at h1 h2
  omega
theorem ref03_Cmp_sp (a b : Wh) (ha : a.mag.length ≤ 10000) (hb : b.mag.length ≤ 10000) : Sp 146 [dW a, dW b] [.int (cmpZ (zv a) (zv b))] := by
  refine sound_ 0 (ref03_Cmp_tree _ _ _) (wp_call (ref03_Sub_sp a b ha hb) ?_)
  simp only [getD_c0]
  have := sub_len ha hb
  refine wp_call (ref03_Sign_sp _ (by omega)) (wp_ret ?_)
  simp only [getD_c0, toInt_int, zv_wz]
  congr 2
  unfold sgnZ cmpZ
  split <;> split <;> first | rfl | omega | (split <;> split <;> first | rfl | omega) | (split <;> first | rfl | omega)
theorem mul_i64_small {x : Int} (h : inR (x * 4294967296)) : IntKind.wrap .i64 (x * 4294967296) = x * 4294967296 := wrap64 h.1 h.2
theorem ref03_Small_sp (a : Wh) (ha : a.mag.length ≤ 10000) : Sp 115 [dW a] (smallZ (zv a)) := by
  refine sound_ 10 (ref03_Small_tree _ _) (wp_call (ref03_Norm_sp a (by omega)) ?_)
  generalize zv a = z
  simp only [getD_c0, dW_0, dW_1, els_dL, List.length_map]
  refine wp_decs (fun h => wp_ret ?_) (fun h => ?_)
  · have : ¬ (lb z.natAbs).length ≤ 2 := by simp only [wz] at h; omega
    rw [lb_len] at this
    have : ¬ inR z := by
      intro hr
      apply this
      unfold inR at hr
      show z.natAbs < 18446744073709551616
      omega
    rw [smallZ, if_neg this]
  · have hl : (wz z).mag.length ≤ 2 := by omega
    have hof : ∀ y, inR y → (wz y).mag.length ≤ 2 := fun y hy => lb_len.2 (by unfold inR at hy; show y.natAbs < 18446744073709551616; omega)
    have r1 : inR 9223372036854775807 := by decide
    have r2 : inR (-9223372036854775808) := by decide
    refine wp_call (ref03_Of_sp _ r1) (wp_call (ref03_Cmp_sp (wz z) (wz 9223372036854775807) (by omega) (by have := hof _ r1; omega)) ?_)
    simp only [getD_c0, toInt_int, zv_wz, cmpZ]
    refine wp_decs (fun h2 => wp_ret ?_) (fun h2 => ?_)
    · rw [smallZ, if_neg]
      unfold inR
      split at h2
      · omega
      · split at h2 <;> omega
    · refine wp_call (ref03_Of_sp _ r2) (wp_call (ref03_Cmp_sp (wz z) (wz (-9223372036854775808)) (by omega) (by have := hof _ r2; omega)) ?_)
      simp only [getD_c0, toInt_int, zv_wz, cmpZ]
      refine wp_decs (fun h3 => wp_ret ?_) (fun h3 => ?_)
      · rw [smallZ, if_neg]
        unfold inR
        split at h3
        · omega
        · split at h3 <;> omega
      · have hz : inR z := by
          unfold inR
          constructor
          · split at h3 <;> omega
          · split at h2
            · omega
            · split at h2 <;> omega
        rw [smallZ, if_pos hz]
        have key := loop_down (P := Tryz.prog) (md := md) (fun m k (x : Int) => ref03_Small_l6 10 m x ((k : Int) - 1) (dW (wz z))) (fun _ _ => [.int z, .bool true])
          (fun k x => k ≤ (wz z).mag.length ∧ x = if z < 0 then -((z.natAbs / B ^ k : Nat) : Int) else ((z.natAbs / B ^ k : Nat) : Int))
          (fun m x ⟨_, hx⟩ => by
            simp only [ref03_Small_l6_succ]
            refine wp_ndec (by omega) (wp_ret ?_)
            rw [hx]
            simp only [Nat.pow_zero, Nat.div_one]
            congr 2
            split <;> omega)
          (fun m k x ⟨hk, hx⟩ ih => by
            have hk' : k < (lb z.natAbs).length := hk
            have hg : (lb z.natAbs)[k]? = some (lb z.natAbs)[k] := List.getElem?_eq_getElem _
            simp only [ref03_Small_l6_succ, show ((k + 1 : Nat) : Int) - 1 = (k : Int) by omega, dW_0, dW_1, els_dL, List.length_map, toBool_bool, Int.toNat_natCast]
            have e1 : (wz z).mag = lb z.natAbs := rfl
            have e2 : (wz z).neg = decide (z < 0) := rfl
            rw [e1, e2, getD_map hg, toInt_dB, nv_limb, nv_lb]
            have hd := Nat.mod_add_div (z.natAbs / B ^ k) B
            rw [Nat.div_div_eq_div_mul, ← Nat.pow_succ] at hd
            have hle : z.natAbs / B ^ k ≤ z.natAbs := Nat.div_le_self _ _
            have hm := Nat.mod_lt (z.natAbs / B ^ k) B_pos
            unfold inR at hz
            have ih' := ih (if z < 0 then -((z.natAbs / B ^ k : Nat) : Int) else ((z.natAbs / B ^ k : Nat) : Int)) ⟨by omega, rfl⟩
            generalize z.natAbs / B ^ k = p at *
            generalize z.natAbs / B ^ (k + 1) = q at *
            generalize p % B = r at *
            rw [B_eq] at hd hm
            refine wp_dec (by omega) (wp_decs (fun hn => ?_) (fun hn => ?_))
            · rw [if_pos hn] at hx ih'
              refine wp_dec (by omega) (wp_dec (by omega) ?_)
              rw [hx, wrap64 (x := -(q : Int) * 4294967296) (by omega) (by omega), wrap64 (x := (r : Int)) (by omega) (by omega), wrap64 (x := -(q : Int) * 4294967296 - r) (by omega) (by omega), wrap64 (by omega) (by omega), show -(q : Int) * 4294967296 - (r : Int) = -(p : Int) by omega]
              exact ih'
            · rw [if_neg hn] at hx ih'
              refine wp_dec (by omega) (wp_dec (by omega) ?_)
              rw [hx, wrap64 (x := (q : Int) * 4294967296) (by omega) (by omega), wrap64 (x := (r : Int)) (by omega) (by omega), wrap64 (x := (q : Int) * 4294967296 + r) (by omega) (by omega), wrap64 (by omega) (by omega), show (q : Int) * 4294967296 + (r : Int) = (p : Int) by omega]
              exact ih')
          10 (wz z).mag.length 0 (by omega) ⟨Nat.le_refl _, by
            have : z.natAbs / B ^ (wz z).mag.length = 0 := Nat.div_eq_of_lt (lb_len.1 (Nat.le_refl _))
            rw [this]; simp⟩
        rw [wrap64 (by omega) (by omega)]
        exact key
theorem nat_trim_sp (l : List Limb) (hl : l.length < 9223372036854775807) : Sp 167 [dL l] [dL (lb (nv l))] := by
  refine sound_ (l.length + 1) (nat_trim_tree _ _) ?_
  have := loop_down (P := Tryz.prog) (md := md) (fun m k (_ : Unit) => nat_trim_l2 (l.length + 1) m (dL l) (k : Int)) (fun _ _ => [dL (lb (nv l))]) (fun k _ => k ≤ l.length ∧ ∀ i, k ≤ i → (hi : i < l.length) → l[i] = 0)
    (fun m s ⟨h1, h2⟩ => by
      simp only [nat_trim_l2_succ, els_dL, List.length_map, List.length_take]
      refine wp_ndec (by omega) (wp_dec (by omega) (wp_dec (by omega) (wp_dec (by omega) (wp_ret ?_))))
      rw [lb_take (k := 0) (by omega) h2 (fun _ h => by omega), dL_take]; rfl)
    (fun m k s ⟨h1, h2⟩ ih => by
      have hk : l[k]? = some l[k] := List.getElem?_eq_getElem _
      simp only [nat_trim_l2_succ, els_dL, List.length_map, List.length_take, wrap_pred k (by omega), Int.toNat_natCast, getD_map hk, toInt_dB, int_beq]
      refine wp_dec (by omega) (wp_dec (by omega) (wp_dec (by omega) (wp_decs (fun h => ?_) (fun h => ?_))))
      · refine ih () ⟨by omega, fun i hi hlt => ?_⟩
        by_cases he : i = k
        · subst he; exact BitVec.eq_of_toNat_eq (by simp; omega)
        · exact h2 i (by omega) hlt
      · refine wp_dec (by omega) (wp_dec (by omega) (wp_dec (by omega) (wp_ret ?_)))
        rw [lb_take (k := k + 1) (by omega) h2 (fun _ _ hc => h (by have hc' : l[k] = 0 := hc; rw [hc']; rfl)), dL_take])
    (l.length + 1) l.length () (by omega) ⟨Nat.le_refl _, fun i h1 h2 => by omega⟩
  simpa using this
theorem nat_Norm_sp (l : List Limb) (hl : l.length ≤ 1000000) : Sp 157 [dL l] [dL (lb (nv l))] := by
  refine sound_ 0 (nat_Norm_tree _ _) (wp_call (nat_trim_sp l (by omega)) ?_)
  have h1 : (lb (nv l)).length ≤ l.length := lb_len.2 (nv_lt l)
  simp only [getD_c0, els_dL, List.length_map, List.length_replicate, Int.toNat_natCast]
  refine wp_dec (by omega) (wp_dec (by omega) (wp_dec (by unfold bigN; omega) (wp_ret ?_)))
  rw [List.take_of_length_le (by simp), List.drop_eq_nil_of_le (by simp), List.append_nil]; rfl
theorem whole_signed_sp (b : Bool) (n : Nat) : Sp 156 [.bool b, dL (lb n)] [dW (wz (if b then -(n : Int) else (n : Int)))] := by
  refine sound_ 0 (whole_signed_tree _ _ _) ?_
  simp only [els_dL, List.length_map, int_beq, toBool_bool]
  refine wp_decs (fun h => wp_ret ?_) (fun h => wp_ret ?_)
  · have : n = 0 := lb_len0.1 (by omega)
    subst this
    simp [dW_zero]
  · have : n ≠ 0 := fun hh => h (by rw [hh, lb_zero]; rfl)
    rw [wz_of _ this]; rfl
theorem whole_Norm_sp (w : Wh) (h : w.mag.length ≤ 1000000) : Sp 153 [dW w] [dW (wz (zv w))] := by
  refine sound_ 0 (whole_Norm_tree _ _) (wp_call (nat_Norm_sp w.mag h) ?_)
  simp only [getD_c0, dW_0, toBool_bool]
  exact wp_call (whole_signed_sp w.neg (nv w.mag)) (wp_ret rfl)
theorem u64_neg {z : Int} (h : z < 0) (h2 : -9223372036854775808 ≤ z) : IntKind.wrap .u64 (0 - IntKind.wrap .u64 z) = -z := by
  rw [IntKind.wrap_u64, IntKind.wrap_u64]; omega
theorem fdiv32 (x : Nat) : Int.fdiv (x : Int) (2 ^ (min (Int.toNat 32) (IntKind.bits .u64))) = ((x / 4294967296 : Nat) : Int) := by
  show Int.fdiv (x : Int) 4294967296 = _
  rw [Int.fdiv_eq_ediv_of_nonneg _ (by omega)]; omega
theorem whole_Of_sp (z : Int) (h : inR z) : Sp 134 [.int z] [dW (wz z)] := by
  unfold inR at h
  refine sound_ 0 (whole_Of_tree _ _) ?_
  simp only [toInt_int]
  have main : ∀ n : Nat, n < 18446744073709551616 → [D.int (IntKind.wrap .u32 (n : Int)), D.int (IntKind.wrap .u32 (Int.fdiv (n : Int) (2 ^ (min (Int.toNat 32) (IntKind.bits .u64)))))] = [BitVec.ofNat 32 (n % 4294967296), BitVec.ofNat 32 (n / 4294967296)].map dB := by
    intro n hn
    rw [fdiv32, wrapU32 (x := ((n / 4294967296 : Nat) : Int)) (by omega) (by omega), dB_ofNat (t := n / 4294967296) (by rw [B_eq]; omega), show IntKind.wrap .u32 (n : Int) = ((n % 4294967296 : Nat) : Int) by rw [IntKind.wrap_u32]; omega, dB_ofNat (t := n % 4294967296) (by rw [B_eq]; omega)]; rfl
  refine wp_decs (fun h0 => ?_) (fun h0 => ?_)
  · obtain ⟨n, hn⟩ : ∃ n : Nat, -z = n := ⟨(-z).toNat, by omega⟩
    rw [u64_neg h0 h.1, hn, main n (by omega)]
    simp only [h0, decide_true]
    have sp := nat_Norm_sp [BitVec.ofNat 32 (n % 4294967296), BitVec.ofNat 32 (n / 4294967296)] (by simp)
    rw [two_limbs (by omega)] at sp
    refine wp_dec (by omega) (wp_call sp ?_)
    simp only [getD_c0]
    refine wp_call (whole_signed_sp true n) (wp_ret ?_)
    simp only [getD_c0, if_true]
    rw [show -(n : Int) = z by omega]
  · obtain ⟨n, rfl⟩ : ∃ n : Nat, z = n := ⟨z.toNat, by omega⟩
    rw [wrapU64 (by omega) (by omega), main n (by omega)]
    simp only [h0, decide_false]
    have sp := nat_Norm_sp [BitVec.ofNat 32 (n % 4294967296), BitVec.ofNat 32 (n / 4294967296)] (by simp)
    rw [two_limbs (by omega)] at sp
    refine wp_dec (by omega) (wp_call sp ?_)
    simp only [getD_c0]
    exact wp_call (whole_signed_sp false n) (wp_ret rfl)
theorem or_limb {x d : Nat} (hx : x < 4294967296) (hd : d < 4294967296) : bits_ .or .u64 (x : Int) ((d * 4294967296 : Nat) : Int) = ((x + d * 4294967296 : Nat) : Int) := by
  have h := or_bits (BitVec.ofNat 64 x) (BitVec.ofNat 64 (d * 4294967296))
  rw [BitVec.toNat_or, BitVec.toNat_ofNat, BitVec.toNat_ofNat, Nat.mod_eq_of_lt (a := x) (by omega), Nat.mod_eq_of_lt (a := d * 4294967296) (by omega)] at h
  rw [h]
  congr 1
  have := Nat.two_pow_add_eq_or_of_lt (i := 32) (b := x) (by omega) d
  rw [show 2 ^ 32 * d = d * 4294967296 by omega] at this
  rw [Nat.or_comm, ← this]; omega
theorem whole_Small_sp (a : Wh) (ha : a.mag.length ≤ 1000000) : Sp 124 [dW a] (smallZ (zv a)) := by
  refine sound_ 10 (whole_Small_tree _ _) (wp_call (whole_Norm_sp a (by omega)) ?_)
  generalize zv a = z
  simp only [getD_c0, dW_0, dW_1, els_dL, List.length_map]
  refine wp_decs (fun h => wp_ret ?_) (fun h => ?_)
  · have : ¬ (lb z.natAbs).length ≤ 2 := by simp only [wz] at h; omega
    rw [lb_len] at this
    have : ¬ inR z := by
      intro hr
      apply this
      unfold inR at hr
      show z.natAbs < 18446744073709551616
      omega
    rw [smallZ, if_neg this]
  · have hl : (lb z.natAbs).length ≤ 2 := by simp only [wz] at h; omega
    have hlt : z.natAbs < 18446744073709551616 := lb_len.1 hl
    have fin : ∀ (m : Nat) (t : D) (k : Int), Tw (whole_Small_l6 10 (m + 1) (z.natAbs : Int) t k k (dW (wz z))) (smallZ z) := by
      intro m t k
      simp only [Tw, whole_Small_l6_succ, dW_0, toBool_bool, wz]
      refine wp_ndec (by omega) (wp_decs (fun hn => wp_decs (fun h2 => wp_ret ?_) (fun h2 => wp_ret ?_)) (fun hn => wp_decs (fun h2 => wp_ret ?_) (fun h2 => wp_ret ?_)))
      · rw [smallZ, if_neg]; unfold inR; omega
      · rw [smallZ, if_pos (by unfold inR; omega), IntKind.wrap_u64, IntKind.wrap_i64]
        congr 2
        omega
      · rw [smallZ, if_neg]; unfold inR; omega
      · rw [smallZ, if_pos (by unfold inR; omega), wrap64 (by omega) (by omega)]
        congr 2
        omega
    have one : ∀ (m : Nat) (l : List Limb) (t : Int) (k x : Nat) (d : Limb), k ≤ 1 → l[k]? = some d → (k : Int) < t → (k = 0 → x = 0) → x < 4294967296 → Tw (whole_Small_l6 10 m ((x + d.toNat * 4294967296 ^ k : Nat) : Int) (dL l) t ((k + 1 : Nat) : Int) (dW (wz z))) (smallZ z) → Tw (whole_Small_l6 10 (m + 1) (x : Int) (dL l) t (k : Int) (dW (wz z))) (smallZ z) := by
      intro m l t k x d hk hd ht hx hx2 hw
      have hkl : k < l.length := (List.getElem?_eq_some_iff.1 hd).1
      have hdl := limb_lt d
      rw [B_eq] at hdl
      simp only [Tw, whole_Small_l6_succ, els_dL, List.length_map, Int.toNat_natCast, getD_map hd, toInt_dB]
      rw [wrap64 (x := 32 * (k : Int)) (by omega) (by omega), wrapU64 (x := 32 * (k : Int)) (by omega) (by omega), wrapU64 (x := (d.toNat : Int)) (by omega) (by omega), wrap_succ (by omega)]
      refine wp_dec (by omega) (wp_dec (by omega) (wp_dec (by omega) (wp_dec (by omega) ?_)))
      have e : bits_ .or .u64 (x : Int) (IntKind.wrap .u64 ((d.toNat : Int) * 2 ^ (min (Int.toNat (32 * (k : Int))) (IntKind.bits .u64)))) = ((x + d.toNat * 4294967296 ^ k : Nat) : Int) := by
        rcases (by omega : k = 0 ∨ k = 1) with rfl | rfl
        · rw [hx rfl]
          show bits_ .or .u64 ((0 : Nat) : Int) (IntKind.wrap .u64 ((d.toNat : Int) * 1)) = _
          rw [Int.mul_one, wrapU64 (by omega) (by omega)]
          have := or_bits (0 : Lab) (BitVec.ofNat 64 d.toNat)
          rw [BitVec.toNat_or, BitVec.toNat_ofNat, Nat.mod_eq_of_lt (a := d.toNat) (by omega)] at this
          simpa using this
        · show bits_ .or .u64 (x : Int) (IntKind.wrap .u64 ((d.toNat : Int) * 4294967296)) = _
          rw [show (d.toNat : Int) * 4294967296 = ((d.toNat * 4294967296 : Nat) : Int) by omega, wrapU64 (by omega) (by omega), or_limb hx2 hdl]
          try simp
      rw [e]
      exact hw
    have hz0 : z.natAbs = nv (lb z.natAbs) := (nv_lb _).symm
    simp only [show (wz z).mag = lb z.natAbs from rfl]
    generalize hll : lb z.natAbs = ll at *
    match ll, hl with
    | [], _ =>
      have : z.natAbs = 0 := by simpa using hz0
      have hf := fin 9 (dL []) 0
      rw [this] at hf
      exact hf
    | [d], _ =>
      have : z.natAbs = d.toNat := by simpa [nv] using hz0
      refine one 9 [d] 1 0 0 d (by omega) rfl (by omega) (fun _ => rfl) (by omega) ?_
      have hf := fin 8 (dL [d]) 1
      rw [this] at hf
      simpa using hf
    | [d, e], _ =>
      have : z.natAbs = d.toNat + e.toNat * 4294967296 := by simp only [nv, nv_nil] at hz0; rw [B_eq] at hz0; omega
      have hdl := limb_lt d
      rw [B_eq] at hdl
      refine one 9 [d, e] 2 0 0 d (by omega) rfl (by omega) (fun _ => rfl) (by omega) ?_
      have := one 8 [d, e] 2 1 d.toNat e (by omega) rfl (by omega) (fun h => by omega) (by omega) (by
        have hf := fin 7 (dL [d, e]) 2
        rw [this] at hf
        simpa using hf)
      simpa using this
end Go.Proofs.YtbgcadcpeabpgaaGreat
set_option maxRecDepth 100000
namespace Go.Proofs.YtbgcadcpeabpgaaGreat

def numT (n : Num) : Int := zv ⟨n.neg, n.top⟩
def numB (n : Num) : Int := (nv n.bot : Int)
def ofZ (z : Int) : Num := ⟨decide (z < 0), lb z.natAbs, [1]⟩
def optI : Option Int → List D
  | some z => [.int z, .bool true]
  | none => [.int 0, .bool false]
def smO (z : Int) : Option Int := if inR z then some z else none
theorem smallZ_eq (z : Int) : smallZ z = optI (smO z) := by unfold smallZ smO; split <;> rfl
/-- A number as an int. -/
def smallN (n : Num) : Option Int := if n.bot = [1] then smO (numT n) else none
/-- In lowest terms; an error. -/
def mkR (p q : Int) : Num × Int :=
  if q = 0 then (.zero, 3)
  else if 32 < (lb (p.natAbs / Nat.gcd p.natAbs q.natAbs)).length ∨ 32 < (lb (q.natAbs / Nat.gcd p.natAbs q.natAbs)).length then (.zero, 7)
  else (⟨decide (0 < (lb (p.natAbs / Nat.gcd p.natAbs q.natAbs)).length) && !(decide (p < 0) == decide (q < 0)), lb (p.natAbs / Nat.gcd p.natAbs q.natAbs), lb (q.natAbs / Nat.gcd p.natAbs q.natAbs)⟩, 0)
def rightN (n : Num) : Bool := decide (n.top.length ≤ 32 ∧ n.bot.length ≤ 32 ∧ mkR (numT n) (numB n) = (n, 0))
theorem dN_zero : D.agg [.bool false, .sl [], .sl []] = dN .zero := rfl
theorem one_iff (l : List Limb) : (l = [1]) ↔ (l.length = 1 ∧ ∀ h : 0 < l.length, l[0].toNat = 1) := by
  constructor
  · rintro rfl; exact ⟨rfl, fun _ => rfl⟩
  · rintro ⟨h1, h2⟩
    match l, h1 with
    | [x], _ => have := h2 (by simp); simp at this; exact congrArg (· :: []) (BitVec.eq_of_toNat_eq (by simpa using this))
theorem one_tree {P : Program} {md : Nat → FMode} (l : List Limb) : (Tree.br (((l.map dB).length : Int) == 1) (.br (decide (0 ≤ (0 : Int))) (.br (decide (0 < ((l.map dB).length : Int))) (.ret [D.bool ((((l.map dB).getD (Int.toNat 0) D.nil).toInt) == 1)]) .fail) .fail) (.ret [D.bool false])).wp P md (fun zs => zs = [.bool (decide (l = [1]))]) := by
  simp only [List.length_map, int_beq]
  refine wp_decs (fun h => wp_dec (by omega) (wp_dec (by omega) (wp_ret ?_))) (fun h => wp_ret ?_)
  · have hg : l[0]? = some (l[0]'(by omega)) := List.getElem?_eq_getElem _
    rw [show Int.toNat 0 = 0 from rfl, getD_map hg, toInt_dB]
    congr 2
    rw [decide_eq_decide, one_iff]
    refine ⟨fun hh => ⟨by omega, fun _ => by omega⟩, fun hh => by have := hh.2 (by omega); omega⟩
  · rw [decide_eq_false]; rintro rfl; exact h rfl
theorem ref04_IsWhole_sp (n : Num) : Sp 114 [dN n] [.bool (decide (n.bot = [1]))] := by
  refine sound_ 0 (ref04_IsWhole_tree _ _) ?_
  simp only [dN_2, els_dL]
  exact one_tree n.bot
theorem ratio_isOne_sp (l : List Limb) : Sp 123 [dL l] [.bool (decide (l = [1]))] := by
  refine sound_ 0 (ratio_isOne_tree _ _) ?_
  simp only [els_dL]
  exact one_tree l
theorem ref04_Top_sp (n : Num) (h : n.top.length ≤ 1000000) : Sp 116 [dN n] [dW (wz (numT n))] := by
  refine sound_ 0 (ref04_Top_tree _ _) ?_
  simp only [dN_0, dN_1, toBool_bool]
  exact wp_call (ref03_Norm_sp ⟨n.neg, n.top⟩ h) (wp_ret rfl)
theorem ref04_Bot_sp (n : Num) (h : n.bot.length ≤ 1000000) : Sp 120 [dN n] [dW (wz (numB n))] := by
  refine sound_ 0 (ref04_Bot_tree _ _) ?_
  simp only [dN_2]
  exact wp_call (ref03_Norm_sp ⟨false, n.bot⟩ h) (wp_ret rfl)
theorem ref04_Whole_sp (w : Wh) (h : w.mag.length ≤ 1000000) : Sp 152 [dW w] [dN (ofZ (zv w))] := by
  refine sound_ 0 (ref04_Whole_tree _ _) (wp_call (ref03_Norm_sp w h) (wp_ret rfl))
theorem ref04_Of_sp (z : Int) (h : inR z) : Sp 122 [.int z] [dN (ofZ z)] := by
  refine sound_ 0 (ref04_Of_tree _ _) (wp_call (ref03_Of_sp z h) ?_)
  have hl : (wz z).mag.length ≤ 2 := lb_len.2 (by unfold inR at h; show z.natAbs < 18446744073709551616; omega)
  refine wp_call (ref04_Whole_sp (wz z) (by omega)) (wp_ret ?_)
  rw [zv_wz]; rfl
theorem ref04_Small_sp (n : Num) (h : n.top.length ≤ 10000) : Sp 72 [dN n] (optI (smallN n)) := by
  refine sound_ 0 (ref04_Small_tree _ _) (wp_call (ref04_IsWhole_sp n) ?_)
  simp only [getD_c0, toBool_bool, not_dec]
  unfold smallN
  refine wp_decs (fun h => wp_ret ?_) (fun h0 => ?_)
  · rw [if_neg h]; rfl
  · rw [if_pos (Classical.not_not.1 h0)]
    refine wp_call (ref04_Top_sp n (by omega)) ?_
    have hl : (wz (numT n)).mag.length ≤ n.top.length := wz_len ⟨n.neg, n.top⟩
    refine wp_call (ref03_Small_sp (wz (numT n)) (by omega)) ?_
    rw [zv_wz, smallZ_eq]
    cases smO (numT n) <;> exact wp_ret rfl
theorem ratio_top_sp (n : Num) : Sp 125 [dN n] [dW ⟨n.neg, n.top⟩] := sound_ 0 (ratio_top_tree _ _) (wp_ret rfl)
theorem ratio_Small_sp (n : Num) (h : n.top.length ≤ 1000000) : Sp 80 [dN n] (optI (smallN n)) := by
  refine sound_ 0 (ratio_Small_tree _ _) (wp_call (ratio_isOne_sp n.bot) ?_)
  simp only [getD_c0, toBool_bool, not_dec]
  unfold smallN
  refine wp_decs (fun h => wp_ret ?_) (fun h0 => ?_)
  · rw [if_neg h]; rfl
  · rw [if_pos (Classical.not_not.1 h0)]
    refine wp_call (ratio_top_sp n) (wp_call (whole_Small_sp ⟨n.neg, n.top⟩ h) ?_)
    rw [smallZ_eq, show zv ⟨n.neg, n.top⟩ = numT n from rfl]
    cases smO (numT n) <;> exact wp_ret rfl
/-- A whole number, if it is not too great. -/
def wholeN (z : Int) : Num := if 32 < (lb z.natAbs).length then .zero else ofZ z
theorem ratio_Whole_sp (w : Wh) (h : w.mag.length ≤ 1000000) : Sp 133 [dW w] [dN (wholeN (zv w))] := by
  refine sound_ 0 (ratio_Whole_tree _ _) (wp_call (whole_Norm_sp w h) ?_)
  simp only [getD_c0, dW_0, dW_1, els_dL, List.length_map, toBool_bool]
  unfold wholeN
  refine wp_decs (fun h => wp_ret ?_) (fun h => wp_ret ?_)
  · rw [if_pos (by simp only [wz] at h; omega)]; rfl
  · rw [if_neg (by simp only [wz] at h; omega)]; rfl
theorem ratio_Of_sp (z : Int) (h : inR z) : Sp 102 [.int z] [dN (ofZ z)] := by
  refine sound_ 0 (ratio_Of_tree _ _) (wp_call (whole_Of_sp z h) ?_)
  have hl : (wz z).mag.length ≤ 2 := lb_len.2 (by unfold inR at h; show z.natAbs < 18446744073709551616; omega)
  refine wp_call (ratio_Whole_sp (wz z) (by omega)) (wp_ret ?_)
  rw [zv_wz, wholeN, if_neg (by simp only [wz] at hl; omega)]; rfl
theorem num_eq (a b : Num) : (a = b) ↔ (a.neg = b.neg ∧ a.top = b.top ∧ a.bot = b.bot) := by
  cases a; cases b; simp
theorem ref04_Same_sp (a b : Num) (h1 : a.top.length ≤ 9223372036854775807) (h2 : a.bot.length ≤ 9223372036854775807) : Sp 101 [dN a, dN b] [.bool (decide (a = b))] := by
  refine sound_ 0 (ref04_Same_tree _ _ _) ?_
  simp only [dN_0, dN_1, dN_2, toBool_bool, bool_beq]
  refine wp_decs (fun e1 => wp_call (ref02_Same_sp a.top b.top h1) ?_) (fun e1 => wp_ret ?_)
  · simp only [getD_c0, toBool_bool]
    refine wp_decs (fun e2 => wp_call (ref02_Same_sp a.bot b.bot h2) (wp_ret ?_)) (fun e2 => wp_ret ?_)
    · simp only [getD_c0, toBool_bool]
      congr 2
      rw [decide_eq_decide, num_eq]; simp [e1, e2]
    · rw [decide_eq_false]; rintro rfl; exact e2 rfl
  · rw [decide_eq_false]; rintro rfl; exact e1 rfl
theorem slices_EqualU_sp (a b : List Limb) (ha : a.length ≤ 9223372036854775807) : Sp 137 [dL a, dL b] [.bool (decide (a = b))] := by
  refine sound_ (a.length + 1) (slices_Equal_uint32_uint32_tree _ _ _) ?_
  simp only [els_dL, List.length_map, int_bne]
  refine wp_decs (fun h => wp_ret ?_) (fun h => ?_)
  · rw [decide_eq_false]; rintro rfl; exact h rfl
  · refine eq_loop dB dB_inj a b (by omega) ha (fun m i => slices_Equal_uint32_uint32_l4 (a.length + 1) m (dL a) (dL b) (a.length : Int) i) (fun m i => ?_)
    rw [slices_Equal_uint32_uint32_l4_succ]
    simp only [els_dL, List.length_map]
theorem slices_EqualI_sp (a b : List Int) (ha : a.length ≤ 9223372036854775807) : Sp 104 [dI a, dI b] [.bool (decide (a = b))] := by
  refine sound_ (a.length + 1) (slices_Equal_int_int_tree _ _ _) ?_
  simp only [els_dI, List.length_map, int_bne]
  refine wp_decs (fun h => wp_ret ?_) (fun h => ?_)
  · rw [decide_eq_false]; rintro rfl; exact h rfl
  · refine eq_loop D.int dint_inj a b (by omega) ha (fun m i => slices_Equal_int_int_l4 (a.length + 1) m (dI a) (dI b) (a.length : Int) i) (fun m i => ?_)
    rw [slices_Equal_int_int_l4_succ]
    simp only [els_dI, List.length_map]
theorem ratio_Same_sp (a b : Num) (h1 : a.top.length ≤ 9223372036854775807) (h2 : a.bot.length ≤ 9223372036854775807) : Sp 107 [dN a, dN b] [.bool (decide (a = b))] := by
  refine sound_ 0 (ratio_Same_tree _ _ _) ?_
  simp only [dN_0, dN_1, dN_2, toBool_bool, bool_beq]
  refine wp_decs (fun e1 => wp_call (slices_EqualU_sp a.top b.top h1) ?_) (fun e1 => wp_ret ?_)
  · simp only [getD_c0, toBool_bool]
    refine wp_decs (fun e2 => wp_call (slices_EqualU_sp a.bot b.bot h2) (wp_ret ?_)) (fun e2 => wp_ret ?_)
    · simp only [getD_c0, toBool_bool]
      congr 2
      rw [decide_eq_decide, num_eq]; simp [e1, e2]
    · rw [decide_eq_false]; rintro rfl; exact e2 rfl
  · rw [decide_eq_false]; rintro rfl; exact e1 rfl
theorem ref04_Make_sp (p q : Wh) (hp : p.mag.length ≤ 1000) (hq : q.mag.length ≤ 1000) : Sp 130 [dW p, dW q] [dN (mkR (zv p) (zv q)).1, .int (mkR (zv p) (zv q)).2] := by
  refine sound_ 0 (ref04_Make_tree _ _ _) (wp_call (ref03_Norm_sp p (by omega)) (wp_call (ref03_Norm_sp q (by omega)) ?_))
  have lp := wz_len p
  have lq := wz_len q
  generalize zv p = x at *
  generalize zv q = y at *
  simp only [getD_c0, dW_0, dW_1, els_dL, List.length_map, toBool_bool, int_beq, wz]
  refine wp_decs (fun h => wp_ret ?_) (fun h => ?_)
  · have : y = 0 := by have := lb_len0.1 (show (lb y.natAbs).length = 0 by omega); omega
    unfold mkR; rw [if_pos this]; rfl
  · have hy : y ≠ 0 := fun hh => h (by rw [hh]; simp [lb_zero])
    have sp := ref02_Gcd_sp (lb x.natAbs) (lb y.natAbs) (by omega) (by omega)
    rw [nv_lb, nv_lb] at sp
    refine wp_call sp ?_
    simp only [getD_c0]
    have hg : Nat.gcd x.natAbs y.natAbs ≠ 0 := fun hh => hy (by have := (Nat.gcd_eq_zero_iff.1 hh).2; omega)
    have hgl : (lb (Nat.gcd x.natAbs y.natAbs)).length ≤ 1000 := by
      refine Nat.le_trans ?_ (Nat.le_trans lq hq)
      refine lb_len.2 (Nat.lt_of_le_of_lt (Nat.gcd_le_right _ (by omega)) (lb_len.1 (Nat.le_refl _)))
    have sp1 := ref02_DivMod_sp (lb x.natAbs) (lb (Nat.gcd x.natAbs y.natAbs)) (by omega) (by omega)
    have sp2 := ref02_DivMod_sp (lb y.natAbs) (lb (Nat.gcd x.natAbs y.natAbs)) (by omega) (by omega)
    rw [nv_lb, nv_lb] at sp1 sp2
    refine wp_call sp1 (wp_call sp2 ?_)
    simp only [getD_c0, els_dL, List.length_map]
    unfold mkR
    rw [if_neg hy]
    refine wp_decs (fun h1 => wp_ret ?_) (fun h1 => wp_decs (fun h2 => wp_ret ?_) (fun h2 => wp_decs (fun h3 => wp_ret ?_) (fun h3 => wp_ret ?_)))
    · rw [if_pos (by omega)]; rfl
    · rw [if_pos (by omega)]; rfl
    · rw [if_neg (by omega), decide_eq_true (p := 0 < (lb (x.natAbs / Nat.gcd x.natAbs y.natAbs)).length) (by omega), Bool.true_and]; rfl
    · rw [if_neg (by omega), decide_eq_false (p := 0 < (lb (x.natAbs / Nat.gcd x.natAbs y.natAbs)).length) (by omega), Bool.false_and]; rfl
theorem ref04_Right_sp (n : Num) : Sp 91 [dN n] [.bool (rightN n)] := by
  refine sound_ 0 (ref04_Right_tree _ _) ?_
  simp only [dN_1, dN_2, els_dL, List.length_map]
  unfold rightN
  refine wp_decs (fun h => wp_ret ?_) (fun h => wp_decs (fun h' => wp_ret ?_) (fun h' => ?_))
  · rw [decide_eq_false (by omega)]
  · rw [decide_eq_false (by omega)]
  · refine wp_call (ref04_Top_sp n (by omega)) (wp_call (ref04_Bot_sp n (by omega)) ?_)
    have l1 : (wz (numT n)).mag.length ≤ n.top.length := wz_len ⟨n.neg, n.top⟩
    have l2 : (wz (numB n)).mag.length ≤ n.bot.length := wz_len ⟨false, n.bot⟩
    refine wp_call (ref04_Make_sp (wz (numT n)) (wz (numB n)) (by omega) (by omega)) ?_
    simp only [getD_c0, getD_c1, toInt_int, int_beq, zv_wz]
    generalize mkR (numT n) (numB n) = r
    refine wp_decs (fun h3 => wp_call (ref04_Same_sp n r.1 (by omega) (by omega)) (wp_ret ?_)) (fun h3 => wp_ret ?_)
    · simp only [getD_c0, toBool_bool]
      congr 2
      rw [decide_eq_decide]
      refine ⟨fun hh => ⟨by omega, by omega, by rw [hh]; exact Prod.ext rfl h3⟩, fun hh => by rw [hh.2.2]⟩
    · rw [decide_eq_false]
      rintro ⟨_, _, hh⟩
      exact h3 (by rw [hh])
end Go.Proofs.YtbgcadcpeabpgaaGreat
set_option maxRecDepth 100000
namespace Go.Proofs.YtbgcadcpeabpgaaGreat
/-! scrim/scrimref06.May -/
def ref06_May_orc : List (Nat × Orc) := []
theorem ref06_May_tree (n : Nat) (c0 : D) : evFun Tryz.prog md ref06_May_orc n 93 [] [c0] =
 .br (decide (0 ≤ c0.toInt)) (.br (decide (c0.toInt ≤ 1114111)) (.br (decide (c0.toInt < 55296)) (.ret [D.bool true])
 (.ret [D.bool (decide (57343 < c0.toInt))]))
 (.ret [D.bool false]))
 (.ret [D.bool false]) := by kernel_rfl

end Go.Proofs.YtbgcadcpeabpgaaGreat
set_option maxRecDepth 100000
namespace Go.Proofs.YtbgcadcpeabpgaaGreat

theorem bigFuel : ∃ N : Nat, 9223372036854775808 < N := ⟨9223372036854775809, by decide⟩
/-- A loop along a list, whatever is told at its end. -/
theorem loop_any {α σ : Type} {P : Program} {md : Nat → FMode} {Q : List D → Prop} (xs : List α) (L : Nat → Nat → σ → Tree) (I : List α → σ → Prop)
    (hnil : ∀ m k s, k = xs.length → I [] s → (L (m + 1) k s).wp P md Q)
    (hcons : ∀ m k s x rest, xs.drop k = x :: rest → I (x :: rest) s → (∀ s', I rest s' → (L m (k + 1) s').wp P md Q) → (L (m + 1) k s).wp P md Q) :
    ∀ m k s, xs.length - k < m → k ≤ xs.length → I (xs.drop k) s → (L m k s).wp P md Q := by
  intro m
  induction m with
  | zero => intro k s h; omega
  | succ m ih =>
    intro k s h1 h2 hI
    cases hd : xs.drop k with
    | nil => rw [hd] at hI; exact hnil m k s (by have := drop_nil hd; omega) hI
    | cons x rest =>
      rw [hd] at hI
      obtain ⟨a1, a2, a3⟩ := drop_cons hd
      exact hcons m k s x rest hd hI (fun s' hI' => ih (k + 1) s' (by omega) (by omega) (by rw [a3]; exact hI'))
/-- The product of lengths; 0 if it is too great. -/
def prodS : List Int → Int → Int
  | [], p => p
  | x :: xs, p => if 2048 < p * x then 0 else prodS xs (p * x)
/-- How many cells; an error. -/
def countS (l : List Int) : Int × Int :=
  if 6 < l.length then (0, 7) else if l.any (fun x => decide (x < 0)) then (0, 3) else if l.any (fun x => decide (2048 < x)) then (0, 7)
  else if l.any (fun x => decide (x = 0)) then (0, 0) else if prodS l 1 = 0 then (0, 7) else (prodS l 1, 0)
theorem prod_le {x y : Int} (h1 : 1 ≤ x) (h2 : x ≤ 2048) (h3 : 1 ≤ y) (h4 : y ≤ 2048) : 1 ≤ x * y ∧ x * y ≤ 4194304 := by
  constructor
  · have := Int.mul_le_mul h1 h3 (by omega) (by omega); omega
  · have := Int.mul_le_mul h2 h4 (by omega) (by omega); omega
theorem prodS_pos : ∀ (l : List Int) (p : Int), 1 ≤ p → p ≤ 2048 → (∀ x ∈ l, 1 ≤ x ∧ x ≤ 2048) → 0 ≤ prodS l p ∧ prodS l p ≤ 2048
  | [], p, h1, h2, _ => by simp only [prodS]; omega
  | x :: xs, p, h1, h2, h => by
    simp only [prodS]
    have hx := h x (by simp)
    have := prod_le h1 h2 hx.1 hx.2
    split
    · omega
    · exact prodS_pos xs (p * x) this.1 (by omega) (fun y hy => h y (by simp [hy]))
theorem any_false {l : List Int} {p : Int → Bool} (h : ¬ l.any p = true) : ∀ x ∈ l, p x = false := fun x hx => by
  cases hp : p x with
  | false => rfl
  | true => exact absurd (List.any_eq_true.2 ⟨x, hx, hp⟩) h
theorem count_pos {l : List Int} (h1 : ¬ l.any (fun x => decide (x < 0)) = true) (h2 : ¬ l.any (fun x => decide (2048 < x)) = true) (h3 : ¬ l.any (fun x => decide (x = 0)) = true) : ∀ x ∈ l, 1 ≤ x ∧ x ≤ 2048 := fun x hx => by
  have a := of_decide_eq_false (any_false h1 x hx)
  have b := of_decide_eq_false (any_false h2 x hx)
  have c := of_decide_eq_false (any_false h3 x hx)
  omega
theorem countS_le (l : List Int) : 0 ≤ (countS l).1 ∧ (countS l).1 ≤ 2048 := by
  unfold countS
  split
  · decide
  split
  · decide
  split
  · decide
  split
  · decide
  split
  · decide
  · rename_i h1 h2 h3 h4 _; exact prodS_pos l 1 (by decide) (by decide) (count_pos h2 h3 h4)
theorem countS_len {l : List Int} (h : (countS l).2 = 0) : l.length ≤ 6 ∧ ∀ x ∈ l, 0 ≤ x ∧ x ≤ 2048 := by
  unfold countS at h
  split at h
  · cases h
  split at h
  · cases h
  split at h
  · cases h
  · rename_i h1 h2 h3
    refine ⟨by omega, fun x hx => ?_⟩
    have a := of_decide_eq_false (any_false h2 x hx)
    have b := of_decide_eq_false (any_false h3 x hx)
    omega
/-- The first place of one that is asked for. -/
def idxD (p : Int → Bool) : Nat → List Int → Int
  | _, [] => -1
  | k, x :: xs => if p x then (k : Int) else idxD p (k + 1) xs
def cpD (p : Int) : List D := if p = 0 then [.int 0, .int 7] else [.int p, .int 0]
theorem prodS_cons (x : Int) (xs : List Int) (p : Int) : prodS (x :: xs) p = if 2048 < p * x then 0 else prodS xs (p * x) := rfl
theorem idxD_cons (p : Int → Bool) (k : Nat) (x : Int) (xs : List Int) : idxD p k (x :: xs) = if p x then (k : Int) else idxD p (k + 1) xs := rfl
theorem ref07_Count2 (N : Nat) (l : List Int) (hl : l.length < N) (hb : l.length ≤ 6) (hx : ∀ x ∈ l, 1 ≤ x ∧ x ≤ 2048) : Tw (ref07_Count_l17 N N (dI l) 1 0) (cpD (prodS l 1)) := by
  have key := loop_list (P := Tryz.prog) (md := md) l (fun m k (p : Int) => ref07_Count_l17 N m (dI l) p (k : Int)) (fun rest p => cpD (prodS rest p)) (fun _ p => 1 ≤ p ∧ p ≤ 2048)
    (fun m k p hk hI => by
      simp only [ref07_Count_l17_succ, els_dI, List.length_map]
      refine wp_ndec (by omega) (wp_ret ?_)
      show _ = cpD p
      rw [cpD, if_neg (by omega)])
    (fun m k p x rest hd hI ih => by
      obtain ⟨h1, h2, h3⟩ := drop_cons hd
      have hxx := hx x (List.mem_of_getElem? h2)
      have hp := prod_le hI.1 hI.2 hxx.1 hxx.2
      simp only [ref07_Count_l17_succ, els_dI, List.length_map, Int.toNat_natCast, getD_map h2, toInt_int, wrap_succ (show k < 9223372036854775807 by omega), wrap64 (x := p * x) (by omega) (by omega)]
      repeat (refine wp_dec (by omega) ?_)
      rw [prodS_cons]
      refine wp_decs (fun h => wp_ret ?_) (fun h => ?_)
      · rw [if_pos h]; rfl
      · rw [if_neg h]; exact ih _ ⟨hp.1, by omega⟩)
    N 0 1 (by omega) (by omega) (by decide)
  exact key
theorem ref07_Count_sp (l : List Int) : Sp 49 [dI l] [.int (countS l).1, .int (countS l).2] := by
  refine sound_ (l.length + 1) (ref07_Count_tree _ _) ?_
  simp only [els_dI, List.length_map]
  unfold countS
  refine wp_decs (fun h => wp_ret ?_) (fun h => ?_)
  · rw [if_pos (by omega)]
  · rw [if_neg (by omega)]
    have key := loop_list (P := Tryz.prog) (md := md) l (fun m k (s : Bool × Bool) => ref07_Count_l5 (l.length + 1) m (dI l) s.1 s.2 (k : Int))
      (fun rest s => if rest.any (fun x => decide (x < 0)) then [.int 0, .int 3] else if s.1 || rest.any (fun x => decide (2048 < x)) then [.int 0, .int 7] else if s.2 || rest.any (fun x => decide (x = 0)) then [.int 0, .int 0] else cpD (prodS l 1))
      (fun rest s => (∀ x ∈ l, (0 ≤ x ∧ (s.1 = true ∨ x ≤ 2048) ∧ (s.2 = true ∨ x ≠ 0)) ∨ x ∈ rest))
      (fun m k s hk hI => by
        simp only [ref07_Count_l5_succ, els_dI, List.length_map]
        refine wp_ndec (by omega) (wp_br (fun h1 => wp_ret ?_) (fun h1 => wp_br (fun h2 => wp_ret ?_) (fun h2 => ?_)))
        · simp [h1]
        · simp [h1, h2]
        · simp only [h1, h2, List.any_nil, Bool.or_self, Bool.false_eq_true, if_false]
          refine ref07_Count2 (l.length + 1) l (by omega) (by omega) (fun x hx => ?_)
          rcases hI x hx with ⟨a, b, c⟩ | b
          · rw [h1] at b; rw [h2] at c
            simp at b c
            omega
          · cases b)
      (fun m k s x rest hd hI ih => by
        obtain ⟨h1, h2, h3⟩ := drop_cons hd
        simp only [ref07_Count_l5_succ, els_dI, List.length_map, Int.toNat_natCast, getD_map h2, toInt_int, wrap_succ (show k < 9223372036854775807 by omega), int_beq]
        repeat (refine wp_dec (by omega) ?_)
        refine wp_decs (fun h => wp_ret ?_) (fun h => ?_)
        · simp [h]
        · have hih : ∀ s' : Bool × Bool, s' = (s.1 || decide (2048 < x), s.2 || decide (x = 0)) → Tw (ref07_Count_l5 (l.length + 1) m (dI l) s'.1 s'.2 ((k + 1 : Nat) : Int)) (if (x :: rest).any (fun x => decide (x < 0)) then [.int 0, .int 3] else if s.1 || (x :: rest).any (fun x => decide (2048 < x)) then [.int 0, .int 7] else if s.2 || (x :: rest).any (fun x => decide (x = 0)) then [.int 0, .int 0] else cpD (prodS l 1)) := fun s' hs' => by
            have := ih s' (fun y hy => by
              subst hs'
              rcases hI y hy with ⟨a, b, c⟩ | b
              · refine .inl ⟨a, ?_, ?_⟩
                · rcases b with b | b
                  · left; simp [b]
                  · right; exact b
                · rcases c with b | b
                  · left; simp [b]
                  · right; exact b
              · rcases List.mem_cons.1 b with rfl | b
                · left
                  refine ⟨by omega, ?_, ?_⟩
                  · by_cases hh : 2048 < y
                    · left; simp [hh]
                    · right; omega
                  · by_cases hh : y = 0
                    · left; simp [hh]
                    · right; exact hh
                · exact .inr b)
            subst hs'
            rw [List.any_cons, List.any_cons, List.any_cons, decide_eq_false h, Bool.false_or, ← Bool.or_assoc, ← Bool.or_assoc]
            exact this
          refine wp_br (fun b1 => wp_br (fun b2 => ?_) (fun b2 => ?_)) (fun b1 => ?_)
          · exact hih (true, true) (by simp [b1, b2])
          · repeat (refine wp_dec (by omega) ?_)
            exact hih (true, decide (x = 0)) (by simp [b1, b2])
          · repeat (refine wp_dec (by omega) ?_)
            refine wp_br (fun b2 => ?_) (fun b2 => ?_)
            · exact hih (decide (2048 < x), true) (by simp [b1, b2])
            · repeat (refine wp_dec (by omega) ?_)
              exact hih (decide (2048 < x), decide (x = 0)) (by simp [b1, b2]))
      (l.length + 1) 0 (false, false) (by omega) (by omega) (fun x hx => .inr hx)
    have e : (fun (c : Int × Int) => [D.int c.1, D.int c.2]) (if l.any (fun x => decide (x < 0)) then (0, 3) else if l.any (fun x => decide (2048 < x)) then (0, 7)
      else if l.any (fun x => decide (x = 0)) then (0, 0) else if prodS l 1 = 0 then (0, 7) else (prodS l 1, 0)) = (if l.any (fun x => decide (x < 0)) then [.int 0, .int 3] else if false || l.any (fun x => decide (2048 < x)) then [.int 0, .int 7] else if false || l.any (fun x => decide (x = 0)) then [.int 0, .int 0] else cpD (prodS l 1)) := by
      simp only [Bool.false_or]
      split
      · rfl
      split
      · rfl
      split
      · rfl
      show _ = cpD _
      unfold cpD
      split <;> rfl
    show Tw _ ((fun (c : Int × Int) => [D.int c.1, D.int c.2]) _)
    rw [e]
    exact key
theorem idxD_any (p : Int → Bool) : ∀ (l : List Int) (k : Nat), decide (0 ≤ idxD p k l) = l.any p
  | [], k => by simp [idxD]
  | x :: xs, k => by
    rw [idxD_cons, List.any_cons]
    by_cases hp : p x = true
    · rw [if_pos hp]; simp [hp]
    · rw [if_neg hp, idxD_any p xs (k + 1)]; simp [hp]
theorem Count1_sp (x : Int) : Sp 97 [.int x] [.bool (decide (x < 0))] := sound_ 0 (shape_Count_1_tree _ _) (wp_ret rfl)
theorem Count2_sp (x : Int) : Sp 98 [.int x] [.bool (decide (2048 < x))] := sound_ 0 (shape_Count_2_tree _ _) (wp_ret rfl)
theorem Contains1_sp (l : List Int) (hb : l.length ≤ 6) : Sp 41 [dI l, D.fn 97 [] []] [.bool (l.any (fun x => decide (x < 0)))] := by
  refine sound_ 0 (slices_ContainsFunc_int_int_tree_shape_Count_1 _ _) (wp_call (ys := [.int (idxD (fun x => decide (x < 0)) 0 l)]) ?_ (wp_ret ?_))
  · refine sound_ (l.length + 1) (slices_IndexFunc_int_int_tree_shape_Count_1 _ _) ?_
    have key := loop_list (P := Tryz.prog) (md := md) l (fun m k (_ : Unit) => slices_IndexFunc_int_int_l2 (l.length + 1) m (dI l) (D.fn 97 [] []) (l.length : Int) (k : Int)) (fun rest _ => [.int (idxD (fun x => decide (x < 0)) (l.length - rest.length) rest)]) (fun _ _ => True)
      (fun m k p hk hI => by
        simp only [slices_IndexFunc_int_int_l2_succ_shape_Count_1]
        refine wp_ndec (by omega) (wp_ret ?_)
        simp [idxD])
      (fun m k p x rest hd hI ih => by
        obtain ⟨h1, h2, h3⟩ := drop_cons hd
        have hle := congrArg List.length hd; rw [List.length_drop, List.length_cons] at hle; have hk : l.length - (x :: rest).length = k := by rw [List.length_cons]; omega
        have hk' : l.length - rest.length = k + 1 := by omega
        simp only [slices_IndexFunc_int_int_l2_succ_shape_Count_1, els_dI, List.length_map, Int.toNat_natCast, getD_map h2, toInt_int, wrap_succ (show k < 9223372036854775807 by omega), fnId_fn, fnCts_fn, fnDs_fn, List.append_nil]
        repeat (refine wp_dec (by omega) ?_)
        refine wp_call (Count1_sp x) ?_
        simp only [getD_c0, toBool_bool, idxD, hk]
        refine wp_decs (fun h => wp_ret ?_) (fun h => ?_)
        · simp [h]
        · have := ih () trivial
          rw [hk'] at this
          simpa [h] using this)
      (l.length + 1) 0 () (by omega) (by omega) trivial
    simpa using key
  · exact congrArg (fun b => [D.bool b]) (idxD_any _ l 0)
theorem Contains2_sp (l : List Int) (hb : l.length ≤ 6) : Sp 41 [dI l, D.fn 98 [] []] [.bool (l.any (fun x => decide (2048 < x)))] := by
  refine sound_ 0 (slices_ContainsFunc_int_int_tree_shape_Count_2 _ _) (wp_call (ys := [.int (idxD (fun x => decide (2048 < x)) 0 l)]) ?_ (wp_ret ?_))
  · refine sound_ (l.length + 1) (slices_IndexFunc_int_int_tree_shape_Count_2 _ _) ?_
    have key := loop_list (P := Tryz.prog) (md := md) l (fun m k (_ : Unit) => slices_IndexFunc_int_int_l2 (l.length + 1) m (dI l) (D.fn 98 [] []) (l.length : Int) (k : Int)) (fun rest _ => [.int (idxD (fun x => decide (2048 < x)) (l.length - rest.length) rest)]) (fun _ _ => True)
      (fun m k p hk hI => by
        simp only [slices_IndexFunc_int_int_l2_succ_shape_Count_2]
        refine wp_ndec (by omega) (wp_ret ?_)
        simp [idxD])
      (fun m k p x rest hd hI ih => by
        obtain ⟨h1, h2, h3⟩ := drop_cons hd
        have hle := congrArg List.length hd; rw [List.length_drop, List.length_cons] at hle; have hk : l.length - (x :: rest).length = k := by rw [List.length_cons]; omega
        have hk' : l.length - rest.length = k + 1 := by omega
        simp only [slices_IndexFunc_int_int_l2_succ_shape_Count_2, els_dI, List.length_map, Int.toNat_natCast, getD_map h2, toInt_int, wrap_succ (show k < 9223372036854775807 by omega), fnId_fn, fnCts_fn, fnDs_fn, List.append_nil]
        repeat (refine wp_dec (by omega) ?_)
        refine wp_call (Count2_sp x) ?_
        simp only [getD_c0, toBool_bool, idxD, hk]
        refine wp_decs (fun h => wp_ret ?_) (fun h => ?_)
        · simp [h]
        · have := ih () trivial
          rw [hk'] at this
          simpa [h] using this)
      (l.length + 1) 0 () (by omega) (by omega) trivial
    simpa using key
  · exact congrArg (fun b => [D.bool b]) (idxD_any _ l 0)
theorem slices_Contains_sp (l : List Int) (v : Int) (hb : l.length ≤ 9223372036854775807) : Sp 99 [dI l, .int v] [.bool (l.any (fun x => decide (x = v)))] := by
  refine sound_ 0 (slices_Contains_int_int_tree _ _ _) (wp_call (ys := [.int (idxD (fun x => decide (x = v)) 0 l)]) ?_ (wp_ret ?_))
  · refine sound_ (l.length + 1) (slices_Index_int_int_tree _ _ _) ?_
    have key := loop_list (P := Tryz.prog) (md := md) l (fun m k (_ : Unit) => slices_Index_int_int_l2 (l.length + 1) m (dI l) v (l.length : Int) (k : Int)) (fun rest _ => [.int (idxD (fun x => decide (x = v)) (l.length - rest.length) rest)]) (fun _ _ => True)
      (fun m k p hk hI => by
        simp only [slices_Index_int_int_l2_succ]
        refine wp_ndec (by omega) (wp_ret ?_)
        simp [idxD])
      (fun m k p x rest hd hI ih => by
        obtain ⟨h1, h2, h3⟩ := drop_cons hd
        have hle := congrArg List.length hd; rw [List.length_drop, List.length_cons] at hle; have hk : l.length - (x :: rest).length = k := by rw [List.length_cons]; omega
        have hk' : l.length - rest.length = k + 1 := by omega
        simp only [slices_Index_int_int_l2_succ, els_dI, List.length_map, Int.toNat_natCast, getD_map h2, toInt_int, wrap_succ (show k < 9223372036854775807 by omega), int_beq]
        repeat (refine wp_dec (by omega) ?_)
        simp only [idxD, hk]
        refine wp_decs (fun h => wp_ret ?_) (fun h => ?_)
        · simp [h]
        · have := ih () trivial
          rw [hk'] at this
          simpa [show ¬ x = v from fun e => h e.symm] using this)
      (l.length + 1) 0 () (by omega) (by omega) trivial
    simpa using key
  · exact congrArg (fun b => [D.bool b]) (idxD_any _ l 0)
theorem shape_product_sp (l : List Int) (hb : l.length ≤ 6) (hx : ∀ x ∈ l, 1 ≤ x ∧ x ≤ 2048) : Sp 100 [dI l] [.int (prodS l 1)] := by
  refine sound_ (l.length + 1) (shape_product_tree _ _) ?_
  have key := loop_list (P := Tryz.prog) (md := md) l (fun m k (p : Int) => shape_product_l3 (l.length + 1) m p (dI l) (l.length : Int) (k : Int)) (fun rest p => [.int (prodS rest p)]) (fun _ p => 1 ≤ p ∧ p ≤ 2048)
    (fun m k p hk hI => by
      simp only [shape_product_l3_succ]
      exact wp_ndec (by omega) (wp_ret rfl))
    (fun m k p x rest hd hI ih => by
      obtain ⟨h1, h2, h3⟩ := drop_cons hd
      have hxx := hx x (List.mem_of_getElem? h2)
      have hp := prod_le hI.1 hI.2 hxx.1 hxx.2
      simp only [shape_product_l3_succ, els_dI, List.length_map, Int.toNat_natCast, getD_map h2, toInt_int, wrap_succ (show k < 9223372036854775807 by omega), wrap64 (x := p * x) (by omega) (by omega)]
      repeat (refine wp_dec (by omega) ?_)
      simp only [prodS]
      refine wp_decs (fun h => wp_ret ?_) (fun h => ?_)
      · rw [if_pos h]
      · rw [if_neg h]; exact ih _ ⟨hp.1, by omega⟩)
    (l.length + 1) 0 1 (by omega) (by omega) (by decide)
  simpa using key
theorem shape_Count_sp (l : List Int) : Sp 58 [dI l] [.int (countS l).1, .int (countS l).2] := by
  refine sound_ 0 (shape_Count_tree _ _) ?_
  simp only [els_dI, List.length_map]
  unfold countS
  refine wp_decs (fun h => wp_ret ?_) (fun h => ?_)
  · rw [if_pos (by omega)]
  · rw [if_neg (by omega)]
    refine wp_call (Contains1_sp l (by omega)) ?_
    simp only [getD_c0, toBool_bool]
    refine wp_br (fun h1 => wp_ret (by rw [if_pos h1])) (fun h1 => ?_)
    rw [if_neg (by simp [h1])]
    refine wp_call (Contains2_sp l (by omega)) ?_
    simp only [getD_c0, toBool_bool]
    refine wp_br (fun h2 => wp_ret (by rw [if_pos h2])) (fun h2 => ?_)
    rw [if_neg (by simp [h2])]
    refine wp_call (slices_Contains_sp l 0 (by omega)) ?_
    simp only [getD_c0, toBool_bool]
    refine wp_br (fun h3 => wp_ret (by rw [if_pos h3])) (fun h3 => ?_)
    rw [if_neg (by simp [h3])]
    refine wp_call (shape_product_sp l (by omega) (count_pos (by simp [h1]) (by simp [h2]) (by simp [h3]))) ?_
    simp only [getD_c0, toInt_int, int_beq]
    refine wp_decs (fun h4 => wp_ret (by rw [if_pos h4])) (fun h4 => wp_ret (by rw [if_neg h4]))
theorem ref07_Ints_sp (a b : List Int) (ha : a.length ≤ 9223372036854775807) : Sp 24 [dI a, dI b] [.bool (decide (a = b))] := by
  refine sound_ (a.length + 1) (ref07_Ints_tree _ _ _) ?_
  simp only [els_dI, List.length_map, int_bne]
  refine wp_decs (fun h => wp_ret ?_) (fun h => ?_)
  · rw [decide_eq_false]; rintro rfl; exact h rfl
  · exact eq_loop D.int dint_inj a b (by omega) ha (fun m i => ref07_Ints_l4 (a.length + 1) m (dI a) (dI b) i) (fun m i => ref07_Ints_l4_succ _ _ _ _ _)
def mayC (c : Int) : Bool := decide (0 ≤ c ∧ c ≤ 1114111 ∧ (c < 55296 ∨ 57343 < c))
theorem may_tree (c : Int) : Tw (.br (decide (0 ≤ c)) (.br (decide (c ≤ 1114111)) (.br (decide (c < 55296)) (.ret [D.bool true]) (.ret [D.bool (decide (57343 < c))])) (.ret [D.bool false])) (.ret [D.bool false])) [.bool (mayC c)] := by
  unfold mayC
  refine wp_decs (fun h1 => wp_decs (fun h2 => wp_decs (fun h3 => wp_ret ?_) (fun h3 => wp_ret ?_)) (fun h2 => wp_ret ?_)) (fun h1 => wp_ret ?_)
  · rw [decide_eq_true (by omega)]
  · congr 2; rw [decide_eq_decide]; omega
  · rw [decide_eq_false (by omega)]
  · rw [decide_eq_false (by omega)]
theorem ref06_May_sp (c : Int) : Sp 93 [.int c] [.bool (mayC c)] := sound_ 0 (ref06_May_tree _ _) (may_tree c)
end Go.Proofs.YtbgcadcpeabpgaaGreat
set_option maxRecDepth 100000
namespace Go.Proofs.YtbgcadcpeabpgaaGreat
open Go.ChangeShapes Go.WideShapes Go.ChangeAt Go.RowKit

section
variable {P : Program} {md : Nat → FMode}
theorem law_calls {F : Nat} {fn : Func} {xs : List D} {vs : List Value} {W : World} {tb : Nat} (hs : Spec P md F [] xs [.bool true]) (hfn : P.funcs[F]? = some fn) (hm : md F = {}) (hrt : fn.resultTypes = #[tb]) (htb : P.underlying tb = some .bool)
    (hlx : xs.length = fn.params.size) (hlv : vs.length = fn.params.size) (hrd : ∀ (i t : Nat) (x : D) (v : Value), fn.params.toList[i]? = some t → xs[i]? = some x → vs[i]? = some v → Rd P md W (fun _ => False) (.ty t) x v) :
    Calls P F vs.toArray W (fun e w' => e = .returned (.bool true) ∧ Ext W w') := by
  obtain ⟨fn', h1, _, _, h⟩ := hs
  rw [hfn] at h1
  injection h1 with h1
  subst h1
  refine (h W (fun _ => False) vs 0 1 (fun k hk => by rw [hm] at hk; cases hk) ⟨by simp [hlx], by simp [hlv], fun b hb => hb.elim, ?_, fun p hp => by rw [hm] at hp; cases hp⟩).mono ?_
  · intro i ct x v hc hx hv _
    simp only [List.append_nil, List.getElem?_map, Option.map_eq_some_iff] at hc
    obtain ⟨t, ht, rfl⟩ := hc
    have := hrd i t x v ht hx hv
    exact ⟨this.rd.mono (Nat.le_refl _) (fun _ _ _ => rfl) (fun b hb _ => by
      rcases hb with hb | ⟨p, u, hp, _⟩
      · exact hb
      · rw [hm] at hp; cases hp), this.size, this.agg⟩
  · rintro e w' ⟨us, β', hp⟩
    have hl := hp.len
    rw [hrt] at hl
    have : ∃ u, us = [u] := by
      match us, hl with
      | [u], _ => exact ⟨u, rfl⟩
    obtain ⟨u, rfl⟩ := this
    have hv := hp.vl [.b true] (by rw [hrt, hm]; simp [resL, setOwn, ofD, htb, D.toBool, List.getD]) 0 (.b true) u rfl rfl
    have hu := vl_b hv
    subst hu
    refine ⟨hp.ending, ?_⟩
    have := hp.stp
    refine Stp.ext (this.weak fun b ⟨p, v, h1, _⟩ => ?_)
    rw [hm] at h1; cases h1

theorem rd_int {t : Nat} {k : IntKind} {w : World} {M : Nat → Prop} {y : D} {c : Nat → Option Value} (h : RdC P md w M (.ty t) y c) (ht : P.underlying t = some (.int k)) : ∃ n, y = .int n ∧ k.min ≤ n ∧ n ≤ k.max := by
  cases h <;> simp_all [CT.desc]
  all_goals (rename_i hf _; obtain ⟨⟨a, ha, _⟩, _⟩ := fieldsOf_under hf; rw [ht] at ha; cases ha)
theorem rd_bool {t : Nat} {w : World} {M : Nat → Prop} {y : D} {c : Nat → Option Value} (h : RdC P md w M (.ty t) y c) (ht : P.underlying t = some .bool) : ∃ b, y = .bool b := by
  cases h <;> simp_all [CT.desc]
  all_goals (rename_i hf _; obtain ⟨⟨a, ha, _⟩, _⟩ := fieldsOf_under hf; rw [ht] at ha; cases ha)
theorem rd_str {t : Nat} {w : World} {M : Nat → Prop} {y : D} {c : Nat → Option Value} (h : RdC P md w M (.ty t) y c) (ht : P.underlying t = some .string) : ∃ s, y = .str s ∧ s.size ≤ maxLen := by
  cases h <;> simp_all [CT.desc]
  all_goals (rename_i hf _; obtain ⟨⟨a, ha, _⟩, _⟩ := fieldsOf_under hf; rw [ht] at ha; cases ha)
theorem rd_slc {t e : Nat} {w : World} {M : Nat → Prop} {y : D} {c : Nat → Option Value} (h : RdC P md w M (.ty t) y c) (ht : P.underlying t = some (.slice e)) : ∃ es, y = .sl es ∧ es.length ≤ maxLen ∧ ∀ x ∈ es, ∃ c', RdC P md w M (.ty e) x c' := by
  cases h with
  | sl ht' hc h1 h2 hA hh =>
    have : P.underlying t = some (.slice _) := ht'
    rw [ht] at this
    injection this with this
    injection this with this
    subst this
    refine ⟨_, rfl, Nat.le_trans h1 h2, fun x hx => ?_⟩
    obtain ⟨i, hi, rfl⟩ := List.getElem_of_mem hx
    exact ⟨_, hh i _ (List.getElem?_eq_getElem hi)⟩
  | struct hf _ _ => obtain ⟨⟨a, ha, _⟩, _⟩ := fieldsOf_under hf; rw [ht] at ha; cases ha
  | int ht' => have : P.underlying t = _ := ht'; rw [ht] at this; cases this
  | bool ht' => have : P.underlying t = _ := ht'; rw [ht] at this; cases this
  | str ht' => have : P.underlying t = _ := ht'; rw [ht] at this; cases this
  | fn ht' => have : P.underlying t = _ := ht'; rw [ht] at this; cases this
  | mp ht' => have : P.underlying t = _ := ht'; rw [ht] at this; cases this
  | ref ht' => have : P.underlying t = _ := ht'; rw [ht] at this; cases this
theorem rd_struct {t : Nat} {fs : List Field} {w : World} {M : Nat → Prop} {y : D} {c : Nat → Option Value} (h : RdC P md w M (.ty t) y c) (ht : fieldsOf P t = some fs) : ∃ ds, y = .agg ds ∧ ds.length = fs.length ∧ ∀ (i : Nat) (f : Field) (d : D), fs[i]? = some f → ds[i]? = some d → ∃ c', RdC P md w M (.ty f.type) d c' := by
  obtain ⟨⟨a, ha, _⟩, _⟩ := fieldsOf_under ht
  cases h with
  | struct hf hl hh =>
    rw [ht] at hf
    injection hf with hf
    subst hf
    exact ⟨_, rfl, hl, fun i f d h1 h2 => ⟨_, hh i f d h1 h2⟩⟩
  | sl ht' => have : P.underlying t = _ := ht'; rw [ha] at this; cases this
  | int ht' => have : P.underlying t = _ := ht'; rw [ha] at this; cases this
  | bool ht' => have : P.underlying t = _ := ht'; rw [ha] at this; cases this
  | str ht' => have : P.underlying t = _ := ht'; rw [ha] at this; cases this
  | fn ht' => have : P.underlying t = _ := ht'; rw [ha] at this; cases this
  | mp ht' => have : P.underlying t = _ := ht'; rw [ha] at this; cases this
  | ref ht' => have : P.underlying t = _ := ht'; rw [ha] at this; cases this
theorem rd_ints {t e : Nat} {w : World} {M : Nat → Prop} {y : D} {c : Nat → Option Value} (h : RdC P md w M (.ty t) y c) (ht : P.underlying t = some (.slice e)) (he : P.underlying e = some (.int .i64)) : ∃ l, y = dI l ∧ l.length ≤ maxLen ∧ ∀ x ∈ l, -9223372036854775808 ≤ x ∧ x ≤ 9223372036854775807 := by
  obtain ⟨es, rfl, hl, hh⟩ := rd_slc h ht
  have : ∃ l : List Int, es = l.map .int ∧ ∀ x ∈ l, -9223372036854775808 ≤ x ∧ x ≤ 9223372036854775807 := by
    clear hl h
    induction es with
    | nil => exact ⟨[], rfl, fun _ h => by cases h⟩
    | cons x es ih =>
      obtain ⟨l, rfl, hl⟩ := ih (fun y hy => hh y (by simp [hy]))
      obtain ⟨c', hc⟩ := hh x (by simp)
      obtain ⟨n, rfl, h1, h2⟩ := rd_int hc he
      exact ⟨n :: l, rfl, fun y hy => by rcases List.mem_cons.1 hy with rfl | hy; exact ⟨h1, h2⟩; exact hl y hy⟩
  obtain ⟨l, rfl, h2⟩ := this
  exact ⟨l, rfl, by simpa using hl, h2⟩
theorem rd_limbs {t e : Nat} {w : World} {M : Nat → Prop} {y : D} {c : Nat → Option Value} (h : RdC P md w M (.ty t) y c) (ht : P.underlying t = some (.slice e)) (he : P.underlying e = some (.int .u32)) : ∃ l : List Limb, y = dL l ∧ l.length ≤ maxLen := by
  obtain ⟨es, rfl, hl, hh⟩ := rd_slc h ht
  have : ∃ l : List Limb, es = l.map dB := by
    clear hl h
    induction es with
    | nil => exact ⟨[], rfl⟩
    | cons x es ih =>
      obtain ⟨l, rfl⟩ := ih (fun y hy => hh y (by simp [hy]))
      obtain ⟨c', hc⟩ := hh x (by simp)
      obtain ⟨n, rfl, h1, h2⟩ := rd_int hc he
      have h1 : 0 ≤ n := h1
      have h2 : n ≤ 4294967295 := h2
      refine ⟨BitVec.ofNat 32 n.toNat :: l, ?_⟩
      simp only [List.map_cons, dB, BitVec.toNat_ofNat]
      rw [Nat.mod_eq_of_lt (by omega), Int.toNat_of_nonneg h1]
  obtain ⟨l, rfl⟩ := this
  exact ⟨l, rfl, by simpa using hl⟩
theorem rd_lab {t : Nat} {w : World} {M : Nat → Prop} {y : D} {c : Nat → Option Value} (h : RdC P md w M (.ty t) y c) (ht : P.underlying t = some (.int .u64)) : ∃ l : Lab, y = dB l := by
  obtain ⟨n, rfl, h1, h2⟩ := rd_int h ht
  have h1 : 0 ≤ n := h1
  have h2 : n ≤ 18446744073709551615 := h2
  refine ⟨BitVec.ofNat 64 n.toNat, ?_⟩
  simp only [dB, BitVec.toNat_ofNat]
  rw [Nat.mod_eq_of_lt (by omega), Int.toNat_of_nonneg h1]
end
end Go.Proofs.YtbgcadcpeabpgaaGreat
set_option maxRecDepth 100000
namespace Go.Proofs.YtbgcadcpeabpgaaGreat
open Go.ChangeShapes Go.WideShapes Go.ChangeAt Go.RowKit

theorem len3 {α : Type} {l : List α} (h : l.length = 3) : ∃ a b c, l = [a, b, c] := by
  match l, h with
  | [a, b, c], _ => exact ⟨a, b, c, rfl⟩
theorem len5 {α : Type} {l : List α} (h : l.length = 5) : ∃ a b c d e, l = [a, b, c, d, e] := by
  match l, h with
  | [a, b, c, d, e], _ => exact ⟨a, b, c, d, e, rfl⟩
/-- No list of an array is longer than it can be; lengths of axes are ints. -/
inductive Fits : Arr → Prop where
  | mk {s : Lab} {sh : List Int} {cs : List Cell} (h1 : sh.length ≤ maxLen) (h2 : cs.length ≤ maxLen) (h3 : ∀ c ∈ cs, c.n.top.length ≤ maxLen ∧ c.n.bot.length ≤ maxLen ∧ c.inn.length ≤ maxLen) (h5 : ∀ x ∈ sh, -9223372036854775808 ≤ x ∧ x ≤ 9223372036854775807)
      (h4 : ∀ c ∈ cs, ∀ x ∈ c.inn, Fits x) : Fits (.mk s sh cs)
theorem fields_Num : (fieldsOf Tryz.prog 65).map (fun fs => fs.map (·.type)) = some [4, 63, 63] := by kernel_rfl
theorem fields_Cell : (fieldsOf Tryz.prog 68).map (fun fs => fs.map (·.type)) = some [22, 3, 65, 3, 66] := by kernel_rfl
theorem fields_Array : (fieldsOf Tryz.prog 26).map (fun fs => fs.map (·.type)) = some [22, 23, 24] := by kernel_rfl
theorem types_at {fs : List Field} {ts : List Nat} (h : fs.map (·.type) = ts) {i t : Nat} (ht : ts[i]? = some t) : ∃ f, fs[i]? = some f ∧ f.type = t := by
  subst h
  simpa [List.getElem?_map, Option.map_eq_some_iff] using ht
theorem rd_num {w : World} {M : Nat → Prop} {y : D} {c : Nat → Option Value} (h : RdC Tryz.prog md w M (.ty 65) y c) : ∃ n, y = dN n ∧ n.top.length ≤ maxLen ∧ n.bot.length ≤ maxLen := by
  obtain ⟨fs, hf, ht⟩ := Option.map_eq_some_iff.1 fields_Num
  obtain ⟨ds, rfl, hl, hh⟩ := rd_struct h hf
  have : fs.length = 3 := by rw [← List.length_map (f := (·.type)), ht]; rfl
  obtain ⟨a, b, c, rfl⟩ := len3 (by rw [hl, this])
  obtain ⟨f0, hf0, e0⟩ := types_at ht (i := 0) rfl
  obtain ⟨f1, hf1, e1⟩ := types_at ht (i := 1) rfl
  obtain ⟨f2, hf2, e2⟩ := types_at ht (i := 2) rfl
  obtain ⟨_, h0⟩ := hh 0 f0 a hf0 rfl
  obtain ⟨_, h1⟩ := hh 1 f1 b hf1 rfl
  obtain ⟨_, h2⟩ := hh 2 f2 c hf2 rfl
  rw [e0] at h0; rw [e1] at h1; rw [e2] at h2
  obtain ⟨n, rfl⟩ := rd_bool h0 (by kernel_rfl)
  obtain ⟨t, rfl, l1⟩ := rd_limbs h1 (e := 139) (by kernel_rfl) (by kernel_rfl)
  obtain ⟨t', rfl, l2⟩ := rd_limbs h2 (e := 139) (by kernel_rfl) (by kernel_rfl)
  exact ⟨⟨n, t, t'⟩, rfl, l1, l2⟩
mutual
def D.sz : D → Nat
  | .agg fs => 1 + D.szL fs | .sl es => 1 + D.szL es | _ => 0
def D.szL : List D → Nat
  | [] => 0 | x :: xs => 1 + x.sz + D.szL xs
end
theorem szL_mem : ∀ {l : List D} {x : D}, x ∈ l → x.sz < D.szL l
  | y :: ys, x, h => by
    rcases List.mem_cons.1 h with rfl | h
    · simp only [D.szL]; omega
    · have := szL_mem h; simp only [D.szL]; omega
theorem rd_arr : ∀ (k : Nat) {w : World} {M : Nat → Prop} {y : D} {c : Nat → Option Value}, y.sz < k → RdC Tryz.prog md w M (.ty 26) y c → ∃ a, y = dA a ∧ Fits a
  | 0, _, _, _, _, hk, _ => by omega
  | k + 1, w, M, y, c, hk, h => by
    obtain ⟨fs, hf, ht⟩ := Option.map_eq_some_iff.1 fields_Array
    obtain ⟨ds, rfl, hl, hh⟩ := rd_struct h hf
    have : fs.length = 3 := by rw [← List.length_map (f := (·.type)), ht]; rfl
    obtain ⟨a, b, c, rfl⟩ := len3 (by rw [hl, this])
    obtain ⟨f0, hf0, e0⟩ := types_at ht (i := 0) rfl
    obtain ⟨f1, hf1, e1⟩ := types_at ht (i := 1) rfl
    obtain ⟨f2, hf2, e2⟩ := types_at ht (i := 2) rfl
    obtain ⟨_, h0⟩ := hh 0 f0 a hf0 rfl
    obtain ⟨_, h1⟩ := hh 1 f1 b hf1 rfl
    obtain ⟨_, h2⟩ := hh 2 f2 c hf2 rfl
    rw [e0] at h0; rw [e1] at h1; rw [e2] at h2
    obtain ⟨s, rfl⟩ := rd_lab h0 (by kernel_rfl)
    obtain ⟨sh, rfl, l1, l1'⟩ := rd_ints h1 (e := 3) (by kernel_rfl) (by kernel_rfl)
    obtain ⟨es, rfl, l2, hes⟩ := rd_slc h2 (e := 68) (by kernel_rfl)
    have hsz : D.szL es < k := by simp only [D.sz, D.szL] at hk; omega
    have key : ∃ cs : List Cell, es = cs.map dC ∧ (∀ c ∈ cs, c.n.top.length ≤ maxLen ∧ c.n.bot.length ≤ maxLen ∧ c.inn.length ≤ maxLen) ∧ ∀ c ∈ cs, ∀ x ∈ c.inn, Fits x := by
      clear l2 h2 h hh h0 h1 hf0 hf1 hf2 e0 e1 e2 hl hk
      induction es with
      | nil => exact ⟨[], rfl, (fun _ h => by cases h), (fun _ h => by cases h)⟩
      | cons x es ih =>
        simp only [D.szL] at hsz
        obtain ⟨cs, rfl, g1, g2⟩ := ih (fun y hy => hes y (by simp [hy])) (by omega)
        obtain ⟨_, hx⟩ := hes x (by simp)
        obtain ⟨fs, hf, ht⟩ := Option.map_eq_some_iff.1 fields_Cell
        obtain ⟨ds, rfl, hl, hh⟩ := rd_struct hx hf
        have : fs.length = 5 := by rw [← List.length_map (f := (·.type)), ht]; rfl
        obtain ⟨a, b, c, d, e, rfl⟩ := len5 (by rw [hl, this])
        obtain ⟨f0, hf0, e0⟩ := types_at ht (i := 0) rfl
        obtain ⟨f1, hf1, e1⟩ := types_at ht (i := 1) rfl
        obtain ⟨f2, hf2, e2⟩ := types_at ht (i := 2) rfl
        obtain ⟨f3, hf3, e3⟩ := types_at ht (i := 3) rfl
        obtain ⟨f4, hf4, e4⟩ := types_at ht (i := 4) rfl
        obtain ⟨_, h0⟩ := hh 0 f0 a hf0 rfl
        obtain ⟨_, h1⟩ := hh 1 f1 b hf1 rfl
        obtain ⟨_, h2⟩ := hh 2 f2 c hf2 rfl
        obtain ⟨_, h3⟩ := hh 3 f3 d hf3 rfl
        obtain ⟨_, h4⟩ := hh 4 f4 e hf4 rfl
        rw [e0] at h0; rw [e1] at h1; rw [e2] at h2; rw [e3] at h3; rw [e4] at h4
        obtain ⟨l, rfl⟩ := rd_lab h0 (by kernel_rfl)
        obtain ⟨kd, rfl, _⟩ := rd_int h1 (k := .i64) (by kernel_rfl)
        obtain ⟨n, rfl, n1, n2⟩ := rd_num h2
        obtain ⟨ch, rfl, _⟩ := rd_int h3 (k := .i64) (by kernel_rfl)
        obtain ⟨as_, rfl, l4, has⟩ := rd_slc h4 (e := 26) (by kernel_rfl)
        have hsz4 : D.szL as_ < k := by simp only [D.sz, D.szL] at hsz; omega
        have key2 : ∃ bs : List Arr, as_ = bs.map dA ∧ ∀ x ∈ bs, Fits x := by
          clear h4 hh hx hes ih l4 hsz hl
          induction as_ with
          | nil => exact ⟨[], rfl, fun _ h => by cases h⟩
          | cons z zs ihz =>
            simp only [D.szL] at hsz4
            obtain ⟨bs, rfl, hb⟩ := ihz (fun y hy => has y (by simp [hy])) (by omega)
            obtain ⟨_, hz⟩ := has z (by simp)
            obtain ⟨a, rfl, ha⟩ := rd_arr k (by omega) hz
            exact ⟨a :: bs, rfl, fun y hy => by rcases List.mem_cons.1 hy with rfl | hy; exact ha; exact hb y hy⟩
        obtain ⟨bs, rfl, hb⟩ := key2
        refine ⟨⟨l, kd, n, ch, bs⟩ :: cs, by simp [dC_eq], fun c hc => ?_, fun c hc => ?_⟩
        · rcases List.mem_cons.1 hc with rfl | hc
          · exact ⟨n1, n2, by simpa using l4⟩
          · exact g1 c hc
        · rcases List.mem_cons.1 hc with rfl | hc
          · exact hb
          · exact g2 c hc
    obtain ⟨cs, rfl, g1, g2⟩ := key
    exact ⟨.mk s sh cs, (dA_mk s sh cs), .mk l1 (by simpa using l2) g1 l1' g2⟩
/-- An argument that is an array. -/
def lawTs : List Nat := [4, 3, 22, 139, 63, 23, 65, 68, 26, 66, 24]
theorem lawTs_plain : plainTs Tryz.prog lawTs = true := by kernel_rfl
section
variable {H : Type} {enc : TypeId × Value → H} {W : World} {sp : Nat → Bool} {held : Bool} {r : Reach} {b0 : Nat} {v : Value} {d : DataW H} {ps : List MemPlace}
theorem arg_arr (hval : Value.okWide Tryz.prog W r b0 26 v) (h : DataW.Trod enc Tryz.prog W 0 sp held 26 v d ps) : ∃ a, Fits a ∧ Rd Tryz.prog md W (fun _ => False) (.ty 26) (dA a) v := by
  obtain ⟨y, hy, hyw⟩ := arg_rd (md := md) wfP lawTs_plain (by decide) hval h
  obtain ⟨a, rfl, ha⟩ := rd_arr _ (Nat.lt_succ_self _) hy.rd
  exact ⟨a, ha, hy⟩
theorem arg_bool (hval : Value.okWide Tryz.prog W r b0 4 v) (h : DataW.Trod enc Tryz.prog W 0 sp held 4 v d ps) : ∃ a, Rd Tryz.prog md W (fun _ => False) (.ty 4) (.bool a) v := by
  obtain ⟨y, hy, hyw⟩ := arg_rd (md := md) wfP lawTs_plain (by decide) hval h
  obtain ⟨a, rfl⟩ := rd_bool hy.rd (by kernel_rfl)
  exact ⟨a, hy⟩
theorem arg_lab (hval : Value.okWide Tryz.prog W r b0 22 v) (h : DataW.Trod enc Tryz.prog W 0 sp held 22 v d ps) : ∃ a : Lab, Rd Tryz.prog md W (fun _ => False) (.ty 22) (dB a) v := by
  obtain ⟨y, hy, hyw⟩ := arg_rd (md := md) wfP lawTs_plain (by decide) hval h
  obtain ⟨a, rfl⟩ := rd_lab hy.rd (by kernel_rfl)
  exact ⟨a, hy⟩
theorem arg_int (hval : Value.okWide Tryz.prog W r b0 3 v) (h : DataW.Trod enc Tryz.prog W 0 sp held 3 v d ps) : ∃ a : Int, (-9223372036854775808 ≤ a ∧ a ≤ 9223372036854775807) ∧ Rd Tryz.prog md W (fun _ => False) (.ty 3) (.int a) v := by
  obtain ⟨y, hy, hyw⟩ := arg_rd (md := md) wfP lawTs_plain (by decide) hval h
  obtain ⟨a, rfl, h1, h2⟩ := rd_int hy.rd (k := .i64) (by kernel_rfl)
  exact ⟨a, ⟨h1, h2⟩, hy⟩
theorem arg_num (hval : Value.okWide Tryz.prog W r b0 65 v) (h : DataW.Trod enc Tryz.prog W 0 sp held 65 v d ps) : ∃ n : Num, (n.top.length ≤ maxLen ∧ n.bot.length ≤ maxLen) ∧ Rd Tryz.prog md W (fun _ => False) (.ty 65) (dN n) v := by
  obtain ⟨y, hy, hyw⟩ := arg_rd (md := md) wfP lawTs_plain (by decide) hval h
  obtain ⟨n, rfl, h1, h2⟩ := rd_num hy.rd
  exact ⟨n, ⟨h1, h2⟩, hy⟩
/-- An array that memory has room for. -/
def WFits (a : Arr) : Prop := Fits a ∧ (dA a).wok
theorem arg_arrw (hval : Value.okWide Tryz.prog W r b0 26 v) (h : DataW.Trod enc Tryz.prog W 0 sp held 26 v d ps) (hw : ∀ z ∈ d.weights Tryz.prog 26, z ≤ reachBytes) : ∃ a, WFits a ∧ Rd Tryz.prog md W (fun _ => False) (.ty 26) (dA a) v := by
  obtain ⟨y, hy, hyw⟩ := arg_rd (md := md) wfP lawTs_plain (by decide) hval h
  obtain ⟨a, rfl, ha⟩ := rd_arr _ (Nat.lt_succ_self _) hy.rd
  exact ⟨a, ⟨ha, hyw hw⟩, hy⟩
end
end Go.Proofs.YtbgcadcpeabpgaaGreat
set_option maxRecDepth 100000
namespace Go.Proofs.YtbgcadcpeabpgaaGreat

theorem Fits.len {a : Arr} (h : Fits a) : a.cells.length ≤ 9223372036854775807 := by cases h; assumption
theorem Fits.sh {a : Arr} (h : Fits a) : a.shape.length ≤ 9223372036854775807 := by cases h; assumption
theorem Fits.shR {a : Arr} (h : Fits a) : ∀ x ∈ a.shape, inR x := by cases h; assumption
/-- What a cell's lists may be. -/
def FitsC (c : Cell) : Prop := c.n.top.length ≤ 9223372036854775807 ∧ c.n.bot.length ≤ 9223372036854775807 ∧ c.inn.length ≤ 9223372036854775807 ∧ ∀ x ∈ c.inn, Fits x
theorem Fits.cell {a : Arr} (h : Fits a) : ∀ c ∈ a.cells, FitsC c := by
  cases h with
  | mk h1 h2 h3 h5 h4 => exact fun c hc => ⟨(h3 c hc).1, (h3 c hc).2.1, (h3 c hc).2.2, h4 c hc⟩
theorem Fits.of {s : Lab} {sh : List Int} {cs : List Cell} (h1 : sh.length ≤ 9223372036854775807) (h2 : cs.length ≤ 9223372036854775807) (h3 : ∀ x ∈ sh, inR x) (h4 : ∀ c ∈ cs, FitsC c) : Fits (.mk s sh cs) :=
  .mk h1 h2 (fun c hc => ⟨(h4 c hc).1, (h4 c hc).2.1, (h4 c hc).2.2.1⟩) h3 (fun c hc => (h4 c hc).2.2.2)

mutual
def totA : Arr → Lab
  | .mk s _ cs => totCs s cs
def totCs : Lab → List (CellF Arr) → Lab
  | l, [] => l
  | l, c :: cs => totCs (totC l c) cs
def totC : Lab → CellF Arr → Lab
  | l, ⟨cl, _, _, _, inn⟩ => totAs (l ||| cl) inn
def totAs : Lab → List Arr → Lab
  | l, [] => l
  | l, a :: as_ => totAs (l ||| totA a) as_
end
theorem totAs_fold : ∀ (as_ : List Arr) (l : Lab), totAs l as_ = as_.foldl (fun l x => l ||| totA x) l
  | [], l => by simp [totAs]
  | a :: as_, l => by simp [totAs, totAs_fold as_]
theorem totC_eq (l : Lab) (c : Cell) : totC l c = c.inn.foldl (fun l x => l ||| totA x) (l ||| c.l) := by cases c; rw [totC, totAs_fold]
theorem totCs_fold : ∀ (cs : List Cell) (l : Lab), totCs l cs = cs.foldl totC l
  | [], l => by simp [totCs]
  | c :: cs, l => by simp [totCs, totCs_fold cs]
theorem totA_eq (a : Arr) : totA a = a.cells.foldl totC a.s := by cases a; rw [totA, totCs_fold]; rfl

/-- One cell without axes that is no box. -/
def simpleA (a : Arr) : Bool := match a.shape, a.cells with
  | [], [c] => decide (¬ c.kind = 2)
  | _, _ => false
def boxOK (c : Cell) (r : Arr → Bool) : Bool := match c.inn with
  | [x] => !simpleA x && r x
  | _ => false
def cellR (k : Bool) (r : Arr → Bool) (c : Cell) : Bool :=
  if c.kind = 0 then decide (c.c = 0 ∧ c.inn.length = 0) && rightN c.n
  else if c.kind = 1 then decide (c.n = .zero ∧ c.inn.length = 0) && mayC c.c
  else decide (c.kind = 2 ∧ c.n = .zero ∧ c.c = 0) && (k && boxOK c r)
def rightA : Nat → Arr → Bool
  | 0, a => decide (countS a.shape = ((a.cells.length : Int), 0)) && a.cells.all (cellR false (fun _ => false))
  | d + 1, a => decide (countS a.shape = ((a.cells.length : Int), 0)) && a.cells.all (cellR true (rightA d))
def rightC : Nat → Cell → Bool
  | 0 => cellR false (fun _ => false)
  | d + 1 => cellR true (rightA d)
theorem rightA_eq (d : Nat) (a : Arr) : rightA d a = (decide (countS a.shape = ((a.cells.length : Int), 0)) && a.cells.all (rightC d)) := by cases d <;> rfl

theorem simple_tree {Q : List D → Prop} (a : Arr) (hq : Q [.bool (simpleA a)]) : (Tree.br (decide ((a.shape.length : Int) = 0)) (.br (decide ((a.cells.length : Int) = 1)) (.br (decide (0 ≤ (0 : Int))) (.br (decide (0 < (a.cells.length : Int))) (.ret [D.bool (decide (¬ (((((a.cells.map dC).getD (Int.toNat 0) D.nil).fld 1).toInt) = 2)))]) .fail) .fail) (.ret [D.bool false])) (.ret [D.bool false])).wp Tryz.prog md Q := by
  unfold simpleA at hq
  refine wp_decs (fun h1 => wp_decs (fun h2 => ?_) (fun h2 => wp_ret ?_)) (fun h1 => wp_ret ?_)
  · match hs : a.shape, hc : a.cells with
    | [], [c] =>
      rw [hs, hc] at hq
      exact wp_dec (by omega) (wp_dec (by simp) (wp_ret (by simpa [Int.toNat] using hq)))
    | x :: xs, _ => rw [hs] at h1; simp at h1; omega
    | _, [] => rw [hc] at h2; simp at h2
    | _, x :: y :: xs => rw [hc] at h2; simp at h2; omega
  · match hs : a.shape, hc : a.cells with
    | [], [c] => rw [hc] at h2; simp at h2
    | x :: xs, _ => rw [hs] at hq; exact hq
    | [], [] => rw [hs, hc] at hq; exact hq
    | [], x :: y :: xs => rw [hs, hc] at hq; exact hq
  · match hs : a.shape, hc : a.cells with
    | [], _ => rw [hs] at h1; simp at h1
    | x :: xs, _ => rw [hs] at hq; exact hq
theorem ref08_Simple_sp (a : Arr) : Sp 94 [dA a] [.bool (simpleA a)] := by
  refine sound_ 0 (ref08_Simple_tree _ _) ?_
  simp only [dA_0, dA_1, dA_2, dC_0, dC_1, dC_2, dC_3, dC_4, dN_0, dN_1, dN_2, els_sl, els_dI, els_dL, List.length_map, Int.toNat_natCast, toInt_int, toInt_dB, toBool_bool, getD_c0, getD_c1, int_beq, int_bne, not_dec, dInt_dB, Int.toNat_zero]
  exact simple_tree a rfl
theorem ref08_zero_sp (n : Num) : Sp 92 [dN n] [.bool (decide (n = .zero))] := by
  refine sound_ 0 (ref08_zero_tree _ _) ?_
  simp only [dN_0, dN_1, dN_2, els_dL, List.length_map, toBool_bool, int_beq]
  have e : (n = Num.zero) ↔ (n.neg = false ∧ n.top.length = 0 ∧ n.bot.length = 0) := by
    rw [num_eq, List.length_eq_zero_iff, List.length_eq_zero_iff]; rfl
  refine wp_br (fun h1 => wp_decs (fun h2 => wp_ret ?_) (fun h2 => wp_ret ?_)) (fun h1 => wp_ret ?_)
  · congr 2; rw [decide_eq_decide, e]; exact ⟨fun h => ⟨by simpa using h1, by omega, by omega⟩, fun h => by omega⟩
  · rw [decide_eq_false]; rw [e]; omega
  · rw [decide_eq_false]; rw [e]; simp at h1; simp [h1]
theorem ref08_Cell_step (d : Nat) (c : Cell) (hc : FitsC c) (hd : d ≤ 100) (ih : ∀ e, e + 1 = d → ∀ a, Fits a → Sp 15 [dA a, .int (e : Int)] [.bool (rightA e a)]) : Sp 50 [dC c, .int (d : Int)] [.bool (rightC d c)] := by
  suffices key : ∀ (k : Bool) (r : Arr → Bool), (k = true ↔ 0 < d) → (∀ a, k = true → Fits a → Sp 15 [dA a, .int ((d : Int) - 1)] [.bool (r a)]) → Sp 50 [dC c, .int (d : Int)] [.bool (cellR k r c)] by
    cases d with
    | zero => exact key false (fun _ => false) (by simp) (by simp)
    | succ e => exact key true (rightA e) (by simp) (fun a _ ha => by have := ih e rfl a ha; simpa using this)
  intro k r hk hr
  refine sound_ 0 (ref08_Cell_tree _ _ _) ?_
  simp only [dA_0, dA_1, dA_2, dC_0, dC_1, dC_2, dC_3, dC_4, dN_0, dN_1, dN_2, els_sl, els_dI, els_dL, List.length_map, Int.toNat_natCast, toInt_int, toInt_dB, toBool_bool, getD_c0, getD_c1, int_beq, int_bne, not_dec, dInt_dB, Int.toNat_zero]
  unfold cellR
  refine wp_decs (fun h0 => ?_) (fun h0 => ?_)
  · rw [if_pos h0]
    refine wp_decs (fun h1 => wp_decs (fun h2 => wp_call (ref04_Right_sp c.n) (wp_ret ?_)) (fun h2 => wp_ret ?_)) (fun h1 => wp_ret ?_)
    · rw [decide_eq_true ⟨h1, by omega⟩]; rfl
    · rw [decide_eq_false (by omega)]; rfl
    · rw [decide_eq_false (by omega)]; rfl
  rw [if_neg h0]
  refine wp_decs (fun h0 => wp_call (ref08_zero_sp c.n) ?_) (fun h0 => ?_)
  · rw [if_pos h0]
    simp only [getD_c0, toBool_bool]
    refine wp_decs (fun h1 => wp_decs (fun h2 => wp_call (ref06_May_sp c.c) (wp_ret ?_)) (fun h2 => wp_ret ?_)) (fun h1 => wp_ret ?_)
    · rw [decide_eq_true ⟨h1, by omega⟩]; rfl
    · rw [decide_eq_false (fun hh => h2 (by omega))]; rfl
    · rw [decide_eq_false (fun hh => h1 hh.1)]; rfl
  rw [if_neg h0]
  refine wp_decs (fun h0 => wp_call (ref08_zero_sp c.n) ?_) (fun h0 => wp_ret (by rw [decide_eq_false (fun hh => h0 hh.1)]; rfl))
  simp only [getD_c0, toBool_bool]
  refine wp_decs (fun h1 => wp_decs (fun h2 => wp_decs (fun h3 => wp_decs (fun h4 => ?_) (fun h4 => wp_ret ?_)) (fun h3 => wp_ret ?_)) (fun h2 => wp_ret ?_)) (fun h1 => wp_ret ?_)
  · have hkt := hk.2 (by omega)
    rw [show decide (c.kind = 2 ∧ c.n = .zero ∧ c.c = 0) = true from decide_eq_true ⟨h0, h1, h2⟩, hkt, Bool.true_and, Bool.true_and]
    unfold boxOK
    match hi : c.inn with
    | [] => rw [hi] at h3; simp at h3
    | x :: y :: xs => rw [hi] at h3; simp at h3; omega
    | [x] =>
      simp only [List.map_cons, List.map_nil, Int.toNat_zero, getD_c0, List.length_cons, List.length_nil]
      refine wp_dec (by omega) (wp_dec (by omega) (wp_call (ref08_Simple_sp x) ?_))
      simp only [getD_c0, toBool_bool]
      refine wp_br (fun h5 => wp_dec (by omega) (wp_dec (by omega) ?_)) (fun h5 => wp_ret (by rw [h5]; rfl))
      rw [wrap64 (by omega) (by omega)]
      refine wp_call (hr x hkt (hc.2.2.2 x (by rw [hi]; simp))) (wp_ret ?_)
      rw [h5]; rfl
  · have : k = false := by cases k with
      | false => rfl
      | true => exact absurd (hk.1 rfl) (by omega)
    rw [this, Bool.false_and, Bool.and_false]
  · have : boxOK c r = false := by
      unfold boxOK
      match hi : c.inn with
      | [] => rfl
      | x :: y :: xs => rfl
      | [x] => rw [hi] at h3; simp at h3
    rw [this, Bool.and_false, Bool.and_false]
  · rw [decide_eq_false (fun hh => h2 hh.2.2)]; rfl
  · rw [decide_eq_false (fun hh => h1 hh.2.1)]; rfl
theorem ref08_Right_step (d : Nat) (a : Arr) (ha : Fits a) (ih : ∀ c, FitsC c → Sp 50 [dC c, .int (d : Int)] [.bool (rightC d c)]) : Sp 15 [dA a, .int (d : Int)] [.bool (rightA d a)] := by
  have hl := ha.len
  refine sound_ (a.cells.length + 1) (ref08_Right_tree _ _ _) ?_
  simp only [dA_0, dA_1, dA_2, dC_0, dC_1, dC_2, dC_3, dC_4, dN_0, dN_1, dN_2, els_sl, els_dI, els_dL, List.length_map, Int.toNat_natCast, toInt_int, toInt_dB, toBool_bool, getD_c0, getD_c1, int_beq, int_bne, not_dec, dInt_dB, Int.toNat_zero]
  refine wp_call (ref07_Count_sp a.shape) ?_
  rw [rightA_eq]
  simp only [getD_c0, getD_c1, toInt_int]
  refine wp_decs (fun h => wp_ret ?_) (fun h => wp_decs (fun h' => wp_ret ?_) (fun h' => ?_))
  · rw [decide_eq_false]; rfl
    intro hh; rw [hh] at h; exact h rfl
  · rw [decide_eq_false]; rfl
    intro hh; rw [hh] at h'; exact h' rfl
  · have hc : countS a.shape = ((a.cells.length : Int), 0) := Prod.ext (by simpa using h') (by simpa using h)
    rw [hc, decide_eq_true rfl, Bool.true_and]
    have key := loop_list (P := Tryz.prog) (md := md) a.cells (fun m k (_ : Unit) => ref08_Right_l5 (a.cells.length + 1) m (d : Int) (a.cells.length : Int) (k : Int) (dA a)) (fun rest _ => [.bool (rest.all (rightC d))]) (fun _ _ => True)
      (fun m k s hk _ => by
        simp only [ref08_Right_l5_succ]
        exact wp_ndec (by omega) (wp_ret rfl))
      (fun m k s x rest hd _ ih' => by
        obtain ⟨h1, h2, h3⟩ := drop_cons hd
        simp only [ref08_Right_l5_succ, dA_0, dA_1, dA_2, dC_0, dC_1, dC_2, dC_3, dC_4, dN_0, dN_1, dN_2, els_sl, els_dI, els_dL, List.length_map, Int.toNat_natCast, toInt_int, toInt_dB, toBool_bool, getD_c0, getD_c1, int_beq, int_bne, not_dec, dInt_dB, Int.toNat_zero, getD_map h2, wrap_succ (show k < 9223372036854775807 by omega)]
        repeat (refine wp_dec (by omega) ?_)
        refine wp_call (ih x (ha.cell x (List.mem_of_getElem? h2))) ?_
        simp only [getD_c0, toBool_bool, List.all_cons]
        refine wp_br (fun h4 => wp_ret ?_) (fun h4 => ?_)
        · simp at h4; rw [h4]; rfl
        · simp at h4; rw [h4, Bool.true_and]; exact ih' () trivial)
      (a.cells.length + 1) 0 () (by omega) (by omega) trivial
    exact key
theorem ref08_Right_all : ∀ d : Nat, d ≤ 100 → (∀ c, FitsC c → Sp 50 [dC c, .int (d : Int)] [.bool (rightC d c)]) ∧ ∀ a, Fits a → Sp 15 [dA a, .int (d : Int)] [.bool (rightA d a)]
  | 0, hd => by
    have hc : ∀ c, FitsC c → Sp 50 [dC c, .int ((0 : Nat) : Int)] [.bool (rightC 0 c)] := fun c hc => ref08_Cell_step 0 c hc hd (fun e he => by omega)
    exact ⟨hc, fun a ha => ref08_Right_step 0 a ha hc⟩
  | d + 1, hd => by
    have ih := ref08_Right_all d (by omega)
    have hc : ∀ c, FitsC c → Sp 50 [dC c, .int ((d + 1 : Nat) : Int)] [.bool (rightC (d + 1) c)] := fun c hc => ref08_Cell_step (d + 1) c hc hd (fun e he => by
      have : e = d := by omega
      subst this; exact ih.2)
    exact ⟨hc, fun a ha => ref08_Right_step (d + 1) a ha hc⟩
theorem ref08_Right_sp (a : Arr) (ha : Fits a) : Sp 15 [dA a, .int 8] [.bool (rightA 8 a)] := (ref08_Right_all 8 (by decide)).2 a ha
/-- How many of so many parts are left behind an array. -/
def w64 (x : Int) : Int := IntKind.wrap .i64 x
def leftAs (r : Arr → Int → Int) : List Arr → Int → Int
  | [], n => n
  | a :: as_, n => if 0 ≤ n then leftAs r as_ (r a n) else n
def leftCs (r : Arr → Int → Int) : List Cell → Int → Int
  | [], n => n
  | c :: cs, n => if 0 ≤ n then leftCs r cs (leftAs r c.inn (w64 (w64 (w64 (n - 1) - (c.n.top.length : Int)) - (c.n.bot.length : Int)))) else n
def leftA : Nat → Arr → Int → Int
  | 0, _, _ => -1
  | d + 1, a, n => leftCs (leftA d) a.cells (w64 (w64 (n - 1) - (a.shape.length : Int)))
def fewA (a : Arr) : Bool := decide (0 ≤ leftA 12 a 4000)
theorem ref08_left_sp : ∀ (d : Nat), d ≤ 100 → ∀ (a : Arr), Fits a → ∀ n : Int, Sp 121 [dA a, .int (d : Int), .int n] [.int (leftA d a n)]
  | 0, _, a, ha, n => sound_ 0 (ref08_left_tree _ _ _ _) (wp_tt rfl (wp_ret rfl))
  | d + 1, hd, a, ha, n => by
    obtain ⟨N, hN⟩ := bigFuel
    have hl := ha.len
    refine sound_ N (ref08_left_tree _ _ _ _) ?_
    simp only [dA_0, dA_1, dA_2, dC_0, dC_1, dC_2, dC_3, dC_4, dN_0, dN_1, dN_2, els_sl, els_dI, els_dL, List.length_map, Int.toNat_natCast, toInt_int, toInt_dB, toBool_bool, getD_c0, getD_c1, int_beq, int_bne, not_dec, dInt_dB, Int.toNat_zero]
    refine wp_ndec (by omega) ?_
    have key := loop_list (P := Tryz.prog) (md := md) a.cells (fun m k (n : Int) => ref08_left_l5 N m ((d + 1 : Nat) : Int) n (k : Int) (dA a)) (fun rest n => [.int (leftCs (leftA d) rest n)]) (fun _ _ => True)
      (fun m k n hk _ => by
        simp only [ref08_left_l5_succ, dA_0, dA_1, dA_2, dC_0, dC_1, dC_2, dC_3, dC_4, dN_0, dN_1, dN_2, els_sl, els_dI, els_dL, List.length_map, Int.toNat_natCast, toInt_int, toInt_dB, toBool_bool, getD_c0, getD_c1, int_beq, int_bne, not_dec, dInt_dB, Int.toNat_zero]
        exact wp_ndec (by omega) (wp_ret rfl))
      (fun m k n c rest hdr _ ih => by
        obtain ⟨h1, h2, h3⟩ := drop_cons hdr
        have hc := ha.cell c (List.mem_of_getElem? h2)
        have hlc := hc.2.2.1
        simp only [ref08_left_l5_succ, dA_0, dA_1, dA_2, dC_0, dC_1, dC_2, dC_3, dC_4, dN_0, dN_1, dN_2, els_sl, els_dI, els_dL, List.length_map, Int.toNat_natCast, toInt_int, toInt_dB, toBool_bool, getD_c0, getD_c1, int_beq, int_bne, not_dec, dInt_dB, Int.toNat_zero, getD_map h2, leftCs]
        refine wp_dec (by omega) (wp_decs (fun hn => ?_) (fun hn => wp_ret (by rw [if_neg hn])))
        rw [if_pos hn]
        repeat (refine wp_dec (by omega) ?_)
        have key := loop_list (P := Tryz.prog) (md := md) c.inn (fun m' j (n : Int) => ref08_left_l9 N m m' ((d + 1 : Nat) : Int) n (k : Int) (j : Int) (dA a)) (fun rest' n => [.int (leftCs (leftA d) rest (leftAs (leftA d) rest' n))]) (fun _ _ => True)
          (fun m' j n hj _ => by
            simp only [ref08_left_l9_succ, dA_0, dA_1, dA_2, dC_0, dC_1, dC_2, dC_3, dC_4, dN_0, dN_1, dN_2, els_sl, els_dI, els_dL, List.length_map, Int.toNat_natCast, toInt_int, toInt_dB, toBool_bool, getD_c0, getD_c1, int_beq, int_bne, not_dec, dInt_dB, Int.toNat_zero, getD_map h2, wrap_succ (show k < 9223372036854775807 by omega), leftAs]
            repeat (refine wp_dec (by omega) ?_)
            exact wp_ndec (by omega) (ih _ trivial))
          (fun m' j n x rest' hdr' _ ih' => by
            obtain ⟨g1, g2, g3⟩ := drop_cons hdr'
            simp only [ref08_left_l9_succ, dA_0, dA_1, dA_2, dC_0, dC_1, dC_2, dC_3, dC_4, dN_0, dN_1, dN_2, els_sl, els_dI, els_dL, List.length_map, Int.toNat_natCast, toInt_int, toInt_dB, toBool_bool, getD_c0, getD_c1, int_beq, int_bne, not_dec, dInt_dB, Int.toNat_zero, getD_map h2, getD_map g2, wrap_succ (show k < 9223372036854775807 by omega), wrap_succ (show j < 9223372036854775807 by omega), leftAs]
            refine wp_dec (by omega) (wp_dec (by omega) (wp_dec (by omega) (wp_decs (fun hn => ?_) (fun hn => by rw [if_neg hn]; exact ih _ trivial))))
            rw [if_pos hn]
            repeat (refine wp_dec (by omega) ?_)
            rw [wrap64 (by omega) (by omega), show ((d + 1 : Nat) : Int) - 1 = (d : Int) by omega]
            exact wp_call (ref08_left_sp d (by omega) x (hc.2.2.2 x (List.mem_of_getElem? g2)) n) (ih' _ trivial))
          N 0 (w64 (w64 (w64 (n - 1) - (c.n.top.length : Int)) - (c.n.bot.length : Int))) (by omega) (by omega) trivial
        exact key)
      N 0 (w64 (w64 (n - 1) - (a.shape.length : Int))) (by omega) (by omega) trivial
    exact key
theorem ref08_Few_sp (a : Arr) (ha : Fits a) : Sp 76 [dA a] [.bool (fewA a)] := sound_ 0 (ref08_Few_tree _ _) (wp_call (ref08_left_sp 12 (by decide) a ha 4000) (wp_ret rfl))
/-- Axes that make few places. -/
def thinS : List Int → Int → Int
  | [], n => n
  | x :: xs, n => if n ≤ 100000 then thinS xs (if 0 < x then w64 (n * x) else n) else n
def okT (n : Int) : Bool := decide (¬ 100000 < n)
mutual
def thinA : Arr → Bool
  | .mk _ sh cs => okT (thinS sh 1) && thinCs cs
def thinCs : List (CellF Arr) → Bool
  | [] => true
  | c :: cs => thinC c && thinCs cs
def thinC : CellF Arr → Bool
  | ⟨_, _, _, _, inn⟩ => thinAs inn
def thinAs : List Arr → Bool
  | [] => true
  | a :: as_ => thinA a && thinAs as_
end
theorem thinA_eq (a : Arr) : thinA a = (okT (thinS a.shape 1) && thinCs a.cells) := by cases a; rw [thinA]; rfl
theorem thinC_eq (c : Cell) : thinC c = thinAs c.inn := by cases c; rw [thinC]
theorem ref08_thin_sp (a : Arr) : Fits a → Sp 77 [dA a] [.bool (thinA a)] := by
  induction a using Arr.ind with
  | h s sh cs IH =>
    intro ha
    have hl := ha.len
    have hs := ha.sh
    have IH' : ∀ c ∈ (Arr.mk s sh cs).cells, ∀ x ∈ c.inn, Fits x → Sp 77 [dA x] [.bool (thinA x)] := IH
    generalize Arr.mk s sh cs = a at *
    obtain ⟨N, hN⟩ := bigFuel
    refine sound_ N (ref08_thin_tree _ _) ?_
    rw [thinA_eq]
    have inner : Tw (ref08_thin_l10 N N 0 (dA a)) [.bool (thinCs a.cells)] := by
      have key := loop_list (P := Tryz.prog) (md := md) a.cells (fun m k (_ : Unit) => ref08_thin_l10 N m (k : Int) (dA a)) (fun rest _ => [.bool (thinCs rest)]) (fun _ _ => True)
        (fun m k n hk _ => by
          simp only [ref08_thin_l10_succ, dA_0, dA_1, dA_2, dC_0, dC_1, dC_2, dC_3, dC_4, dN_0, dN_1, dN_2, els_sl, els_dI, els_dL, List.length_map, Int.toNat_natCast, toInt_int, toInt_dB, toBool_bool, getD_c0, getD_c1, int_beq, int_bne, not_dec, dInt_dB, Int.toNat_zero]
          exact wp_ndec (by omega) (wp_ret (by rw [thinCs])))
        (fun m k n c rest hdr _ ih => by
          obtain ⟨h1, h2, h3⟩ := drop_cons hdr
          have hc := ha.cell c (List.mem_of_getElem? h2)
          have hlc := hc.2.2.1
          simp only [ref08_thin_l10_succ, dA_0, dA_1, dA_2, dC_0, dC_1, dC_2, dC_3, dC_4, dN_0, dN_1, dN_2, els_sl, els_dI, els_dL, List.length_map, Int.toNat_natCast, toInt_int, toInt_dB, toBool_bool, getD_c0, getD_c1, int_beq, int_bne, not_dec, dInt_dB, Int.toNat_zero, getD_map h2]
          repeat (refine wp_dec (by omega) ?_)
          rw [thinCs, thinC_eq]
          have key := loop_list (P := Tryz.prog) (md := md) c.inn (fun m' j (_ : Unit) => ref08_thin_l13 N m m' (k : Int) (j : Int) (dA a)) (fun rest' _ => [.bool (thinAs rest' && thinCs rest)]) (fun _ _ => True)
            (fun m' j n hj _ => by
              simp only [ref08_thin_l13_succ, dA_0, dA_1, dA_2, dC_0, dC_1, dC_2, dC_3, dC_4, dN_0, dN_1, dN_2, els_sl, els_dI, els_dL, List.length_map, Int.toNat_natCast, toInt_int, toInt_dB, toBool_bool, getD_c0, getD_c1, int_beq, int_bne, not_dec, dInt_dB, Int.toNat_zero, getD_map h2, wrap_succ (show k < 9223372036854775807 by omega)]
              repeat (refine wp_dec (by omega) ?_)
              rw [thinAs, Bool.true_and]
              exact wp_ndec (by omega) (ih () trivial))
            (fun m' j n x rest' hdr' _ ih' => by
              obtain ⟨g1, g2, g3⟩ := drop_cons hdr'
              simp only [ref08_thin_l13_succ, dA_0, dA_1, dA_2, dC_0, dC_1, dC_2, dC_3, dC_4, dN_0, dN_1, dN_2, els_sl, els_dI, els_dL, List.length_map, Int.toNat_natCast, toInt_int, toInt_dB, toBool_bool, getD_c0, getD_c1, int_beq, int_bne, not_dec, dInt_dB, Int.toNat_zero, getD_map h2, getD_map g2, wrap_succ (show j < 9223372036854775807 by omega)]
              repeat (refine wp_dec (by omega) ?_)
              refine wp_call (IH' c (List.mem_of_getElem? h2) x (List.mem_of_getElem? g2) (hc.2.2.2 x (List.mem_of_getElem? g2))) ?_
              simp only [getD_c0, toBool_bool]
              rw [thinAs]
              refine wp_br (fun e => wp_ret ?_) (fun e => ?_)
              · simp at e; rw [e]; rfl
              · simp at e; rw [e, Bool.true_and]; exact ih' () trivial)
            N 0 () (by omega) (by omega) trivial
          exact key)
        N 0 () (by omega) (by omega) trivial
      exact key
    have fin : ∀ n : Int, Tw (.br (decide (100000 < n)) (.ret [D.bool false]) (ref08_thin_l10 N N 0 (dA a))) [.bool (okT n && thinCs a.cells)] := fun n => by
      unfold okT
      refine wp_decs (fun h => wp_ret ?_) (fun h => ?_)
      · rw [decide_eq_false (fun hh => hh h)]; rfl
      · rw [decide_eq_true h, Bool.true_and]; exact inner
    have key := loop_list (P := Tryz.prog) (md := md) a.shape (fun m k (n : Int) => ref08_thin_l3 N m n (k : Int) (dA a)) (fun rest n => [.bool (okT (thinS rest n) && thinCs a.cells)]) (fun _ _ => True)
      (fun m k n hk _ => by
        simp only [ref08_thin_l3_succ, dA_0, dA_1, dA_2, dC_0, dC_1, dC_2, dC_3, dC_4, dN_0, dN_1, dN_2, els_sl, els_dI, els_dL, List.length_map, Int.toNat_natCast, toInt_int, toInt_dB, toBool_bool, getD_c0, getD_c1, int_beq, int_bne, not_dec, dInt_dB, Int.toNat_zero]
        exact wp_ndec (by omega) (fin n))
      (fun m k n x rest hdr _ ih => by
        obtain ⟨h1, h2, h3⟩ := drop_cons hdr
        simp only [ref08_thin_l3_succ, dA_0, dA_1, dA_2, dC_0, dC_1, dC_2, dC_3, dC_4, dN_0, dN_1, dN_2, els_sl, els_dI, els_dL, List.length_map, Int.toNat_natCast, toInt_int, toInt_dB, toBool_bool, getD_c0, getD_c1, int_beq, int_bne, not_dec, dInt_dB, Int.toNat_zero, getD_map h2, wrap_succ (show k < 9223372036854775807 by omega), thinS]
        refine wp_dec (by omega) (wp_decs (fun hn => wp_dec (by omega) (wp_dec (by omega) (wp_decs (fun hx => wp_dec (by omega) (wp_dec (by omega) ?_)) (fun hx => ?_)))) (fun hn => ?_))
        · rw [if_pos hn, if_pos hx]; exact ih _ trivial
        · rw [if_pos hn, if_neg hx]; exact ih _ trivial
        · rw [if_neg hn]; exact fin n)
      N 0 1 (by omega) (by omega) trivial
    exact key
def goodA (a : Arr) : Bool := fewA a && rightA 8 a && thinA a
theorem goodA_right {a : Arr} (h : goodA a = true) : rightA 8 a = true := by unfold goodA at h; simp at h; exact h.1.2
theorem ref08_Good_sp (a : Arr) (ha : Fits a) : Sp 36 [dA a] [.bool (goodA a)] := by
  refine sound_ 0 (ref08_Good_tree _ _) (wp_call (ref08_Few_sp a ha) ?_)
  unfold goodA
  simp only [getD_c0, toBool_bool]
  refine wp_br (fun e1 => wp_call (ref08_Right_sp a ha) ?_) (fun e1 => wp_ret (by rw [e1]; rfl))
  simp only [getD_c0, toBool_bool]
  refine wp_br (fun e2 => wp_call (ref08_thin_sp a ha) (wp_ret ?_)) (fun e2 => wp_ret (by rw [e2, Bool.and_false]; rfl))
  rw [e1, e2]; rfl
theorem ref08_Good_ex (a : Arr) (ha : Fits a) : ∃ b, (b = true → rightA 8 a = true) ∧ Sp 36 [dA a] [.bool b] := ⟨goodA a, goodA_right, ref08_Good_sp a ha⟩
theorem ref08_Total_sp (a : Arr) : Fits a → Sp 48 [dA a] [dB (totA a)] := by
  induction a using Arr.ind with
  | h s sh cs IH =>
    intro ha
    have hl := ha.len
    have IH' : ∀ c ∈ (Arr.mk s sh cs).cells, ∀ x ∈ c.inn, Fits x → Sp 48 [dA x] [dB (totA x)] := IH
    generalize Arr.mk s sh cs = a at *
    obtain ⟨N, hN⟩ := bigFuel
    refine sound_ N (ref08_Total_tree _ _) ?_
    rw [totA_eq]
    have key := loop_list (P := Tryz.prog) (md := md) a.cells (fun m k (l : Lab) => ref08_Total_l3 N m (l.toNat : Int) (k : Int) (dA a)) (fun rest l => [dB (rest.foldl totC l)]) (fun _ _ => True)
      (fun m k l hk _ => by
        simp only [ref08_Total_l3_succ, dA_0, dA_1, dA_2, dC_0, dC_1, dC_2, dC_3, dC_4, dN_0, dN_1, dN_2, els_sl, els_dI, els_dL, List.length_map, Int.toNat_natCast, toInt_int, toInt_dB, toBool_bool, getD_c0, getD_c1, int_beq, int_bne, not_dec, dInt_dB, Int.toNat_zero]
        exact wp_ndec (by omega) (wp_ret rfl))
      (fun m k l c rest hdr _ ih => by
        obtain ⟨h1, h2, h3⟩ := drop_cons hdr
        have hc := ha.cell c (List.mem_of_getElem? h2)
        have hlc := hc.2.2.1
        simp only [ref08_Total_l3_succ, dA_0, dA_1, dA_2, dC_0, dC_1, dC_2, dC_3, dC_4, dN_0, dN_1, dN_2, els_sl, els_dI, els_dL, List.length_map, Int.toNat_natCast, toInt_int, toInt_dB, toBool_bool, getD_c0, getD_c1, int_beq, int_bne, not_dec, dInt_dB, Int.toNat_zero, getD_map h2]
        repeat (refine wp_dec (by omega) ?_)
        refine wp_call (ref01_Join_sp l c.l) ?_
        simp only [getD_c0, toInt_dB, List.foldl_cons]
        rw [totC_eq]
        have key := loop_list (P := Tryz.prog) (md := md) c.inn (fun m' j (l : Lab) => ref08_Total_l7 N m m' (l.toNat : Int) (k : Int) (j : Int) (dA a)) (fun rest' l => [dB (rest.foldl totC (rest'.foldl (fun l x => l ||| totA x) l))]) (fun _ _ => True)
          (fun m' j l hj _ => by
            simp only [ref08_Total_l7_succ, dA_0, dA_1, dA_2, dC_0, dC_1, dC_2, dC_3, dC_4, dN_0, dN_1, dN_2, els_sl, els_dI, els_dL, List.length_map, Int.toNat_natCast, toInt_int, toInt_dB, toBool_bool, getD_c0, getD_c1, int_beq, int_bne, not_dec, dInt_dB, Int.toNat_zero, getD_map h2, wrap_succ (show k < 9223372036854775807 by omega)]
            repeat (refine wp_dec (by omega) ?_)
            exact wp_ndec (by omega) (ih _ trivial))
          (fun m' j l x rest' hdr' _ ih' => by
            obtain ⟨g1, g2, g3⟩ := drop_cons hdr'
            simp only [ref08_Total_l7_succ, dA_0, dA_1, dA_2, dC_0, dC_1, dC_2, dC_3, dC_4, dN_0, dN_1, dN_2, els_sl, els_dI, els_dL, List.length_map, Int.toNat_natCast, toInt_int, toInt_dB, toBool_bool, getD_c0, getD_c1, int_beq, int_bne, not_dec, dInt_dB, Int.toNat_zero, getD_map h2, getD_map g2, wrap_succ (show j < 9223372036854775807 by omega)]
            repeat (refine wp_dec (by omega) ?_)
            refine wp_call (IH' c (List.mem_of_getElem? h2) x (List.mem_of_getElem? g2) (hc.2.2.2 x (List.mem_of_getElem? g2))) (wp_call (ref01_Join_sp l (totA x)) ?_)
            exact ih' (l ||| totA x) trivial)
          N 0 (l ||| c.l) (by omega) (by omega) trivial
        exact key)
      N 0 a.s (by omega) (by omega) trivial
    simp only [dA_0, toInt_dB]
    exact key
/-- The same, with labels. -/
noncomputable def eqA (a b : Arr) : Bool := @decide (a = b) (Classical.propDecidable _)
noncomputable def eqC (a b : Cell) : Bool := @decide (a = b) (Classical.propDecidable _)
theorem eqA_iff {a b : Arr} : eqA a b = true ↔ a = b := by unfold eqA; exact @decide_eq_true_iff _ (Classical.propDecidable _)
theorem eqA_false {a b : Arr} (h : a ≠ b) : eqA a b = false := by cases e : eqA a b with
  | false => rfl
  | true => exact absurd (eqA_iff.1 e) h
theorem eqC_iff {a b : Cell} : eqC a b = true ↔ a = b := by unfold eqC; exact @decide_eq_true_iff _ (Classical.propDecidable _)
theorem eqC_false {a b : Cell} (h : a ≠ b) : eqC a b = false := by cases e : eqC a b with
  | false => rfl
  | true => exact absurd (eqC_iff.1 e) h
theorem eqA_self (a : Arr) : eqA a a = true := eqA_iff.2 rfl
theorem eqC_self (a : Cell) : eqC a a = true := eqC_iff.2 rfl
theorem cell_eq (a b : Cell) : (a = b) ↔ (a.l = b.l ∧ a.kind = b.kind ∧ a.c = b.c ∧ a.n = b.n ∧ a.inn = b.inn) := by
  cases a; cases b
  constructor
  · rintro ⟨⟩; exact ⟨rfl, rfl, rfl, rfl, rfl⟩
  · rintro ⟨h1, h2, h3, h4, h5⟩; dsimp only at h1 h2 h3 h4 h5; subst h1; subst h2; subst h3; subst h4; subst h5; rfl
theorem arr_eq (a b : Arr) : (a = b) ↔ (a.s = b.s ∧ a.shape = b.shape ∧ a.cells = b.cells) := by
  cases a; cases b; simp
/-- A loop that asks whether two lists are the same. -/
theorem same_loop {α : Type} {P : Program} {md : Nat → FMode} (a b : List α) (e : α → α → Bool) (he : ∀ x ∈ a, ∀ y, e x y = true ↔ x = y) (hlen : a.length = b.length) (r : Bool) (hr : r = true ↔ a = b) (L : Nat → Nat → Tree)
    (hend : ∀ m, ∀ Q : List D → Prop, Q [.bool true] → (L (m + 1) a.length).wp P md Q)
    (hstep : ∀ m k x y, ∀ Q : List D → Prop, a[k]? = some x → b[k]? = some y → (e x y = false → Q [.bool false]) → (e x y = true → (L m (k + 1)).wp P md Q) → (L (m + 1) k).wp P md Q) (N : Nat) (hN : a.length < N) : (L N 0).wp P md (fun zs => zs = [.bool r]) := by
  have key := loop_up (P := P) (md := md) a.length (fun m k (_ : Unit) => L m k) (fun _ _ => [.bool r]) (fun k _ => a.take k = b.take k)
    (fun m s h => by
      refine hend m _ ?_
      rw [List.take_of_length_le (Nat.le_refl _), List.take_of_length_le (by omega)] at h
      rw [hr.2 h])
    (fun m k s hk h ih => by
      have ha : a[k]? = some a[k] := List.getElem?_eq_getElem _
      have hb : b[k]? = some (b[k]'(by omega)) := List.getElem?_eq_getElem _
      refine hstep m k _ _ _ ha hb (fun hf => ?_) (fun ht => ih () ?_)
      · have : r = false := by
          cases hrr : r with
          | false => rfl
          | true =>
            have := hr.1 hrr
            subst this
            rw [(he a[k] (List.getElem_mem _) a[k]).2 rfl] at hf; cases hf
        rw [this]
      · have : a[k] = b[k] := (he a[k] (List.getElem_mem _) _).1 ht
        rw [List.take_succ_eq_append_getElem hk, List.take_succ_eq_append_getElem (by omega), h, this])
    N 0 () (by omega) (by omega) (by simp)
  exact key
theorem ref08_SameCell_step (a : Cell) (hf : FitsC a) (ih : ∀ x ∈ a.inn, Fits x → ∀ y, Sp 38 [dA x, dA y] [.bool (eqA x y)]) (b : Cell) : Sp 79 [dC a, dC b] [.bool (eqC a b)] := by
  refine sound_ (a.inn.length + 1) (ref08_SameCell_tree _ _ _) ?_
  have hl := hf.2.2.1
  simp only [dA_0, dA_1, dA_2, dC_0, dC_1, dC_2, dC_3, dC_4, dN_0, dN_1, dN_2, els_sl, els_dI, els_dL, List.length_map, Int.toNat_natCast, toInt_int, toInt_dB, toBool_bool, getD_c0, getD_c1, int_beq, int_bne, not_dec, dInt_dB, Int.toNat_zero]
  refine wp_decs (fun h => wp_ret ?_) (fun h1 => wp_decs (fun h => wp_ret ?_) (fun h2 => wp_decs (fun h => wp_ret ?_) (fun h3 => wp_call (ref04_Same_sp a.n b.n hf.1 hf.2.1) ?_)))
  · rw [eqC_false]; rintro rfl; exact h rfl
  · rw [eqC_false]; rintro rfl; exact h rfl
  · rw [eqC_false]; rintro rfl; exact h rfl
  simp only [getD_c0, toBool_bool, not_dec]
  refine wp_decs (fun h => wp_ret ?_) (fun h4 => wp_decs (fun h => wp_ret ?_) (fun h5 => ?_))
  · rw [eqC_false]; rintro rfl; exact h rfl
  · rw [eqC_false]; rintro rfl; exact h rfl
  have e1 : a.l = b.l := BitVec.eq_of_toNat_eq (by omega)
  refine same_loop (P := Tryz.prog) (md := md) a.inn b.inn eqA (fun x _ y => eqA_iff) (by omega) (eqC a b) ?_ (fun m k => ref08_SameCell_l4 (a.inn.length + 1) m (k : Int) (dC a) (dC b)) ?_ ?_ (a.inn.length + 1) (by omega)
  · rw [eqC_iff, cell_eq]
    have h2' := Classical.not_not.1 h2
    have h3' := Classical.not_not.1 h3
    have h4' := Classical.not_not.1 h4
    simp [e1, h2', h3', h4']
  · intro m Q hQ
    simp only [ref08_SameCell_l4_succ, dA_0, dA_1, dA_2, dC_0, dC_1, dC_2, dC_3, dC_4, dN_0, dN_1, dN_2, els_sl, els_dI, els_dL, List.length_map, Int.toNat_natCast, toInt_int, toInt_dB, toBool_bool, getD_c0, getD_c1, int_beq, int_bne, not_dec, dInt_dB, Int.toNat_zero]
    exact wp_ndec (by omega) (wp_ret hQ)
  · intro m k x y Q hx hy hF hT
    have hk : k < a.inn.length := (List.getElem?_eq_some_iff.1 hx).1
    simp only [ref08_SameCell_l4_succ, dA_0, dA_1, dA_2, dC_0, dC_1, dC_2, dC_3, dC_4, dN_0, dN_1, dN_2, els_sl, els_dI, els_dL, List.length_map, Int.toNat_natCast, toInt_int, toInt_dB, toBool_bool, getD_c0, getD_c1, int_beq, int_bne, not_dec, dInt_dB, Int.toNat_zero, getD_map hx, getD_map hy, wrap_succ (show k < 9223372036854775807 by omega)]
    repeat (refine wp_dec (by omega) ?_)
    refine wp_call (ih x (List.mem_of_getElem? hx) (hf.2.2.2 x (List.mem_of_getElem? hx)) y) ?_
    simp only [getD_c0, toBool_bool]
    refine wp_br (fun h => wp_ret (hF (by simpa using h))) (fun h => hT (by simpa using h))
theorem ref08_Same_sp (a : Arr) : Fits a → ∀ b, Sp 38 [dA a, dA b] [.bool (eqA a b)] := by
  induction a using Arr.ind with
  | h s sh cs IH =>
    intro ha b
    have hl := ha.len
    have IH' : ∀ c ∈ (Arr.mk s sh cs).cells, ∀ x ∈ c.inn, Fits x → ∀ y, Sp 38 [dA x, dA y] [.bool (eqA x y)] := IH
    generalize Arr.mk s sh cs = a at *
    refine sound_ (a.cells.length + 1) (ref08_Same_tree _ _ _) ?_
    simp only [dA_0, dA_1, dA_2, dC_0, dC_1, dC_2, dC_3, dC_4, dN_0, dN_1, dN_2, els_sl, els_dI, els_dL, List.length_map, Int.toNat_natCast, toInt_int, toInt_dB, toBool_bool, getD_c0, getD_c1, int_beq, int_bne, not_dec, dInt_dB, Int.toNat_zero]
    refine wp_decs (fun h => wp_ret ?_) (fun h1 => wp_call (ref07_Ints_sp a.shape b.shape ha.sh) ?_)
    · rw [eqA_false]; rintro rfl; exact h rfl
    simp only [getD_c0, toBool_bool, not_dec]
    refine wp_decs (fun h => wp_ret ?_) (fun h4 => wp_decs (fun h => wp_ret ?_) (fun h5 => ?_))
    · rw [eqA_false]; rintro rfl; exact h rfl
    · rw [eqA_false]; rintro rfl; exact h rfl
    have e1 : a.s = b.s := BitVec.eq_of_toNat_eq (by omega)
    refine same_loop (P := Tryz.prog) (md := md) a.cells b.cells eqC (fun x _ y => eqC_iff) (by omega) (eqA a b) ?_ (fun m k => ref08_Same_l4 (a.cells.length + 1) m (k : Int) (dA a) (dA b)) ?_ ?_ (a.cells.length + 1) (by omega)
    · rw [eqA_iff, arr_eq]
      have h4' := Classical.not_not.1 h4
      simp [e1, h4']
    · intro m Q hQ
      simp only [ref08_Same_l4_succ, dA_0, dA_1, dA_2, dC_0, dC_1, dC_2, dC_3, dC_4, dN_0, dN_1, dN_2, els_sl, els_dI, els_dL, List.length_map, Int.toNat_natCast, toInt_int, toInt_dB, toBool_bool, getD_c0, getD_c1, int_beq, int_bne, not_dec, dInt_dB, Int.toNat_zero]
      exact wp_ndec (by omega) (wp_ret hQ)
    · intro m k x y Q hx hy hF hT
      have hk : k < a.cells.length := (List.getElem?_eq_some_iff.1 hx).1
      simp only [ref08_Same_l4_succ, dA_0, dA_1, dA_2, dC_0, dC_1, dC_2, dC_3, dC_4, dN_0, dN_1, dN_2, els_sl, els_dI, els_dL, List.length_map, Int.toNat_natCast, toInt_int, toInt_dB, toBool_bool, getD_c0, getD_c1, int_beq, int_bne, not_dec, dInt_dB, Int.toNat_zero, getD_map hx, getD_map hy, wrap_succ (show k < 9223372036854775807 by omega)]
      repeat (refine wp_dec (by omega) ?_)
      refine wp_call (ref08_SameCell_step x (ha.cell x (List.mem_of_getElem? hx)) (IH' x (List.mem_of_getElem? hx)) y) ?_
      simp only [getD_c0, toBool_bool]
      refine wp_br (fun h => wp_ret (hF (by simpa using h))) (fun h => hT (by simpa using h))
theorem ref08_SameCell_sp (a b : Cell) (hf : FitsC a) : Sp 79 [dC a, dC b] [.bool (eqC a b)] := ref08_SameCell_step a hf (fun x _ hx y => ref08_Same_sp x hx y) b
/-- Small whole numbers; an error. -/
def intsCs : List Cell → Option (List Int)
  | [] => some []
  | c :: cs => if c.kind = 0 then (smallN c.n).bind (fun z => (intsCs cs).map (z :: ·)) else none
def intsA (a : Arr) : List Int × Int := if 1 < a.shape.length then ([], 5) else match intsCs a.cells with
  | some l => (l, 0)
  | none => ([], 3)
def intC (z : Int) : Cell := ⟨0, 0, ofZ z, 0, []⟩
def fillC (a : Arr) : Cell := match a.cells with
  | [] => intC 0
  | c :: _ => if c.kind = 1 then ⟨c.l, 1, .zero, 32, []⟩ else ⟨c.l, 0, ofZ 0, 0, []⟩
theorem smallN_inR {n : Num} {z : Int} (h : smallN n = some z) : inR z := by
  unfold smallN smO at h
  split at h
  · split at h
    · injection h with h; subst h; assumption
    · cases h
  · cases h
theorem intsCs_inR : ∀ {cs : List Cell} {l : List Int}, intsCs cs = some l → l.length = cs.length ∧ ∀ x ∈ l, inR x
  | [], l, h => by simp [intsCs] at h; subst h; simp
  | c :: cs, l, h => by
    simp only [intsCs] at h
    split at h
    · cases hn : smallN c.n with
      | none => rw [hn] at h; cases h
      | some z =>
        rw [hn] at h
        cases hc : intsCs cs with
        | none => rw [hc] at h; cases h
        | some l' =>
          rw [hc] at h
          injection h with h; subst h
          have := intsCs_inR hc
          exact ⟨by simp [this.1], fun x hx => by rcases List.mem_cons.1 hx with rfl | hx; exact smallN_inR hn; exact this.2 x hx⟩
    · cases h
def insD (out : List Int) : Option (List Int) → List D
  | some l => [dI (out ++ l), .int 0]
  | none => [.sl [], .int 3]
theorem insD_intsA {a : Arr} (h : ¬ 1 < a.shape.length) : insD [] (intsCs a.cells) = [dI (intsA a).1, .int (intsA a).2] := by
  unfold intsA; rw [if_neg h]; cases intsCs a.cells <;> rfl
theorem ref08_Ints_sp (a : Arr) (hl : a.cells.length ≤ 2048) (hn : ∀ c ∈ a.cells, c.n.top.length ≤ 32) : Sp 34 [dA a] [dI (intsA a).1, .int (intsA a).2] := by
  refine sound_ (a.cells.length + 1) (ref08_Ints_tree _ _) ?_
  simp only [dA_0, dA_1, dA_2, dC_0, dC_1, dC_2, dC_3, dC_4, dN_0, dN_1, dN_2, els_sl, els_dI, els_dL, List.length_map, Int.toNat_natCast, toInt_int, toInt_dB, toBool_bool, getD_c0, getD_c1, int_beq, int_bne, not_dec, dInt_dB, Int.toNat_zero]
  refine wp_decs (fun h => wp_ret ?_) (fun h => ?_)
  · unfold intsA; rw [if_pos (by omega)]; rfl
  · rw [← insD_intsA (by omega)]
    have key := loop_list (P := Tryz.prog) (md := md) a.cells (fun m k (out : List Int) => ref08_Ints_l5 (a.cells.length + 1) m (out.map .int) (k : Int) (dA a)) (fun rest out => insD out (intsCs rest)) (fun rest out => out.length + rest.length ≤ 2048)
      (fun m k out hk _ => by
        simp only [ref08_Ints_l5_succ, dA_0, dA_1, dA_2, dC_0, dC_1, dC_2, dC_3, dC_4, dN_0, dN_1, dN_2, els_sl, els_dI, els_dL, List.length_map, Int.toNat_natCast, toInt_int, toInt_dB, toBool_bool, getD_c0, getD_c1, int_beq, int_bne, not_dec, dInt_dB, Int.toNat_zero]
        exact wp_ndec (by omega) (wp_ret (by simp [intsCs, insD, dI])))
      (fun m k out c rest hdr hI ih => by
        obtain ⟨h1, h2, h3⟩ := drop_cons hdr
        have hm := List.mem_of_getElem? h2
        simp only [ref08_Ints_l5_succ, dA_0, dA_1, dA_2, dC_0, dC_1, dC_2, dC_3, dC_4, dN_0, dN_1, dN_2, els_sl, els_dI, els_dL, List.length_map, Int.toNat_natCast, toInt_int, toInt_dB, toBool_bool, getD_c0, getD_c1, int_beq, int_bne, not_dec, dInt_dB, Int.toNat_zero, getD_map h2, wrap_succ (show k < 9223372036854775807 by omega)]
        repeat (refine wp_dec (by omega) ?_)
        simp only [intsCs]
        refine wp_decs (fun hk => wp_ret ?_) (fun hk => ?_)
        · rw [if_neg hk]; rfl
        rw [if_pos (Classical.not_not.1 hk)]
        repeat (refine wp_dec (by omega) ?_)
        refine wp_call (ref04_Small_sp c.n (by have := hn c hm; omega)) ?_
        cases hs : smallN c.n with
        | none => exact wp_tt rfl (wp_ret rfl)
        | some z =>
          refine wp_ff rfl (wp_dec ?_ ?_)
          · simp only [List.length_cons, List.length_nil, bigN, List.length_map] at hI ⊢; omega
          · have := ih (out ++ [z]) (by simp only [List.length_append, List.length_cons, List.length_nil] at hI ⊢; omega)
            simp only [optI, getD_c0, toInt_int]
            rw [List.map_append] at this
            refine Tree.wp_mono this (fun ys hy => hy.trans ?_)
            cases intsCs rest with
            | none => rfl
            | some l => simp [insD])
      (a.cells.length + 1) 0 [] (by omega) (by omega) (by simpa using hl)
    exact key
theorem ref08_Int_sp (z : Int) (hz : inR z) : Sp 78 [.int z] [dC (intC z)] := by
  refine sound_ 0 (ref08_Int_tree _ _) (wp_call (ref04_Of_sp z hz) (wp_ret ?_))
  rw [dC_eq]; rfl
end Go.Proofs.YtbgcadcpeabpgaaGreat
set_option maxRecDepth 100000
namespace Go.Proofs.YtbgcadcpeabpgaaGreat

theorem array_Total_sp (a : Arr) : Fits a → Sp 61 [dA a] [dB (totA a)] := by
  induction a using Arr.ind with
  | h s sh cs IH =>
    intro ha
    have hl := ha.len
    have IH' : ∀ c ∈ (Arr.mk s sh cs).cells, ∀ x ∈ c.inn, Fits x → Sp 61 [dA x] [dB (totA x)] := IH
    generalize Arr.mk s sh cs = a at *
    obtain ⟨N, hN⟩ := bigFuel
    refine sound_ N (array_Total_tree _ _) ?_
    rw [totA_eq]
    have key := loop_list (P := Tryz.prog) (md := md) a.cells (fun m k (l : Lab) => array_Total_l3 N m (l.toNat : Int) (.sl (a.cells.map dC)) (a.cells.length : Int) (k : Int)) (fun rest l => [dB (rest.foldl totC l)]) (fun _ _ => True)
      (fun m k l hk _ => by
        simp only [array_Total_l3_succ, dA_0, dA_1, dA_2, dC_0, dC_1, dC_2, dC_3, dC_4, dN_0, dN_1, dN_2, els_sl, els_dI, els_dL, List.length_map, Int.toNat_natCast, toInt_int, toInt_dB, toBool_bool, getD_c0, getD_c1, int_beq, int_bne, not_dec, dInt_dB, Int.toNat_zero]
        exact wp_ndec (by omega) (wp_ret rfl))
      (fun m k l c rest hdr _ ih => by
        obtain ⟨h1, h2, h3⟩ := drop_cons hdr
        have hc := ha.cell c (List.mem_of_getElem? h2)
        have hlc := hc.2.2.1
        simp only [array_Total_l3_succ, dA_0, dA_1, dA_2, dC_0, dC_1, dC_2, dC_3, dC_4, dN_0, dN_1, dN_2, els_sl, els_dI, els_dL, List.length_map, Int.toNat_natCast, toInt_int, toInt_dB, toBool_bool, getD_c0, getD_c1, int_beq, int_bne, not_dec, dInt_dB, Int.toNat_zero, getD_map h2]
        repeat (refine wp_dec (by omega) ?_)
        refine wp_call (label_Join_sp l c.l) ?_
        simp only [getD_c0, toInt_dB, List.foldl_cons]
        rw [totC_eq]
        have key := loop_list (P := Tryz.prog) (md := md) c.inn (fun m' j (l : Lab) => array_Total_l7 N m m' (l.toNat : Int) (.sl (a.cells.map dC)) (a.cells.length : Int) (k : Int) (.sl (c.inn.map dA)) (c.inn.length : Int) (j : Int)) (fun rest' l => [dB (rest.foldl totC (rest'.foldl (fun l x => l ||| totA x) l))]) (fun _ _ => True)
          (fun m' j l hj _ => by
            simp only [array_Total_l7_succ, dA_0, dA_1, dA_2, dC_0, dC_1, dC_2, dC_3, dC_4, dN_0, dN_1, dN_2, els_sl, els_dI, els_dL, List.length_map, Int.toNat_natCast, toInt_int, toInt_dB, toBool_bool, getD_c0, getD_c1, int_beq, int_bne, not_dec, dInt_dB, Int.toNat_zero, getD_map h2, wrap_succ (show k < 9223372036854775807 by omega)]
            exact wp_ndec (by omega) (ih _ trivial))
          (fun m' j l x rest' hdr' _ ih' => by
            obtain ⟨g1, g2, g3⟩ := drop_cons hdr'
            simp only [array_Total_l7_succ, dA_0, dA_1, dA_2, dC_0, dC_1, dC_2, dC_3, dC_4, dN_0, dN_1, dN_2, els_sl, els_dI, els_dL, List.length_map, Int.toNat_natCast, toInt_int, toInt_dB, toBool_bool, getD_c0, getD_c1, int_beq, int_bne, not_dec, dInt_dB, Int.toNat_zero, getD_map h2, getD_map g2, wrap_succ (show j < 9223372036854775807 by omega)]
            repeat (refine wp_dec (by omega) ?_)
            refine wp_call (IH' c (List.mem_of_getElem? h2) x (List.mem_of_getElem? g2) (hc.2.2.2 x (List.mem_of_getElem? g2))) (wp_call (label_Join_sp l (totA x)) ?_)
            exact ih' (l ||| totA x) trivial)
          N 0 (l ||| c.l) (by omega) (by omega) trivial
        exact key)
      N 0 a.s (by omega) (by omega) trivial
    simp only [dA_0, dA_1, dA_2, dC_0, dC_1, dC_2, dC_3, dC_4, dN_0, dN_1, dN_2, els_sl, els_dI, els_dL, List.length_map, Int.toNat_natCast, toInt_int, toInt_dB, toBool_bool, getD_c0, getD_c1, int_beq, int_bne, not_dec, dInt_dB, Int.toNat_zero]
    exact key
theorem array_Ints_sp (a : Arr) (hl : a.cells.length ≤ 2048) (hn : ∀ c ∈ a.cells, c.n.top.length ≤ 32) : Sp 40 [dA a] [dI (intsA a).1, .int (intsA a).2] := by
  refine sound_ (a.cells.length + 1) (array_Ints_tree _ _) ?_
  simp only [dA_0, dA_1, dA_2, dC_0, dC_1, dC_2, dC_3, dC_4, dN_0, dN_1, dN_2, els_sl, els_dI, els_dL, List.length_map, Int.toNat_natCast, toInt_int, toInt_dB, toBool_bool, getD_c0, getD_c1, int_beq, int_bne, not_dec, dInt_dB, Int.toNat_zero, List.replicate_zero]
  refine wp_decs (fun h => wp_ret ?_) (fun h => ?_)
  · unfold intsA; rw [if_pos (by omega)]; rfl
  · rw [← insD_intsA (by omega)]
    refine wp_dec (by omega) (wp_dec (by omega) (wp_dec (by simp only [bigN]; omega) ?_))
    have key := loop_list (P := Tryz.prog) (md := md) a.cells (fun m k (out : List Int) => array_Ints_l5 (a.cells.length + 1) m (out.map .int) (.sl (a.cells.map dC)) (a.cells.length : Int) (k : Int)) (fun rest out => insD out (intsCs rest)) (fun rest out => out.length + rest.length ≤ 2048)
      (fun m k out hk _ => by
        simp only [array_Ints_l5_succ, dA_0, dA_1, dA_2, dC_0, dC_1, dC_2, dC_3, dC_4, dN_0, dN_1, dN_2, els_sl, els_dI, els_dL, List.length_map, Int.toNat_natCast, toInt_int, toInt_dB, toBool_bool, getD_c0, getD_c1, int_beq, int_bne, not_dec, dInt_dB, Int.toNat_zero]
        exact wp_ndec (by omega) (wp_ret (by simp [intsCs, insD, dI])))
      (fun m k out c rest hdr hI ih => by
        obtain ⟨h1, h2, h3⟩ := drop_cons hdr
        have hm := List.mem_of_getElem? h2
        simp only [array_Ints_l5_succ, dA_0, dA_1, dA_2, dC_0, dC_1, dC_2, dC_3, dC_4, dN_0, dN_1, dN_2, els_sl, els_dI, els_dL, List.length_map, Int.toNat_natCast, toInt_int, toInt_dB, toBool_bool, getD_c0, getD_c1, int_beq, int_bne, not_dec, dInt_dB, Int.toNat_zero, getD_map h2, wrap_succ (show k < 9223372036854775807 by omega)]
        repeat (refine wp_dec (by omega) ?_)
        simp only [intsCs]
        refine wp_call (ratio_Small_sp c.n (by have := hn c hm; omega)) ?_
        refine wp_decs (fun hk => wp_ret ?_) (fun hk => ?_)
        · rw [if_neg hk]; rfl
        rw [if_pos (Classical.not_not.1 hk)]
        cases hs : smallN c.n with
        | none => exact wp_tt rfl (wp_ret rfl)
        | some z =>
          refine wp_ff rfl (wp_dec ?_ ?_)
          · simp only [List.length_cons, List.length_nil, bigN, List.length_map] at hI ⊢; omega
          · have := ih (out ++ [z]) (by simp only [List.length_append, List.length_cons, List.length_nil] at hI ⊢; omega)
            simp only [optI, getD_c0, toInt_int]
            rw [List.map_append] at this
            refine Tree.wp_mono this (fun ys hy => hy.trans ?_)
            cases intsCs rest with
            | none => rfl
            | some l => simp [insD])
      (a.cells.length + 1) 0 [] (by omega) (by omega) (by simpa using hl)
    exact key
theorem array_Int_sp (z : Int) (hz : inR z) : Sp 64 [.int z] [dC (intC z)] := by
  refine sound_ 0 (array_Int_tree _ _) (wp_call (ratio_Of_sp z hz) (wp_ret ?_))
  rw [dC_eq]; rfl
def chrC (c : Int) : Cell := ⟨0, 1, .zero, c, []⟩
theorem array_Chr_sp (z : Int) : Sp 128 [.int z] [dC (chrC z)] := by
  refine sound_ 0 (array_Chr_tree _ _) (wp_ret ?_)
  rw [dC_eq]; rfl
theorem inR0 : inR 0 := by unfold inR; decide
theorem array_Fill_sp (a : Arr) : Sp 86 [dA a] [dC (fillC a)] := by
  refine sound_ 0 (array_Fill_tree _ _) ?_
  simp only [dA_0, dA_1, dA_2, dC_0, dC_1, dC_2, dC_3, dC_4, dN_0, dN_1, dN_2, els_sl, els_dI, els_dL, List.length_map, Int.toNat_natCast, toInt_int, toInt_dB, toBool_bool, getD_c0, getD_c1, int_beq, int_bne, not_dec, dInt_dB, Int.toNat_zero]
  unfold fillC
  match hc : a.cells with
  | [] => exact wp_dec (by simp) (wp_call (array_Int_sp 0 inR0) (wp_ret rfl))
  | c :: cs =>
    refine wp_ndec (by simp; omega) (wp_call (array_Int_sp 0 inR0) (wp_dec (by omega) (wp_dec (by simp) ?_)))
    simp only [List.map_cons, getD_c0, dA_0, dA_1, dA_2, dC_0, dC_1, dC_2, dC_3, dC_4, dN_0, dN_1, dN_2, els_sl, els_dI, els_dL, List.length_map, Int.toNat_natCast, toInt_int, toInt_dB, toBool_bool, getD_c0, getD_c1, int_beq, int_bne, not_dec, dInt_dB, Int.toNat_zero]
    refine wp_decs (fun h => wp_call (array_Chr_sp 32) (wp_dec (by omega) (wp_dec (by simp) (wp_ret ?_)))) (fun h => wp_dec (by omega) (wp_dec (by simp) (wp_ret ?_)))
    · rw [if_pos h, dC_eq]
      simp only [dA_0, dA_1, dA_2, dC_0, dC_1, dC_2, dC_3, dC_4, dN_0, dN_1, dN_2, els_sl, els_dI, els_dL, List.length_map, Int.toNat_natCast, toInt_int, toInt_dB, toBool_bool, getD_c0, getD_c1, int_beq, int_bne, not_dec, dInt_dB, Int.toNat_zero]; rfl
    · rw [if_neg h, dC_eq]
      simp only [dA_0, dA_1, dA_2, dC_0, dC_1, dC_2, dC_3, dC_4, dN_0, dN_1, dN_2, els_sl, els_dI, els_dL, List.length_map, Int.toNat_natCast, toInt_int, toInt_dB, toBool_bool, getD_c0, getD_c1, int_beq, int_bne, not_dec, dInt_dB, Int.toNat_zero]; rfl
end Go.Proofs.YtbgcadcpeabpgaaGreat
set_option maxRecDepth 100000
namespace Go.Proofs.YtbgcadcpeabpgaaGreat

theorem lb_one : lb 1 = [1] := by rw [lb_pos (by decide), show 1 / B = 0 by decide, lb_zero]; rfl
theorem numT_ofZ (z : Int) : numT (ofZ z) = z := zv_wz z
theorem numB_ofZ (z : Int) : numB (ofZ z) = 1 := by simp [numB, ofZ, nv]
theorem lb_inR {z : Int} (h : inR z) : (lb z.natAbs).length ≤ 2 := lb_len.2 (by unfold inR at h; show z.natAbs < 18446744073709551616; omega)
theorem rightN_ofZ {z : Int} (h : inR z) : rightN (ofZ z) = true := by
  have hl := lb_inR h
  unfold rightN
  rw [numT_ofZ, numB_ofZ]
  refine decide_eq_true ⟨by simp only [ofZ]; omega, by simp [ofZ], ?_⟩
  unfold mkR
  simp only [Int.natAbs_one, Nat.gcd_one_right, Nat.div_one, lb_one]
  rw [if_neg (by decide), if_neg (by simp only [List.length_cons, List.length_nil]; omega)]
  unfold ofZ
  congr 2
  by_cases hz : z < 0
  · have : 0 < (lb z.natAbs).length := by
      rcases Nat.eq_zero_or_pos (lb z.natAbs).length with h0 | h0
      · have := lb_len0.1 h0; omega
      · exact h0
    simp [hz, this]
  · simp [hz]
theorem smallN_ofZ {z : Int} (h : inR z) : smallN (ofZ z) = some z := by
  unfold smallN smO
  rw [if_pos (show (ofZ z).bot = [1] from rfl), numT_ofZ, if_pos h]
theorem rightN_len {n : Num} (h : rightN n = true) : n.top.length ≤ 32 ∧ n.bot.length ≤ 32 := by
  have := of_decide_eq_true h
  exact ⟨this.1, this.2.1⟩
theorem rightC_len {d : Nat} {c : Cell} (h : rightC d c = true) : c.n.top.length ≤ 32 ∧ c.n.bot.length ≤ 32 ∧ c.inn.length ≤ 1 := by
  suffices key : ∀ k r, cellR k r c = true → c.n.top.length ≤ 32 ∧ c.n.bot.length ≤ 32 ∧ c.inn.length ≤ 1 by
    cases d with
    | zero => exact key _ _ h
    | succ d => exact key _ _ h
  intro k r h
  unfold cellR at h
  split at h
  · simp only [Bool.and_eq_true, decide_eq_true_eq] at h
    exact ⟨(rightN_len h.2).1, (rightN_len h.2).2, by omega⟩
  split at h
  · simp only [Bool.and_eq_true, decide_eq_true_eq] at h
    rw [h.1.1]; exact ⟨by decide, by decide, by omega⟩
  · simp only [Bool.and_eq_true, decide_eq_true_eq] at h
    rw [h.1.2.1]
    refine ⟨by decide, by decide, ?_⟩
    have hb := h.2.2
    unfold boxOK at hb
    split at hb
    · rename_i hi; rw [hi]; simp
    · cases hb
theorem rightA_cells {d : Nat} {a : Arr} (h : rightA d a = true) : countS a.shape = ((a.cells.length : Int), 0) ∧ ∀ c ∈ a.cells, rightC d c = true := by
  rw [rightA_eq] at h
  simp only [Bool.and_eq_true, decide_eq_true_eq, List.all_eq_true] at h
  exact h
theorem rightA_of {d : Nat} {a : Arr} (h1 : countS a.shape = ((a.cells.length : Int), 0)) (h2 : ∀ c ∈ a.cells, rightC d c = true) : rightA d a = true := by
  rw [rightA_eq]
  simp only [Bool.and_eq_true, decide_eq_true_eq, List.all_eq_true]
  exact ⟨h1, h2⟩
theorem rightA_len {d : Nat} {a : Arr} (h : rightA d a = true) : a.cells.length ≤ 2048 ∧ a.shape.length ≤ 6 ∧ ∀ x ∈ a.shape, 0 ≤ x ∧ x ≤ 2048 := by
  have h1 := (rightA_cells h).1
  have h2 := countS_le a.shape
  have h3 := countS_len (l := a.shape) (by rw [h1])
  rw [h1] at h2
  exact ⟨by simp only at h2; omega, h3⟩
theorem rightA_top {d : Nat} {a : Arr} (h : rightA d a = true) : ∀ c ∈ a.cells, c.n.top.length ≤ 32 := fun c hc => (rightC_len ((rightA_cells h).2 c hc)).1
theorem rightC_int {z : Int} (d : Nat) (h : inR z) : rightC d (intC z) = true := by
  have : ∀ k r, cellR k r (intC z) = true := by
    intro k r
    unfold cellR
    rw [if_pos (show (intC z).kind = 0 from rfl)]
    have := rightN_ofZ h
    simp only [intC, this]; rfl
  cases d <;> exact this _ _
theorem fitsC_int {z : Int} (h : inR z) : FitsC (intC z) := by
  have := lb_inR h
  refine ⟨?_, ?_, ?_, ?_⟩
  · simp only [intC, ofZ]; omega
  · simp [intC, ofZ]
  · simp [intC]
  · simp [intC]
theorem inR_small {z : Int} (h1 : -100000 ≤ z) (h2 : z ≤ 100000) : inR z := by unfold inR; omega
theorem fits_vec {l : List Int} {s : Lab} (hl : l.length ≤ 100000) (h : ∀ x ∈ l, inR x) : Fits (.mk s [(l.length : Int)] (l.map intC)) := by
  refine Fits.of (by simp) (by simp; omega) ?_ ?_
  · intro x hx; simp only [List.mem_singleton] at hx; subst hx; exact inR_small (by omega) (by omega)
  · intro c hc
    obtain ⟨z, hz, rfl⟩ := List.mem_map.1 hc
    exact fitsC_int (h z hz)
theorem fits_none : Fits .none := Fits.of (by simp) (by simp) (by simp) (by simp)
end Go.Proofs.YtbgcadcpeabpgaaGreat
set_option maxRecDepth 100000
namespace Go.Proofs.YtbgcadcpeabpgaaGreat

/-- No list is long, and there are not more than so many arrays within one another. -/
def Sml : Nat → Arr → Prop
  | 0, _ => False
  | d + 1, a => a.shape.length ≤ 1048576 ∧ a.cells.length ≤ 1048576 ∧ (∀ x ∈ a.shape, inR x) ∧ ∀ c ∈ a.cells, c.n.top.length ≤ 1048576 ∧ c.n.bot.length ≤ 1048576 ∧ c.inn.length ≤ 1048576 ∧ ∀ x ∈ c.inn, Sml d x
def SmlC (d : Nat) (c : Cell) : Prop := c.n.top.length ≤ 1048576 ∧ c.n.bot.length ≤ 1048576 ∧ c.inn.length ≤ 1048576 ∧ ∀ x ∈ c.inn, Sml d x
theorem Sml.succ {d : Nat} {a : Arr} (h : Sml d a) : ∃ e, d = e + 1 := by
  cases d with
  | zero => exact h.elim
  | succ e => exact ⟨e, rfl⟩
theorem Sml.cell {d : Nat} {a : Arr} (h : Sml (d + 1) a) : ∀ c ∈ a.cells, SmlC d c := h.2.2.2
theorem Sml.of {d : Nat} {a : Arr} (h1 : a.shape.length ≤ 1048576) (h2 : a.cells.length ≤ 1048576) (h3 : ∀ x ∈ a.shape, inR x) (h4 : ∀ c ∈ a.cells, SmlC d c) : Sml (d + 1) a := ⟨h1, h2, h3, h4⟩
theorem Sml.fits : ∀ {d : Nat} {a : Arr}, Sml d a → Fits a
  | 0, _, h => h.elim
  | d + 1, .mk s sh cs, ⟨h1, h2, h3, h4⟩ => by
    have h1' : sh.length ≤ 1048576 := h1
    have h2' : cs.length ≤ 1048576 := h2
    refine Fits.of (by omega) (by omega) h3 (fun c hc => ?_)
    obtain ⟨g1, g2, g3, g4⟩ := h4 c hc
    exact ⟨by omega, by omega, by omega, fun x hx => (g4 x hx).fits⟩
theorem SmlC.fits {d : Nat} {c : Cell} (h : SmlC d c) : FitsC c := ⟨by have := h.1; omega, by have := h.2.1; omega, by have := h.2.2.1; omega, fun x hx => (h.2.2.2 x hx).fits⟩
theorem Sml.mono : ∀ {d e : Nat} {a : Arr}, Sml d a → d ≤ e → Sml e a
  | 0, _, _, h, _ => h.elim
  | d + 1, 0, _, _, hle => by omega
  | d + 1, e + 1, a, ⟨h1, h2, h3, h4⟩, hle => ⟨h1, h2, h3, fun c hc => ⟨(h4 c hc).1, (h4 c hc).2.1, (h4 c hc).2.2.1, fun x hx => ((h4 c hc).2.2.2 x hx).mono (by omega)⟩⟩
theorem SmlC.mono {d e : Nat} {c : Cell} (h : SmlC d c) (hle : d ≤ e) : SmlC e c := ⟨h.1, h.2.1, h.2.2.1, fun x hx => (h.2.2.2 x hx).mono hle⟩

/-- What is in a right cell. -/
theorem rightC_inn {d : Nat} {c : Cell} (h : rightC d c = true) : ∀ x ∈ c.inn, ∃ e, d = e + 1 ∧ simpleA x = false ∧ rightA e x = true ∧ c.inn = [x] ∧ c.kind = 2 := by
  have key : ∀ k r, cellR k r c = true → ∀ x ∈ c.inn, k = true ∧ simpleA x = false ∧ r x = true ∧ c.inn = [x] ∧ c.kind = 2 := by
    intro k r h x hx
    unfold cellR at h
    split at h
    · simp only [Bool.and_eq_true, decide_eq_true_eq] at h
      rw [List.length_eq_zero_iff.1 h.1.2] at hx; cases hx
    split at h
    · simp only [Bool.and_eq_true, decide_eq_true_eq] at h
      rw [List.length_eq_zero_iff.1 h.1.2] at hx; cases hx
    · simp only [Bool.and_eq_true, decide_eq_true_eq] at h
      obtain ⟨h1, h2, h3⟩ := h
      unfold boxOK at h3
      split at h3
      · rename_i y hy
        rw [hy] at hx ⊢
        have : x = y := by simpa using hx
        subst this
        simp only [Bool.and_eq_true, Bool.not_eq_true'] at h3
        exact ⟨h2, h3.1, h3.2, rfl, h1.1⟩
      · cases h3
  cases d with
  | zero => intro x hx; exact absurd (key _ _ h x hx).1 (by simp)
  | succ e => intro x hx; exact ⟨e, rfl, (key _ _ h x hx).2⟩
theorem rightA_sml : ∀ {d : Nat} {a : Arr}, rightA d a = true → Sml (d + 1) a
  | 0, a, h => by
    have hl := rightA_len h
    refine ⟨by omega, by omega, fun x hx => inR_small (by have := hl.2.2 x hx; omega) (by have := hl.2.2 x hx; omega), fun c hc => ?_⟩
    have hc' := (rightA_cells h).2 c hc
    have := rightC_len hc'
    exact ⟨by omega, by omega, by omega, fun x hx => by obtain ⟨e, he, _⟩ := rightC_inn hc' x hx; omega⟩
  | d + 1, a, h => by
    have hl := rightA_len h
    refine ⟨by omega, by omega, fun x hx => inR_small (by have := hl.2.2 x hx; omega) (by have := hl.2.2 x hx; omega), fun c hc => ?_⟩
    have hc' := (rightA_cells h).2 c hc
    have := rightC_len hc'
    refine ⟨by omega, by omega, by omega, fun x hx => ?_⟩
    obtain ⟨e, he, _, hr, _⟩ := rightC_inn hc' x hx
    have : e = d := by omega
    subst this
    exact rightA_sml hr
theorem rightC_sml {d : Nat} {c : Cell} (h : rightC d c = true) : SmlC d c := by
  have := rightC_len h
  refine ⟨by omega, by omega, by omega, fun x hx => ?_⟩
  obtain ⟨e, rfl, _, hr, _⟩ := rightC_inn h x hx
  exact rightA_sml hr

theorem clone_tw (es : List D) (h : es.length ≤ 1048576) : Tw (.amb es.isEmpty (.ret [D.sl []]) (.br (decide (([] : List D).length + es.length ≤ bigN)) (.ret [D.sl ([] ++ es)]) .fail)) [D.sl es] := by
  refine wp_amb (fun h => wp_ret ?_) (wp_dec ?_ (wp_ret ?_))
  · rw [List.isEmpty_iff.1 h]
  · simp only [List.length_nil, bigN]; omega
  · rw [List.nil_append]
theorem clone_U_sp (l : List Limb) (h : l.length ≤ 1048576) : Sp 135 [dL l] [dL l] := sound_ 0 (slices_Clone_uint32_uint32_tree _ _) (by simp only [els_dL]; exact clone_tw _ (by simpa using h))
theorem clone_I_sp (l : List Int) (h : l.length ≤ 1048576) : Sp 82 [dI l] [dI l] := sound_ 0 (slices_Clone_int_int_tree _ _) (by simp only [els_dI]; exact clone_tw _ (by simpa using h))
theorem clone_A_sp (l : List Arr) (h : l.length ≤ 1048576) : Sp 136 [.sl (l.map dA)] [.sl (l.map dA)] := sound_ 0 (slices_Clone_api_Array_api_Array_tree _ _) (by simp only [els_sl]; exact clone_tw _ (by simpa using h))
theorem array_own_sp {d : Nat} (c : Cell) (h : SmlC d c) : Sp 103 [dC c] [dC c] := by
  refine sound_ 0 (array_own_tree _ _) ?_
  simp only [dA_0, dA_1, dA_2, dC_0, dC_1, dC_2, dC_3, dC_4, dN_0, dN_1, dN_2, els_sl, els_dI, els_dL, List.length_map, Int.toNat_natCast, toInt_int, toInt_dB, toBool_bool, getD_c0, getD_c1, int_beq, int_bne, not_dec, dInt_dB, Int.toNat_zero]
  refine wp_call (clone_U_sp _ h.1) (wp_call (clone_U_sp _ h.2.1) (wp_call (clone_A_sp _ h.2.2.1) (wp_ret ?_)))
  simp only [getD_c0, els_dL, els_sl, dsl_dL]
  rw [dC_eq]; rfl
def oneA (c : Cell) : Arr := .mk 0 [] [c]
def vectA (l : List Cell) : Arr := .mk 0 [(l.length : Int)] l
def raiseA (a : Arr) (l : Lab) : Arr := .mk (a.s ||| l) a.shape a.cells
theorem set_next {α : Type} {f : α → D} {z : D} (pre : List α) (x : α) (k : Nat) : ((pre.map f) ++ List.replicate (k + 1) z).set pre.length (f x) = ((pre ++ [x]).map f) ++ List.replicate k z := by
  rw [List.set_append_right _ _ (by simp), List.length_map, Nat.sub_self, List.replicate_succ, List.set_cons_zero]
  simp
theorem dA_none : D.agg [D.int 0, D.sl [], D.sl []] = dA .none := by rw [dA_eq]; rfl
theorem dC_none' : D.agg [D.int 0, D.int 0, D.agg [D.bool false, D.sl [], D.sl []], D.int 0, D.sl []] = dC Cell.none := by rw [dC_eq]; rfl
theorem array_Vector_sp {d : Nat} (l : List Cell) (h : ∀ c ∈ l, SmlC d c) (hl : l.length ≤ 1048576) : Sp 66 [.sl (l.map dC)] [dA (vectA l)] := by
  refine sound_ (l.length + 1) (array_Vector_tree _ _) ?_
  simp only [dA_0, dA_1, dA_2, dC_0, dC_1, dC_2, dC_3, dC_4, dN_0, dN_1, dN_2, els_sl, els_dI, els_dL, List.length_map, Int.toNat_natCast, toInt_int, toInt_dB, toBool_bool, getD_c0, getD_c1, int_beq, int_bne, not_dec, dInt_dB, Int.toNat_zero, dC_none']
  refine wp_dec (by omega) (wp_dec (by omega) (wp_dec (by simp only [bigN]; omega) ?_))
  have key := loop_list (P := Tryz.prog) (md := md) l (fun m k (cs : List D) => array_Vector_l3 (l.length + 1) m (.sl (l.map dC)) cs (.sl (l.map dC)) (l.length : Int) (k : Int) 0) (fun _ _ => [dA (vectA l)])
    (fun rest cs => ∃ pre, l = pre ++ rest ∧ cs = pre.map dC ++ List.replicate rest.length (dC Cell.none))
    (fun m k cs hk hI => by
      obtain ⟨pre, h1, rfl⟩ := hI
      simp only [array_Vector_l3_succ, dA_0, dA_1, dA_2, dC_0, dC_1, dC_2, dC_3, dC_4, dN_0, dN_1, dN_2, els_sl, els_dI, els_dL, List.length_map, Int.toNat_natCast, toInt_int, toInt_dB, toBool_bool, getD_c0, getD_c1, int_beq, int_bne, not_dec, dInt_dB, Int.toNat_zero]
      refine wp_ndec (by omega) (wp_ret ?_)
      rw [List.append_nil] at h1
      rw [dA_eq, vectA]; subst h1; simp [dI]; rfl)
    (fun m k cs c rest hdr hI ih => by
      obtain ⟨h1, h2, h3⟩ := drop_cons hdr
      obtain ⟨pre, hp, rfl⟩ := hI
      have hk : k = pre.length := by
        have := congrArg List.length hdr
        rw [hp] at this h1
        simp at this h1; omega
      simp only [array_Vector_l3_succ, dA_0, dA_1, dA_2, dC_0, dC_1, dC_2, dC_3, dC_4, dN_0, dN_1, dN_2, els_sl, els_dI, els_dL, List.length_map, Int.toNat_natCast, toInt_int, toInt_dB, toBool_bool, getD_c0, getD_c1, int_beq, int_bne, not_dec, dInt_dB, Int.toNat_zero, getD_map h2, wrap_succ (show k < 9223372036854775807 by omega)]
      repeat (refine wp_dec (by omega) ?_)
      refine wp_call (array_own_sp c (h c (List.mem_of_getElem? h2))) ?_
      have hlen : (pre.map dC ++ List.replicate (rest.length + 1) (dC Cell.none)).length = l.length := by rw [hp]; simp
      rw [List.length_cons, hlen]
      refine wp_dec (by omega) (wp_dec (by omega) ?_)
      rw [getD_c0, hk, set_next, ← hk]
      exact ih _ ⟨pre ++ [c], by rw [hp]; simp, rfl⟩)
    (l.length + 1) 0 (List.replicate l.length (dC Cell.none)) (by omega) (by omega) ⟨[], by simp, by simp⟩
  exact key
theorem array_Raise_sp (a : Arr) (l : Lab) : Sp 65 [dA a, dB l] [dA (raiseA a l)] := by
  refine sound_ 0 (array_Raise_tree _ _ _) ?_
  simp only [dA_0, dA_1, dA_2, dC_0, dC_1, dC_2, dC_3, dC_4, dN_0, dN_1, dN_2, els_sl, els_dI, els_dL, List.length_map, Int.toNat_natCast, toInt_int, toInt_dB, toBool_bool, getD_c0, getD_c1, int_beq, int_bne, not_dec, dInt_dB, Int.toNat_zero]
  refine wp_call (label_Join_sp a.s l) (wp_ret ?_)
  rw [dA_eq]; rfl
/-- A cell as an array. -/
def unpC (c : Cell) : Arr := match c.inn with
  | [x] => if c.kind = 2 then raiseA x c.l else .mk c.l [] [c]
  | _ => .mk c.l [] [c]
theorem raise_one (c : Cell) : raiseA (oneA c) c.l = .mk c.l [] [c] := by simp [raiseA, oneA]
theorem unpC_neg {c : Cell} (h : ¬ (c.kind = 2 ∧ c.inn.length = 1)) : unpC c = .mk c.l [] [c] := by
  unfold unpC
  split
  · rename_i x hx
    rw [if_neg (fun hk => h ⟨hk, by rw [hx]; rfl⟩)]
  · rfl
theorem unpC_pos {c : Cell} {x : Arr} (h : c.kind = 2) (hx : c.inn = [x]) : unpC c = raiseA x c.l := by unfold unpC; rw [hx]; simp [h]
theorem len_one {α : Type} {l : List α} (h : l.length = 1) : ∃ x, l = [x] := by
  match l, h with
  | [x], _ => exact ⟨x, rfl⟩
/-- An array as a cell. -/
def packC (a : Arr) : Cell := match a.shape, a.cells with
  | [], [c] => ⟨c.l ||| a.s, c.kind, c.n, c.c, c.inn⟩
  | _, _ => ⟨a.s, 2, .zero, 0, [a]⟩
theorem packC_pos {a : Arr} {c : Cell} (h : a.shape = []) (hc : a.cells = [c]) : packC a = ⟨c.l ||| a.s, c.kind, c.n, c.c, c.inn⟩ := by unfold packC; rw [h, hc]
theorem packC_neg {a : Arr} (h : ¬ (a.shape.length = 0 ∧ a.cells.length = 1)) : packC a = ⟨a.s, 2, .zero, 0, [a]⟩ := by
  unfold packC
  match hs : a.shape, hc : a.cells with
  | [], [c] => rw [hs, hc] at h; simp at h
  | x :: xs, _ => rfl
  | [], [] => rfl
  | [], x :: y :: xs => rfl
theorem dC_box (l : Lab) (a : Arr) : D.agg [dB l, D.int 2, D.agg [D.bool false, D.sl [], D.sl []], D.int 0, D.sl [dA a]] = dC ⟨l, 2, .zero, 0, [a]⟩ := by rw [dC_eq]; rfl
mutual
def relA (g : Lab → Lab) : Arr → Arr
  | .mk s sh cs => .mk (g s) sh (relCs g cs)
def relCs (g : Lab → Lab) : List (CellF Arr) → List (CellF Arr)
  | [] => []
  | c :: cs => relC g c :: relCs g cs
def relC (g : Lab → Lab) : CellF Arr → CellF Arr
  | ⟨l, k, n, c, inn⟩ => ⟨g l, k, n, c, relAs g inn⟩
def relAs (g : Lab → Lab) : List Arr → List Arr
  | [] => []
  | a :: as_ => relA g a :: relAs g as_
end
theorem relCs_map (g : Lab → Lab) : ∀ cs, relCs g cs = cs.map (relC g)
  | [] => by simp [relCs]
  | c :: cs => by simp [relCs, relCs_map g cs]
theorem relAs_map (g : Lab → Lab) : ∀ as_, relAs g as_ = as_.map (relA g)
  | [] => by simp [relAs]
  | a :: as_ => by simp [relAs, relAs_map g as_]
theorem relA_eq (g : Lab → Lab) (a : Arr) : relA g a = .mk (g a.s) a.shape (a.cells.map (relC g)) := by cases a; simp [relA, relCs_map]
theorem relC_eq (g : Lab → Lab) (c : Cell) : relC g c = ⟨g c.l, c.kind, c.n, c.c, c.inn.map (relA g)⟩ := by cases c; simp [relC, relAs_map]
theorem relC_id_of (g : Lab → Lab) (hg : ∀ l, g l = l) (c : Cell) (h : ∀ x ∈ c.inn, relA g x = x) : relC g c = c := by
  rw [relC_eq, hg]
  have : c.inn.map (relA g) = c.inn := by conv => rhs; rw [← List.map_id c.inn]
                                          exact List.map_congr_left h
  rw [this]
theorem relA_id (g : Lab → Lab) (hg : ∀ l, g l = l) (a : Arr) : relA g a = a := by
  induction a using Arr.ind with
  | h s sh cs IH =>
    rw [relA_eq, hg]
    have : cs.map (relC g) = cs := by
      conv => rhs; rw [← List.map_id cs]
      exact List.map_congr_left (fun c hc => relC_id_of g hg c (IH c hc))
    show Arr.mk s sh (cs.map (relC g)) = _
    rw [this]
theorem relA_sml {g : Lab → Lab} : ∀ {d : Nat} {a : Arr}, Sml d a → Sml d (relA g a)
  | 0, _, h => h.elim
  | d + 1, a, ⟨h1, h2, h3, h4⟩ => by
    rw [relA_eq]
    refine ⟨h1, by simpa using h2, h3, fun c hc => ?_⟩
    obtain ⟨c', hc', rfl⟩ := List.mem_map.1 hc
    obtain ⟨g1, g2, g3, g4⟩ := h4 c' hc'
    rw [relC_eq]
    refine ⟨g1, g2, by simpa using g3, fun x hx => ?_⟩
    obtain ⟨y, hy, rfl⟩ := List.mem_map.1 hx
    exact relA_sml (g4 y hy)
theorem relC_sml {g : Lab → Lab} {d : Nat} {c : Cell} (h : SmlC d c) : SmlC d (relC g c) := by
  rw [relC_eq]
  refine ⟨h.1, h.2.1, by simpa using h.2.2.1, fun x hx => ?_⟩
  obtain ⟨y, hy, rfl⟩ := List.mem_map.1 hx
  exact relA_sml (h.2.2.2 y hy)
def cvr (l : Lab) (er : Bool) (x : Lab) : Lab := if er then l else x ||| l
def eraA (a : Arr) : Arr := relA (fun _ => 0) a
noncomputable def matA (a b : Arr) : Bool := eqA (eraA a) (eraA b)
end Go.Proofs.YtbgcadcpeabpgaaGreat
set_option maxRecDepth 100000
namespace Go.Proofs.YtbgcadcpeabpgaaGreat

/-- A loop that asks whether two lists are the same, as they are seen. -/
theorem same_loopF {α β : Type} {P : Program} {md : Nat → FMode} (φ : α → β) (a b : List α) (e : α → α → Bool) (he : ∀ x ∈ a, ∀ y, e x y = true ↔ φ x = φ y) (hlen : a.length = b.length) (r : Bool) (hr : r = true ↔ a.map φ = b.map φ) (L : Nat → Nat → Tree)
    (hend : ∀ m, ∀ Q : List D → Prop, Q [.bool true] → (L (m + 1) a.length).wp P md Q)
    (hstep : ∀ m k x y, ∀ Q : List D → Prop, a[k]? = some x → b[k]? = some y → (e x y = false → Q [.bool false]) → (e x y = true → (L m (k + 1)).wp P md Q) → (L (m + 1) k).wp P md Q) (N : Nat) (hN : a.length < N) : (L N 0).wp P md (fun zs => zs = [.bool r]) := by
  have key := loop_up (P := P) (md := md) a.length (fun m k (_ : Unit) => L m k) (fun _ _ => [.bool r]) (fun k _ => (a.take k).map φ = (b.take k).map φ)
    (fun m s h => by
      refine hend m _ ?_
      rw [List.take_of_length_le (Nat.le_refl _), List.take_of_length_le (by omega)] at h
      rw [hr.2 h])
    (fun m k s hk h ih => by
      have ha : a[k]? = some a[k] := List.getElem?_eq_getElem _
      have hb : b[k]? = some (b[k]'(by omega)) := List.getElem?_eq_getElem _
      refine hstep m k _ _ _ ha hb (fun hf => ?_) (fun ht => ih () ?_)
      · have : r = false := by
          cases hrr : r with
          | false => rfl
          | true =>
            have h2 := hr.1 hrr
            have h3 : (a.map φ)[k]? = (b.map φ)[k]? := by rw [h2]
            rw [List.getElem?_map, List.getElem?_map, ha, hb] at h3
            have h4 : φ a[k] = φ b[k] := by simpa using h3
            rw [(he a[k] (List.getElem_mem _) _).2 h4] at hf; cases hf
        rw [this]
      · have : φ a[k] = φ b[k] := (he a[k] (List.getElem_mem _) _).1 ht
        rw [List.take_succ_eq_append_getElem hk, List.take_succ_eq_append_getElem (by omega), List.map_append, List.map_append, h]
        simp [this])
    N 0 () (by omega) (by omega) (by simp)
  exact key
/-- As an array is seen: with labels, or without. -/
def gl (lb : Bool) (l : Lab) : Lab := if lb then l else 0
noncomputable def eqL (lb : Bool) (a b : Arr) : Bool := eqA (relA (gl lb) a) (relA (gl lb) b)
noncomputable def eqLC (lb : Bool) (a b : Cell) : Bool := eqC (relC (gl lb) a) (relC (gl lb) b)
theorem eqL_true (a b : Arr) : eqL true a b = eqA a b := by unfold eqL; rw [relA_id (gl true) (fun _ => rfl) a, relA_id (gl true) (fun _ => rfl) b]
noncomputable def pd (p : Prop) : Bool := @decide p (Classical.propDecidable _)
theorem pd_iff {p : Prop} : pd p = true ↔ p := @decide_eq_true_iff _ (Classical.propDecidable _)
theorem pd_not {p : Prop} (h : ¬ p) : pd p = false := @decide_eq_false _ (Classical.propDecidable _) h
theorem ite_max {o x : Nat} {z : Int} (h : z = (x : Int)) : (if (o : Int) < z then z else (o : Int)) = ((max o x : Nat) : Int) := by subst h; split <;> omega
theorem eqL_false (a b : Arr) : eqL false a b = matA a b := rfl
theorem eqL_iff {lb : Bool} {a b : Arr} : eqL lb a b = true ↔ relA (gl lb) a = relA (gl lb) b := eqA_iff
theorem eqLC_iff {lb : Bool} {a b : Cell} : eqLC lb a b = true ↔ relC (gl lb) a = relC (gl lb) b := eqC_iff
theorem eqLC_iff' {lb : Bool} {a b : Cell} : eqLC lb a b = true ↔ (gl lb a.l = gl lb b.l ∧ a.kind = b.kind ∧ a.c = b.c ∧ a.n = b.n ∧ a.inn.map (relA (gl lb)) = b.inn.map (relA (gl lb))) := by rw [eqLC_iff, relC_eq, relC_eq, cell_eq]
theorem eqL_iff' {lb : Bool} {a b : Arr} : eqL lb a b = true ↔ (gl lb a.s = gl lb b.s ∧ a.shape = b.shape ∧ a.cells.map (relC (gl lb)) = b.cells.map (relC (gl lb))) := by rw [eqL_iff, relA_eq, relA_eq, arr_eq]; simp
theorem bool_false {b : Bool} (h : ¬ b = true) : b = false := by cases b with | false => rfl | true => exact absurd rfl h
theorem array_equal_all (lb : Bool) : ∀ (d : Nat) (a b : Arr), Sml d a → Sp 67 [dA a, dA b, .bool lb] [.bool (eqL lb a b)]
  | 0, _, _, h => h.elim
  | d + 1, a, b, h => by
    have hcell : ∀ (x y : Cell), SmlC d x → Spec Tryz.prog md 106 [.ref 4] [dC x, dC y, D.ref (.bool lb)] [.bool (eqLC lb x y)] := fun x y hx => by
      have hlx := hx.2.2.1
      have hinn : Sp 108 [.sl (x.inn.map dA), .sl (y.inn.map dA), D.fn 109 [.ref 4] [D.ref (.bool lb)]] [.bool (pd (x.inn.map (relA (gl lb)) = y.inn.map (relA (gl lb))))] := by
        refine sound_ (x.inn.length + 1) (slices_EqualFunc_api_Array_api_Array_api_Array_api_Array_tree_array_equal_1_1 _ _ _ _) ?_
        simp only [dA_0, dA_1, dA_2, dC_0, dC_1, dC_2, dC_3, dC_4, dN_0, dN_1, dN_2, els_sl, els_dI, els_dL, List.length_map, Int.toNat_natCast, toInt_int, toInt_dB, toBool_bool, getD_c0, getD_c1, int_beq, int_bne, not_dec, dInt_dB, Int.toNat_zero]
        refine wp_decs (fun h => wp_ret ?_) (fun h => ?_)
        · rw [pd_not]
          intro hh; have := congrArg List.length hh; simp at this; omega
        · refine same_loopF (P := Tryz.prog) (md := md) (relA (gl lb)) x.inn y.inn (eqL lb) (fun p _ q => eqL_iff) (by omega) _ pd_iff (fun m k => slices_EqualFunc_api_Array_api_Array_api_Array_api_Array_l4 (x.inn.length + 1) m (.sl (y.inn.map dA)) (D.fn 109 [.ref 4] [D.ref (.bool lb)]) (.sl (x.inn.map dA)) (x.inn.length : Int) (k : Int)) ?_ ?_ (x.inn.length + 1) (by omega)
          · intro m Q hQ
            simp only [slices_EqualFunc_api_Array_api_Array_api_Array_api_Array_l4_succ_array_equal_1_1, dA_0, dA_1, dA_2, dC_0, dC_1, dC_2, dC_3, dC_4, dN_0, dN_1, dN_2, els_sl, els_dI, els_dL, List.length_map, Int.toNat_natCast, toInt_int, toInt_dB, toBool_bool, getD_c0, getD_c1, int_beq, int_bne, not_dec, dInt_dB, Int.toNat_zero]
            exact wp_ndec (by omega) (wp_ret hQ)
          · intro m k p q Q hp hq hF hT
            have hk : k < x.inn.length := (List.getElem?_eq_some_iff.1 hp).1
            have hk' : k < y.inn.length := (List.getElem?_eq_some_iff.1 hq).1
            simp only [slices_EqualFunc_api_Array_api_Array_api_Array_api_Array_l4_succ_array_equal_1_1, dA_0, dA_1, dA_2, dC_0, dC_1, dC_2, dC_3, dC_4, dN_0, dN_1, dN_2, els_sl, els_dI, els_dL, List.length_map, Int.toNat_natCast, toInt_int, toInt_dB, toBool_bool, getD_c0, getD_c1, int_beq, int_bne, not_dec, dInt_dB, Int.toNat_zero, getD_map hp, getD_map hq, wrap_succ (show k < 9223372036854775807 by omega), fnId_fn, fnCts_fn, fnDs_fn, List.cons_append, List.nil_append]
            repeat (refine wp_dec (by omega) ?_)
            refine wp_call (ys := [.bool (eqL lb p q)]) (sound_ 0 (array_equal_1_1_tree _ _ _ _) (wp_call (array_equal_all lb d p q (hx.2.2.2 p (List.mem_of_getElem? hp))) (wp_ret rfl))) ?_
            simp only [getD_c0, toBool_bool]
            exact wp_br (fun h => wp_ret (hF (by simpa using h))) (fun h => hT (by simpa using h))
      have fin : ∀ (hl : gl lb x.l = gl lb y.l), Tw (.br (decide (¬ x.kind = y.kind)) (.ret [D.bool false]) (.br (decide (¬ x.c = y.c)) (.ret [D.bool false]) (.call 107 [] [dN x.n, dN y.n] fun yy1 => .br (!((yy1.getD 0 D.nil).toBool)) (.ret [D.bool false]) (.call 108 [] [.sl (x.inn.map dA), .sl (y.inn.map dA), D.fn 109 [.ref 4] [D.ref (.bool lb)]] fun yy2 => .ret [D.bool ((yy2.getD 0 D.nil).toBool)])))) [.bool (eqLC lb x y)] := fun hl => by
        refine wp_decs (fun h => wp_ret ?_) (fun h2 => wp_decs (fun h => wp_ret ?_) (fun h3 => wp_call (ratio_Same_sp x.n y.n hx.fits.1 hx.fits.2.1) ?_))
        · rw [bool_false (fun hh => h (eqLC_iff'.1 hh).2.1)]
        · rw [bool_false (fun hh => h (eqLC_iff'.1 hh).2.2.1)]
        simp only [getD_c0, toBool_bool, not_dec]
        refine wp_decs (fun h => wp_ret ?_) (fun h4 => wp_call hinn (wp_ret ?_))
        · rw [bool_false (fun hh => h (eqLC_iff'.1 hh).2.2.2.1)]
        · simp only [getD_c0, toBool_bool]
          congr 2
          rw [Bool.eq_iff_iff, eqLC_iff', pd_iff]
          exact ⟨fun hh => ⟨hl, Classical.not_not.1 h2, Classical.not_not.1 h3, Classical.not_not.1 h4, hh⟩, fun hh => hh.2.2.2.2⟩
      refine sound_ 0 (array_equal_1_tree _ _ _ _) ?_
      simp only [dA_0, dA_1, dA_2, dC_0, dC_1, dC_2, dC_3, dC_4, dN_0, dN_1, dN_2, els_sl, els_dI, els_dL, List.length_map, Int.toNat_natCast, toInt_int, toInt_dB, toBool_bool, getD_c0, getD_c1, int_beq, int_bne, not_dec, dInt_dB, Int.toNat_zero, unref_ref]
      refine wp_br (fun hb => wp_decs (fun h => wp_ret ?_) (fun h1 => fin ?_)) (fun hb => fin ?_)
      · have hf : eqLC lb x y = false := bool_false (fun hh => h (by
          have := (eqLC_iff'.1 hh).1
          simp only [gl, hb, if_true] at this
          rw [this]))
        rw [hf]
      · simp only [gl, hb, if_true]; exact BitVec.eq_of_toNat_eq (by omega)
      · simp [gl, hb]
    have hcells : Sp 105 [.sl (a.cells.map dC), .sl (b.cells.map dC), D.fn 106 [.ref 4] [D.ref (.bool lb)]] [.bool (pd (a.cells.map (relC (gl lb)) = b.cells.map (relC (gl lb))))] := by
      have hla := h.2.1
      refine sound_ (a.cells.length + 1) (slices_EqualFunc_api_Cell_api_Cell_api_Cell_api_Cell_tree_array_equal_1 _ _ _ _) ?_
      simp only [dA_0, dA_1, dA_2, dC_0, dC_1, dC_2, dC_3, dC_4, dN_0, dN_1, dN_2, els_sl, els_dI, els_dL, List.length_map, Int.toNat_natCast, toInt_int, toInt_dB, toBool_bool, getD_c0, getD_c1, int_beq, int_bne, not_dec, dInt_dB, Int.toNat_zero]
      refine wp_decs (fun h => wp_ret ?_) (fun h' => ?_)
      · rw [pd_not]
        intro hh; have := congrArg List.length hh; simp at this; omega
      · refine same_loopF (P := Tryz.prog) (md := md) (relC (gl lb)) a.cells b.cells (eqLC lb) (fun p _ q => eqLC_iff) (by omega) _ pd_iff (fun m k => slices_EqualFunc_api_Cell_api_Cell_api_Cell_api_Cell_l4 (a.cells.length + 1) m (.sl (b.cells.map dC)) (D.fn 106 [.ref 4] [D.ref (.bool lb)]) (.sl (a.cells.map dC)) (a.cells.length : Int) (k : Int)) ?_ ?_ (a.cells.length + 1) (by omega)
        · intro m Q hQ
          simp only [slices_EqualFunc_api_Cell_api_Cell_api_Cell_api_Cell_l4_succ_array_equal_1, dA_0, dA_1, dA_2, dC_0, dC_1, dC_2, dC_3, dC_4, dN_0, dN_1, dN_2, els_sl, els_dI, els_dL, List.length_map, Int.toNat_natCast, toInt_int, toInt_dB, toBool_bool, getD_c0, getD_c1, int_beq, int_bne, not_dec, dInt_dB, Int.toNat_zero]
          exact wp_ndec (by omega) (wp_ret hQ)
        · intro m k p q Q hp hq hF hT
          have hk : k < a.cells.length := (List.getElem?_eq_some_iff.1 hp).1
          have hk' : k < b.cells.length := (List.getElem?_eq_some_iff.1 hq).1
          simp only [slices_EqualFunc_api_Cell_api_Cell_api_Cell_api_Cell_l4_succ_array_equal_1, dA_0, dA_1, dA_2, dC_0, dC_1, dC_2, dC_3, dC_4, dN_0, dN_1, dN_2, els_sl, els_dI, els_dL, List.length_map, Int.toNat_natCast, toInt_int, toInt_dB, toBool_bool, getD_c0, getD_c1, int_beq, int_bne, not_dec, dInt_dB, Int.toNat_zero, getD_map hp, getD_map hq, wrap_succ (show k < 9223372036854775807 by omega), fnId_fn, fnCts_fn, fnDs_fn, List.cons_append, List.nil_append]
          repeat (refine wp_dec (by omega) ?_)
          refine wp_call (hcell p q (h.cell p (List.mem_of_getElem? hp))) ?_
          simp only [getD_c0, toBool_bool]
          exact wp_br (fun h => wp_ret (hF (by simpa using h))) (fun h => hT (by simpa using h))
    have fin : ∀ (hl : gl lb a.s = gl lb b.s), Tw (.call 104 [] [dI a.shape, dI b.shape] fun yy1 => .br (!((yy1.getD 0 D.nil).toBool)) (.ret [D.bool false]) (.call 105 [] [.sl (a.cells.map dC), .sl (b.cells.map dC), D.fn 106 [.ref 4] [D.ref (.bool lb)]] fun yy2 => .ret [D.bool ((yy2.getD 0 D.nil).toBool)])) [.bool (eqL lb a b)] := fun hl => by
      refine wp_call (slices_EqualI_sp a.shape b.shape (by have := h.1; omega)) ?_
      simp only [getD_c0, toBool_bool, not_dec]
      refine wp_decs (fun h => wp_ret ?_) (fun h1 => wp_call hcells (wp_ret ?_))
      · rw [bool_false (fun hh => h (eqL_iff'.1 hh).2.1)]
      · simp only [getD_c0, toBool_bool]
        congr 2
        rw [Bool.eq_iff_iff, eqL_iff', pd_iff]
        exact ⟨fun hh => ⟨hl, Classical.not_not.1 h1, hh⟩, fun hh => hh.2.2⟩
    refine sound_ 0 (array_equal_tree _ _ _ _) ?_
    simp only [dA_0, dA_1, dA_2, dC_0, dC_1, dC_2, dC_3, dC_4, dN_0, dN_1, dN_2, els_sl, els_dI, els_dL, List.length_map, Int.toNat_natCast, toInt_int, toInt_dB, toBool_bool, getD_c0, getD_c1, int_beq, int_bne, not_dec, dInt_dB, Int.toNat_zero]
    refine wp_br (fun hb => wp_decs (fun h => wp_ret ?_) (fun h1 => fin ?_)) (fun hb => fin ?_)
    · have hf : eqL lb a b = false := bool_false (fun hh => h (by
        have := (eqL_iff'.1 hh).1
        simp only [gl, hb, if_true] at this
        rw [this]))
      rw [hf]
    · simp only [gl, hb, if_true]; exact BitVec.eq_of_toNat_eq (by omega)
    · simp [gl, hb]
theorem array_Same_sp {d : Nat} (a b : Arr) (h : Sml d a) : Sp 30 [dA a, dA b] [.bool (eqA a b)] := sound_ 0 (array_Same_tree _ _ _) (wp_call (array_equal_all true d a b h) (wp_ret (by rw [eqL_true]; rfl)))
mutual
def depA : Arr → Nat
  | .mk s sh cs => if simpleA (.mk s sh cs) then 0 else depCs cs + 1
def depCs : List (CellF Arr) → Nat
  | [] => 0
  | c :: cs => max (depC c) (depCs cs)
def depC : CellF Arr → Nat
  | ⟨_, _, _, _, inn⟩ => depAs inn
def depAs : List Arr → Nat
  | [] => 0
  | a :: as_ => max (depA a) (depAs as_)
end
theorem depA_eq (a : Arr) : depA a = if simpleA a then 0 else depCs a.cells + 1 := by cases a; rw [depA]; rfl
theorem depC_eq (c : Cell) : depC c = depAs c.inn := by cases c; rw [depC]
theorem depCs_le {k : Nat} : ∀ {cs : List Cell}, (∀ c ∈ cs, depC c ≤ k) → depCs cs ≤ k
  | [], _ => by rw [depCs]; omega
  | c :: cs, h => by
    have h1 := h c (by simp)
    have h2 := depCs_le (fun x hx => h x (List.mem_cons_of_mem _ hx))
    rw [depCs]; omega
theorem depAs_le {k : Nat} : ∀ {as_ : List Arr}, (∀ a ∈ as_, depA a ≤ k) → depAs as_ ≤ k
  | [], _ => by rw [depAs]; omega
  | a :: as_, h => by
    have h1 := h a (by simp)
    have h2 := depAs_le (fun x hx => h x (List.mem_cons_of_mem _ hx))
    rw [depAs]; omega
theorem depC_mem : ∀ {cs : List Cell} {c : Cell}, c ∈ cs → depC c ≤ depCs cs
  | d :: cs, c, h => by
    rw [depCs]
    rcases List.mem_cons.1 h with rfl | h
    · omega
    · have := depC_mem h; omega
theorem depA_mem : ∀ {as_ : List Arr} {a : Arr}, a ∈ as_ → depA a ≤ depAs as_
  | d :: as_, a, h => by
    rw [depAs]
    rcases List.mem_cons.1 h with rfl | h
    · omega
    · have := depA_mem h; omega
theorem depA_sml : ∀ {d : Nat} {a : Arr}, Sml d a → depA a ≤ d
  | 0, _, h => h.elim
  | d + 1, a, h => by
    rw [depA_eq]
    have : depCs a.cells ≤ d := depCs_le (fun c hc => by rw [depC_eq]; exact depAs_le (fun x hx => depA_sml ((h.cell c hc).2.2.2 x hx)))
    split <;> omega
end Go.Proofs.YtbgcadcpeabpgaaGreat
set_option maxRecDepth 100000
namespace Go.Proofs.YtbgcadcpeabpgaaGreat

def allL : Lab := BitVec.allOnes 64
def secA : Arr := .mk allL [] []
def secC : Cell := ⟨allL, 0, .zero, 0, []⟩
mutual
def hidA (o : Lab) : Arr → Arr
  | .mk s sh cs => if flows s o then .mk s sh (hidCs o cs) else secA
def hidCs (o : Lab) : List (CellF Arr) → List (CellF Arr)
  | [] => []
  | c :: cs => hidC o c :: hidCs o cs
def hidC (o : Lab) : CellF Arr → CellF Arr
  | ⟨l, k, n, c, inn⟩ => if flows l o then ⟨l, k, n, c, hidAs o inn⟩ else secC
def hidAs (o : Lab) : List Arr → List Arr
  | [] => []
  | a :: as_ => hidA o a :: hidAs o as_
end
theorem hidCs_map (o : Lab) : ∀ cs, hidCs o cs = cs.map (hidC o)
  | [] => by simp [hidCs]
  | c :: cs => by simp [hidCs, hidCs_map o cs]
theorem hidAs_map (o : Lab) : ∀ as_, hidAs o as_ = as_.map (hidA o)
  | [] => by simp [hidAs]
  | a :: as_ => by simp [hidAs, hidAs_map o as_]
theorem hidA_eq (o : Lab) (a : Arr) : hidA o a = if flows a.s o then .mk a.s a.shape (a.cells.map (hidC o)) else secA := by cases a; rw [hidA, hidCs_map]; rfl
theorem hidC_eq (o : Lab) (c : Cell) : hidC o c = if flows c.l o then ⟨c.l, c.kind, c.n, c.c, c.inn.map (hidA o)⟩ else secC := by cases c; simp [hidC, hidAs_map]
theorem flows_or {a b o : Lab} : flows (a ||| b) o = (flows a o && flows b o) := by
  rw [Bool.eq_iff_iff, Bool.and_eq_true, flows_iff, flows_iff, flows_iff]
  constructor
  · exact fun h => ⟨fun t ht => h t (by simp [ht]), fun t ht => h t (by simp [ht])⟩
  · rintro ⟨h1, h2⟩ t ht
    simp only [BitVec.getLsbD_or, Bool.or_eq_true] at ht
    exact ht.elim (h1 t) (h2 t)
theorem flows_self (a : Lab) : flows a a = true := flows_iff.2 fun _ h => h
theorem flows_zero (o : Lab) : flows 0 o = true := flows_iff.2 fun t h => by simp at h
theorem flows_trans {a b c : Lab} (h : flows a b = true) (k : flows b c = true) : flows a c = true := flows_iff.2 fun t ht => flows_iff.1 k t (flows_iff.1 h t ht)
theorem flows_all {o : Lab} (h : flows allL o = true) (a : Lab) : flows a o = true := by
  rw [flows_64] at h ⊢
  intro t ht _
  exact h t ht (by unfold allL; rw [BitVec.getLsbD_allOnes]; exact decide_eq_true ht)
theorem hid_vis {o : Lab} {a : Arr} (h : flows a.s o = true) : hidA o a = .mk a.s a.shape (a.cells.map (hidC o)) := by rw [hidA_eq, if_pos h]
theorem hid_hid {o : Lab} {a : Arr} (h : flows a.s o = false) : hidA o a = secA := by rw [hidA_eq, if_neg (by simp [h])]
theorem hidC_vis {o : Lab} {c : Cell} (h : flows c.l o = true) : hidC o c = ⟨c.l, c.kind, c.n, c.c, c.inn.map (hidA o)⟩ := by rw [hidC_eq, if_pos h]
theorem hidC_hid {o : Lab} {c : Cell} (h : flows c.l o = false) : hidC o c = secC := by rw [hidC_eq, if_neg (by simp [h])]
/-- Two that are alike. -/
theorem alike_cases {o : Lab} {a b : Arr} (h : hidA o a = hidA o b) : (flows a.s o = false ∧ flows b.s o = false) ∨ (flows a.s o = true ∧ flows b.s o = true ∧ a.s = b.s ∧ a.shape = b.shape ∧ a.cells.map (hidC o) = b.cells.map (hidC o)) := by
  cases ha : flows a.s o <;> cases hb : flows b.s o
  · exact .inl ⟨rfl, rfl⟩
  · rw [hid_hid ha, hid_vis hb] at h
    have : allL = b.s := congrArg Arr.s h
    rw [← this] at hb
    rw [flows_all hb] at ha; cases ha
  · rw [hid_vis ha, hid_hid hb] at h
    have : a.s = allL := congrArg Arr.s h
    rw [this] at ha
    rw [flows_all ha] at hb; cases hb
  · rw [hid_vis ha, hid_vis hb, arr_eq] at h
    exact .inr ⟨rfl, rfl, h.1, h.2.1, h.2.2⟩
theorem alikeC_cases {o : Lab} {a b : Cell} (h : hidC o a = hidC o b) : (flows a.l o = false ∧ flows b.l o = false) ∨ (flows a.l o = true ∧ flows b.l o = true ∧ a.l = b.l ∧ a.kind = b.kind ∧ a.c = b.c ∧ a.n = b.n ∧ a.inn.map (hidA o) = b.inn.map (hidA o)) := by
  cases ha : flows a.l o <;> cases hb : flows b.l o
  · exact .inl ⟨rfl, rfl⟩
  · rw [hidC_hid ha, hidC_vis hb] at h
    have : allL = b.l := congrArg CellF.l h
    rw [← this] at hb
    rw [flows_all hb] at ha; cases ha
  · rw [hidC_vis ha, hidC_hid hb] at h
    have : a.l = allL := congrArg CellF.l h
    rw [this] at ha
    rw [flows_all ha] at hb; cases hb
  · rw [hidC_vis ha, hidC_vis hb, cell_eq] at h
    exact .inr ⟨rfl, rfl, h⟩
theorem alike_hid {o : Lab} {a b : Arr} (ha : flows a.s o = false) (hb : flows b.s o = false) : hidA o a = hidA o b := by rw [hid_hid ha, hid_hid hb]
theorem alike_vis {o : Lab} {a b : Arr} (h1 : a.s = b.s) (h2 : a.shape = b.shape) (h3 : a.cells.map (hidC o) = b.cells.map (hidC o)) : hidA o a = hidA o b := by rw [hidA_eq, hidA_eq, h1, h2, h3]
theorem alikeC_hid {o : Lab} {a b : Cell} (ha : flows a.l o = false) (hb : flows b.l o = false) : hidC o a = hidC o b := by rw [hidC_hid ha, hidC_hid hb]
theorem alikeC_vis {o : Lab} {a b : Cell} (h1 : a.l = b.l) (h2 : a.kind = b.kind) (h3 : a.c = b.c) (h4 : a.n = b.n) (h5 : a.inn.map (hidA o) = b.inn.map (hidA o)) : hidC o a = hidC o b := by rw [hidC_eq, hidC_eq, h1, h2, h3, h4, h5]
noncomputable def alk (o : Lab) (a b : Arr) : Bool := eqA (hidA o a) (hidA o b)
noncomputable def alkC (o : Lab) (a b : Cell) : Bool := eqC (hidC o a) (hidC o b)
theorem alk_iff {o : Lab} {a b : Arr} : alk o a b = true ↔ hidA o a = hidA o b := eqA_iff
theorem alkC_iff {o : Lab} {a b : Cell} : alkC o a b = true ↔ hidC o a = hidC o b := eqC_iff
theorem alk_any {o : Lab} {a b : Arr} (h : ¬ (flows a.s o = true ∧ flows b.s o = true)) : alk o a b = (flows a.s o == flows b.s o) := by
  rw [Bool.eq_iff_iff, alk_iff, beq_iff_eq]
  constructor
  · intro hh
    rcases alike_cases hh with ⟨h1, h2⟩ | ⟨h1, h2, _⟩
    · rw [h1, h2]
    · exact absurd ⟨h1, h2⟩ h
  · intro hh
    cases ha : flows a.s o with
    | true => exact absurd ⟨ha, hh.symm.trans ha⟩ h
    | false => exact alike_hid ha (hh.symm.trans ha)
theorem alkC_any {o : Lab} {a b : Cell} (h : ¬ (flows a.l o = true ∧ flows b.l o = true)) : alkC o a b = (flows a.l o == flows b.l o) := by
  rw [Bool.eq_iff_iff, alkC_iff, beq_iff_eq]
  constructor
  · intro hh
    rcases alikeC_cases hh with ⟨h1, h2⟩ | ⟨h1, h2, _⟩
    · rw [h1, h2]
    · exact absurd ⟨h1, h2⟩ h
  · intro hh
    cases ha : flows a.l o with
    | true => exact absurd ⟨ha, hh.symm.trans ha⟩ h
    | false => exact alikeC_hid ha (hh.symm.trans ha)
theorem alk_both {o : Lab} {a b : Arr} (ha : flows a.s o = true) : alk o a b = true ↔ (a.s = b.s ∧ a.shape = b.shape ∧ a.cells.map (hidC o) = b.cells.map (hidC o)) := by
  rw [alk_iff]
  constructor
  · intro hh
    rcases alike_cases hh with ⟨h1, h2⟩ | ⟨_, _, h⟩
    · rw [ha] at h1; cases h1
    · exact h
  · exact fun h => alike_vis h.1 h.2.1 h.2.2
theorem alkC_both {o : Lab} {a b : Cell} (ha : flows a.l o = true) : alkC o a b = true ↔ (a.l = b.l ∧ a.kind = b.kind ∧ a.c = b.c ∧ a.n = b.n ∧ a.inn.map (hidA o) = b.inn.map (hidA o)) := by
  rw [alkC_iff]
  constructor
  · intro hh
    rcases alikeC_cases hh with ⟨h1, h2⟩ | ⟨_, _, h⟩
    · rw [ha] at h1; cases h1
    · exact h
  · exact fun h => alikeC_vis h.1 h.2.1 h.2.2.1 h.2.2.2.1 h.2.2.2.2
theorem ref09_Alike_sp (o : Lab) : ∀ (d : Nat) (a b : Arr), Sml d a → Sp 27 [dA a, dA b, dB o] [.bool (alk o a b)]
  | 0, _, _, h => h.elim
  | d + 1, a, b, h => by
    have hcell : ∀ (x y : Cell), SmlC d x → Sp 63 [dC x, dC y, dB o] [.bool (alkC o x y)] := fun x y hx => by
      have hlx := hx.2.2.1
      refine sound_ (x.inn.length + 1) (ref09_cells_tree _ _ _ _) ?_
      simp only [dA_0, dA_1, dA_2, dC_0, dC_1, dC_2, dC_3, dC_4, dN_0, dN_1, dN_2, els_sl, els_dI, els_dL, List.length_map, Int.toNat_natCast, toInt_int, toInt_dB, toBool_bool, getD_c0, getD_c1, int_beq, int_bne, not_dec, dInt_dB, Int.toNat_zero]
      refine wp_call (ref01_Flows_sp x.l o) (wp_br (fun h1 => ?_) (fun h1 => wp_call (ref01_Flows_sp y.l o) (wp_br (fun h2 => ?_) (fun h2 => ?_))))
      · have h1' : flows x.l o = false := by simpa using h1
        refine wp_call (ref01_Flows_sp x.l o) (wp_call (ref01_Flows_sp y.l o) (wp_ret ?_))
        rw [alkC_any (by rw [h1']; simp)]; rfl
      · have h2' : flows y.l o = false := by simpa using h2
        refine wp_call (ref01_Flows_sp x.l o) (wp_call (ref01_Flows_sp y.l o) (wp_ret ?_))
        rw [alkC_any (by rw [h2']; simp)]; rfl
      have h1' : flows x.l o = true := by simpa using h1
      have hb := alkC_both (b := y) h1'
      refine wp_decs (fun h => wp_ret ?_) (fun h3 => wp_decs (fun h => wp_ret ?_) (fun h4 => wp_decs (fun h => wp_ret ?_) (fun h5 => wp_call (ref04_Same_sp x.n y.n hx.fits.1 hx.fits.2.1) ?_)))
      · rw [bool_false (b := alkC o x y) (fun hh => h (by rw [(hb.1 hh).1]))]
      · rw [bool_false (b := alkC o x y) (fun hh => h (hb.1 hh).2.1)]
      · rw [bool_false (b := alkC o x y) (fun hh => h (hb.1 hh).2.2.1)]
      simp only [getD_c0, toBool_bool, not_dec]
      refine wp_decs (fun h => wp_ret ?_) (fun h6 => wp_decs (fun h => wp_ret ?_) (fun h7 => ?_))
      · rw [bool_false (b := alkC o x y) (fun hh => h (hb.1 hh).2.2.2.1)]
      · rw [bool_false (b := alkC o x y) (fun hh => h (by have := congrArg List.length (hb.1 hh).2.2.2.2; simp at this; omega))]
      refine same_loopF (P := Tryz.prog) (md := md) (hidA o) x.inn y.inn (alk o) (fun p _ q => alk_iff) (by omega) (alkC o x y) ?_ (fun m k => ref09_cells_l6 (x.inn.length + 1) m (o.toNat : Int) (k : Int) (dC x) (dC y)) ?_ ?_ (x.inn.length + 1) (by omega)
      · rw [hb]
        exact ⟨fun hh => hh.2.2.2.2, fun hh => ⟨BitVec.eq_of_toNat_eq (by omega), Classical.not_not.1 h4, Classical.not_not.1 h5, Classical.not_not.1 h6, hh⟩⟩
      · intro m Q hQ
        simp only [ref09_cells_l6_succ, dA_0, dA_1, dA_2, dC_0, dC_1, dC_2, dC_3, dC_4, dN_0, dN_1, dN_2, els_sl, els_dI, els_dL, List.length_map, Int.toNat_natCast, toInt_int, toInt_dB, toBool_bool, getD_c0, getD_c1, int_beq, int_bne, not_dec, dInt_dB, Int.toNat_zero]
        exact wp_ndec (by omega) (wp_ret hQ)
      · intro m k p q Q hp hq hF hT
        have hk : k < x.inn.length := (List.getElem?_eq_some_iff.1 hp).1
        simp only [ref09_cells_l6_succ, dA_0, dA_1, dA_2, dC_0, dC_1, dC_2, dC_3, dC_4, dN_0, dN_1, dN_2, els_sl, els_dI, els_dL, List.length_map, Int.toNat_natCast, toInt_int, toInt_dB, toBool_bool, getD_c0, getD_c1, int_beq, int_bne, not_dec, dInt_dB, Int.toNat_zero, getD_map hp, getD_map hq, wrap_succ (show k < 9223372036854775807 by omega)]
        repeat (refine wp_dec (by omega) ?_)
        refine wp_call (ref09_Alike_sp o d p q (hx.2.2.2 p (List.mem_of_getElem? hp))) ?_
        simp only [getD_c0, toBool_bool]
        exact wp_br (fun h => wp_ret (hF (by simpa using h))) (fun h => hT (by simpa using h))
    have hla := h.2.1
    refine sound_ (a.cells.length + 1) (ref09_Alike_tree _ _ _ _) ?_
    simp only [dA_0, dA_1, dA_2, dC_0, dC_1, dC_2, dC_3, dC_4, dN_0, dN_1, dN_2, els_sl, els_dI, els_dL, List.length_map, Int.toNat_natCast, toInt_int, toInt_dB, toBool_bool, getD_c0, getD_c1, int_beq, int_bne, not_dec, dInt_dB, Int.toNat_zero]
    refine wp_call (ref01_Flows_sp a.s o) (wp_br (fun h1 => ?_) (fun h1 => wp_call (ref01_Flows_sp b.s o) (wp_br (fun h2 => ?_) (fun h2 => ?_))))
    · have h1' : flows a.s o = false := by simpa using h1
      refine wp_call (ref01_Flows_sp a.s o) (wp_call (ref01_Flows_sp b.s o) (wp_ret ?_))
      rw [alk_any (by rw [h1']; simp)]; rfl
    · have h2' : flows b.s o = false := by simpa using h2
      refine wp_call (ref01_Flows_sp a.s o) (wp_call (ref01_Flows_sp b.s o) (wp_ret ?_))
      rw [alk_any (by rw [h2']; simp)]; rfl
    have h1' : flows a.s o = true := by simpa using h1
    have hb := alk_both (b := b) h1'
    refine wp_decs (fun h => wp_ret ?_) (fun h3 => wp_call (ref07_Ints_sp a.shape b.shape (by have := h.1; omega)) ?_)
    · rw [bool_false (b := alk o a b) (fun hh => h (by rw [(hb.1 hh).1]))]
    simp only [getD_c0, toBool_bool, not_dec]
    refine wp_decs (fun h => wp_ret ?_) (fun h4 => wp_decs (fun h => wp_ret ?_) (fun h5 => ?_))
    · rw [bool_false (b := alk o a b) (fun hh => h (hb.1 hh).2.1)]
    · rw [bool_false (b := alk o a b) (fun hh => h (by have := congrArg List.length (hb.1 hh).2.2; simp at this; omega))]
    refine same_loopF (P := Tryz.prog) (md := md) (hidC o) a.cells b.cells (alkC o) (fun p _ q => alkC_iff) (by omega) (alk o a b) ?_ (fun m k => ref09_Alike_l6 (a.cells.length + 1) m (o.toNat : Int) (k : Int) (dA a) (dA b)) ?_ ?_ (a.cells.length + 1) (by omega)
    · rw [hb]
      exact ⟨fun hh => hh.2.2, fun hh => ⟨BitVec.eq_of_toNat_eq (by omega), Classical.not_not.1 h4, hh⟩⟩
    · intro m Q hQ
      simp only [ref09_Alike_l6_succ, dA_0, dA_1, dA_2, dC_0, dC_1, dC_2, dC_3, dC_4, dN_0, dN_1, dN_2, els_sl, els_dI, els_dL, List.length_map, Int.toNat_natCast, toInt_int, toInt_dB, toBool_bool, getD_c0, getD_c1, int_beq, int_bne, not_dec, dInt_dB, Int.toNat_zero]
      exact wp_ndec (by omega) (wp_ret hQ)
    · intro m k p q Q hp hq hF hT
      have hk : k < a.cells.length := (List.getElem?_eq_some_iff.1 hp).1
      simp only [ref09_Alike_l6_succ, dA_0, dA_1, dA_2, dC_0, dC_1, dC_2, dC_3, dC_4, dN_0, dN_1, dN_2, els_sl, els_dI, els_dL, List.length_map, Int.toNat_natCast, toInt_int, toInt_dB, toBool_bool, getD_c0, getD_c1, int_beq, int_bne, not_dec, dInt_dB, Int.toNat_zero, getD_map hp, getD_map hq, wrap_succ (show k < 9223372036854775807 by omega)]
      repeat (refine wp_dec (by omega) ?_)
      refine wp_call (hcell p q (h.cell p (List.mem_of_getElem? hp))) ?_
      simp only [getD_c0, toBool_bool]
      exact wp_br (fun h => wp_ret (hF (by simpa using h))) (fun h => hT (by simpa using h))
/-- All labels joined. -/
theorem totAs_or (as_ : List Arr) (x y : Lab) : as_.foldl (fun l a => l ||| totA a) (x ||| y) = x ||| as_.foldl (fun l a => l ||| totA a) y := by
  induction as_ generalizing y with
  | nil => rfl
  | cons a as_ ih => simp only [List.foldl_cons]; rw [BitVec.or_assoc, ih]
theorem totC_or (x y : Lab) (c : Cell) : totC (x ||| y) c = x ||| totC y c := by rw [totC_eq, totC_eq, BitVec.or_assoc, totAs_or]
theorem totCs_or (cs : List Cell) (x y : Lab) : cs.foldl totC (x ||| y) = x ||| cs.foldl totC y := by
  induction cs generalizing y with
  | nil => rfl
  | cons c cs ih => simp only [List.foldl_cons]; rw [totC_or, ih]
theorem totA_raise (a : Arr) (l : Lab) : totA (raiseA a l) = l ||| totA a := by rw [totA_eq, totA_eq]; show a.cells.foldl totC (a.s ||| l) = _; rw [BitVec.or_comm, totCs_or]
theorem flows_foldA {o : Lab} : ∀ {as_ : List Arr} {x : Lab}, flows (as_.foldl (fun l a => l ||| totA a) x) o = true ↔ (flows x o = true ∧ ∀ a ∈ as_, flows (totA a) o = true)
  | [], x => by simp
  | a :: as_, x => by
    simp only [List.foldl_cons]
    rw [flows_foldA, flows_or, Bool.and_eq_true]
    simp only [List.mem_cons, forall_eq_or_imp]
    exact and_assoc
theorem flows_totC {o x : Lab} {c : Cell} : flows (totC x c) o = true ↔ (flows x o = true ∧ flows c.l o = true ∧ ∀ a ∈ c.inn, flows (totA a) o = true) := by
  rw [totC_eq, flows_foldA, flows_or, Bool.and_eq_true]; exact and_assoc
theorem flows_foldC {o : Lab} : ∀ {cs : List Cell} {x : Lab}, flows (cs.foldl totC x) o = true ↔ (flows x o = true ∧ ∀ c ∈ cs, flows c.l o = true ∧ ∀ a ∈ c.inn, flows (totA a) o = true)
  | [], x => by simp
  | c :: cs, x => by
    simp only [List.foldl_cons]
    rw [flows_foldC, flows_totC]
    simp only [List.mem_cons, forall_eq_or_imp]
    exact ⟨fun h => ⟨h.1.1, h.1.2, h.2⟩, fun h => ⟨⟨h.1, h.2.1⟩, h.2.2⟩⟩
theorem flows_totA {o : Lab} {a : Arr} : flows (totA a) o = true ↔ (flows a.s o = true ∧ ∀ c ∈ a.cells, flows c.l o = true ∧ ∀ x ∈ c.inn, flows (totA x) o = true) := by rw [totA_eq, flows_foldC]
/-- Where all is seen, nothing is hidden. -/
theorem hid_total {o : Lab} {a : Arr} : flows (totA a) o = true → hidA o a = a := by
  induction a using Arr.ind with
  | h s sh cs IH =>
    intro h
    obtain ⟨h1, h2⟩ := flows_totA.1 h
    rw [hid_vis h1]
    have : cs.map (hidC o) = cs := by
      conv => rhs; rw [← List.map_id cs]
      refine List.map_congr_left (fun c hc => ?_)
      obtain ⟨g1, g2⟩ := h2 c hc
      rw [hidC_vis g1]
      have : c.inn.map (hidA o) = c.inn := by
        conv => rhs; rw [← List.map_id c.inn]
        exact List.map_congr_left (fun x hx => IH c hc x hx (g2 x hx))
      rw [this]; rfl
    show Arr.mk s sh (cs.map (hidC o)) = _
    rw [this]
theorem total_hid {o : Lab} {a : Arr} : flows (totA (hidA o a)) o = true → hidA o a = a := by
  induction a using Arr.ind with
  | h s sh cs IH =>
    intro h
    cases hs : flows (Arr.mk s sh cs).s o with
    | false =>
      rw [hid_hid hs] at h
      have := flows_all (flows_totA.1 h).1 (Arr.mk s sh cs).s
      rw [hs] at this; cases this
    | true =>
      rw [hid_vis hs] at h ⊢
      obtain ⟨_, h2⟩ := flows_totA.1 h
      have : cs.map (hidC o) = cs := by
        conv => rhs; rw [← List.map_id cs]
        refine List.map_congr_left (fun c hc => ?_)
        obtain ⟨g1, g2⟩ := h2 (hidC o c) (List.mem_map.2 ⟨c, hc, rfl⟩)
        cases hl : flows c.l o with
        | false =>
          rw [hidC_hid hl] at g1
          have := flows_all g1 c.l
          rw [hl] at this; cases this
        | true =>
          rw [hidC_vis hl] at g2 ⊢
          have : c.inn.map (hidA o) = c.inn := by
            conv => rhs; rw [← List.map_id c.inn]
            exact List.map_congr_left (fun x hx => IH c hc x hx (g2 (hidA o x) (List.mem_map.2 ⟨x, hx, rfl⟩)))
          rw [this]; rfl
      show Arr.mk s sh (cs.map (hidC o)) = _
      rw [this]
/-- Alike, and all seen: the same. -/
theorem alike_total {o : Lab} {a b : Arr} (h : hidA o a = hidA o b) (ht : flows (totA a) o = true) : a = b := by
  have h1 := hid_total ht
  rw [h1] at h
  rw [h] at ht
  rw [h]; exact total_hid ht
theorem alike_totals {o : Lab} {a b : Arr} (h : hidA o a = hidA o b) : a = b ∨ (flows (totA a) o = false ∧ flows (totA b) o = false) := by
  cases ha : flows (totA a) o with
  | true => exact .inl (alike_total h ha)
  | false =>
    cases hb : flows (totA b) o with
    | true => exact .inl (alike_total h.symm hb).symm
    | false => exact .inr ⟨rfl, rfl⟩
theorem raise_alike {o l : Lab} {a b : Arr} (h : hidA o a = hidA o b) : hidA o (raiseA a l) = hidA o (raiseA b l) := by
  rcases alike_cases h with ⟨h1, h2⟩ | ⟨h1, h2, h3, h4, h5⟩
  · exact alike_hid (by show flows (a.s ||| l) o = false; rw [flows_or, h1]; rfl) (by show flows (b.s ||| l) o = false; rw [flows_or, h2]; rfl)
  · exact alike_vis (by show a.s ||| l = b.s ||| l; rw [h3]) h4 h5
theorem raise_hid {o l : Lab} {a b : Arr} {m : Lab} (h1 : flows l o = false) (h2 : flows m o = false) : hidA o (raiseA a l) = hidA o (raiseA b m) :=
  alike_hid (by show flows (a.s ||| l) o = false; rw [flows_or, h1, Bool.and_false]) (by show flows (b.s ||| m) o = false; rw [flows_or, h2, Bool.and_false])
theorem unpC_alike {o : Lab} {c d : Cell} (h : hidC o c = hidC o d) : hidA o (unpC c) = hidA o (unpC d) := by
  rcases alikeC_cases h with ⟨h1, h2⟩ | ⟨h1, h2, h3, h4, h5, h6, h7⟩
  · have hu : ∀ x : Cell, flows x.l o = false → flows (unpC x).s o = false := fun x hx => by
      unfold unpC
      split
      · split
        · show flows (_ ||| x.l) o = false; rw [flows_or, hx, Bool.and_false]
        · exact hx
      · exact hx
    exact alike_hid (hu c h1) (hu d h2)
  · have hl : c.inn.length = d.inn.length := by have := congrArg List.length h7; simpa using this
    by_cases hb : c.kind = 2 ∧ c.inn.length = 1
    · obtain ⟨x, hx⟩ := len_one hb.2
      obtain ⟨y, hy⟩ := len_one (hl ▸ hb.2)
      rw [unpC_pos hb.1 hx, unpC_pos (h4 ▸ hb.1) hy, h3]
      rw [hx, hy] at h7
      exact raise_alike (by simpa using h7)
    · rw [unpC_neg hb, unpC_neg (by rw [← h4, ← hl]; exact hb)]
      exact alike_vis h3 rfl (by simpa using h)
end Go.Proofs.YtbgcadcpeabpgaaGreat
set_option maxRecDepth 100000
namespace Go.Proofs.YtbgcadcpeabpgaaGreat
/-! scrim/scrimref11.Vector -/
def ref11_Vector_orc : List (Nat × Orc) := [(3, ⟨[(0, some 23), (4, none), (5, none), (6, none)], [(4, false), (5, false)], [(.fld 5 [1], 1030, 3), (.fld 5 [2], 1031, 68)]⟩)]
def ref11_Vector_ps : List Nat := [23, 22]
def ref11_Vector_rs : List ResultVar := [.cell 4 26]
def ref11_Vector_ts : List Nat := [26]
noncomputable def ref11_Vector_l3 (n m3 : Nat) (l0 : D) (i6 : Int) (t4_0 : Int) (out5_0 : Int) (out5_1 : List D) (out5_2 : List D) : Tree :=
  evLoop Tryz.prog md (ev Tryz.prog md n ref11_Vector_orc (cAt (bodyOf Tryz.prog 37) [1, 1, 0, 1, 0, 0])) (orcAt ref11_Vector_orc 3) m3 ⟨[.d 23 l0, .undef, .undef, .undef, .ptr 4 [], .ptr 5 [], .i .i64 i6, .undef, .undef, .undef, .undef, .undef, .undef, .undef, .undef, .undef, .undef, .undef, .undef, .undef, .undef, .undef, .undef, .undef, .undef, .undef, .undef, .undef, .undef], [(4, .var 26 (.agg 26 [.i .u64 t4_0, .mt, .mt]) true), (5, .var 26 (.agg 26 [.i .u64 out5_0, .row 1030, .row 1031]) true), (1030, .row 3 out5_1 true), (1031, .row 68 out5_2 true)], [4, 5, 1030, 1031], [], []⟩
   (blockK 0 (seqK (joinE Tryz.prog md (joinAt ref11_Vector_orc (cAt (bodyOf Tryz.prog 37) [1, 1, 1])) (ev Tryz.prog md n ref11_Vector_orc (cAt (bodyOf Tryz.prog 37) [1, 1, 1]))) (retK Tryz.prog md (md 37) ref11_Vector_ps ref11_Vector_rs ref11_Vector_ts)))
theorem ref11_Vector_l3_succ (n m3 : Nat) (l0 : D) (i6 : Int) (t4_0 : Int) (out5_0 : Int) (out5_1 : List D) (out5_2 : List D) : ref11_Vector_l3 n (m3 + 1) l0 i6 t4_0 out5_0 out5_1 out5_2 =
 .br (decide (i6 < (l0.els.length : Int))) (.br (decide (0 ≤ i6)) (.br (decide (i6 < (l0.els.length : Int))) (.call 78 [] [D.int ((l0.els.getD (Int.toNat i6) D.nil).toInt)] fun yy1 =>
 .br (decide (out5_2.length + [yy1.getD 0 D.nil].length ≤ bigN)) (ref11_Vector_l3 n m3 l0 (IntKind.wrap .i64 (i6 + 1)) t4_0 out5_0 out5_1 (out5_2 ++ [yy1.getD 0 D.nil])) .fail) .fail) .fail)
 (.ret [D.agg [D.int out5_0, D.sl out5_1, D.sl out5_2]]) := by kernel_rfl
theorem ref11_Vector_tree (n : Nat) (l0 : D) (s1 : D) : evFun Tryz.prog md ref11_Vector_orc n 37 [] [l0, s1] =
 ref11_Vector_l3 n n l0 0 0 s1.toInt [D.int (l0.els.length : Int)] [] := by kernel_rfl

end Go.Proofs.YtbgcadcpeabpgaaGreat
set_option maxRecDepth 100000
namespace Go.Proofs.YtbgcadcpeabpgaaGreat
/-! scrim/scrimref10.Same -/
def ref10_Same_orc : List (Nat × Orc) := []
theorem ref10_Same_tree (n : Nat) (a0 : D) (e1 : D) (b2 : D) (f3 : D) : evFun Tryz.prog md ref10_Same_orc n 14 [] [a0, e1, b2, f3] =
 .br (e1.toInt == f3.toInt) (.call 38 [] [a0, b2] fun yy1 =>
 .ret [D.bool ((yy1.getD 0 D.nil).toBool)])
 (.ret [D.bool false]) := by kernel_rfl

end Go.Proofs.YtbgcadcpeabpgaaGreat
set_option maxRecDepth 100000
namespace Go.Proofs.YtbgcadcpeabpgaaGreat

/-- Numbers along one axis. -/
def vecA (l : List Int) (s : Lab) : Arr := .mk s [(l.length : Int)] (l.map intC)
def aloneA (n : Int) (s : Lab) : Arr := .mk s [] [intC n]
theorem ref11_Vector_sp (l : List Int) (s : Lab) (hl : l.length ≤ 100000) (hr : ∀ x ∈ l, inR x) : Sp 37 [dI l, dB s] [dA (vecA l s)] := by
  refine sound_ (l.length + 1) (ref11_Vector_tree _ _ _) ?_
  simp only [dA_0, dA_1, dA_2, dC_0, dC_1, dC_2, dC_3, dC_4, dN_0, dN_1, dN_2, els_sl, els_dI, els_dL, List.length_map, Int.toNat_natCast, toInt_int, toInt_dB, toBool_bool, getD_c0, getD_c1, int_beq, int_bne, not_dec, dInt_dB, Int.toNat_zero]
  have key := loop_list (P := Tryz.prog) (md := md) l (fun m k (out : List Cell) => ref11_Vector_l3 (l.length + 1) m (dI l) (k : Int) 0 (s.toNat : Int) [D.int (l.length : Int)] (out.map dC)) (fun rest out => [dA (.mk s [(l.length : Int)] (out ++ rest.map intC))]) (fun rest out => out.length + rest.length ≤ 100000)
    (fun m k out hk _ => by
      simp only [ref11_Vector_l3_succ, dA_0, dA_1, dA_2, dC_0, dC_1, dC_2, dC_3, dC_4, dN_0, dN_1, dN_2, els_sl, els_dI, els_dL, List.length_map, Int.toNat_natCast, toInt_int, toInt_dB, toBool_bool, getD_c0, getD_c1, int_beq, int_bne, not_dec, dInt_dB, Int.toNat_zero]
      refine wp_ndec (by omega) (wp_ret ?_)
      rw [dA_eq]; simp; rfl)
    (fun m k out x rest hdr hI ih => by
      obtain ⟨h1, h2, h3⟩ := drop_cons hdr
      have hm := List.mem_of_getElem? h2
      simp only [ref11_Vector_l3_succ, dA_0, dA_1, dA_2, dC_0, dC_1, dC_2, dC_3, dC_4, dN_0, dN_1, dN_2, els_sl, els_dI, els_dL, List.length_map, Int.toNat_natCast, toInt_int, toInt_dB, toBool_bool, getD_c0, getD_c1, int_beq, int_bne, not_dec, dInt_dB, Int.toNat_zero, getD_map h2, wrap_succ (show k < 9223372036854775807 by omega)]
      repeat (refine wp_dec (by omega) ?_)
      refine wp_call (ref08_Int_sp x (hr x hm)) (wp_dec ?_ ?_)
      · simp only [List.length_cons, List.length_nil, bigN, List.length_map] at hI ⊢; omega
      · have := ih (out ++ [intC x]) (by simp only [List.length_append, List.length_cons, List.length_nil] at hI ⊢; omega)
        rw [List.map_append] at this
        refine Tree.wp_mono this (fun ys hy => hy.trans ?_)
        simp)
    (l.length + 1) 0 [] (by omega) (by omega) (by simpa using hl)
  exact key
/-- The cells of an array, from the first one on again. -/
def cyc (fr : List Cell) (k : Nat) : List Cell := (List.range k).map (fun i => fr.getD (i % fr.length) (intC 0))
def reshA (n a : Arr) : Arr × Int :=
  if (intsA n).2 = 0 then (if (countS (intsA n).1).2 = 0 then (.mk (a.s ||| totA n) (intsA n).1 (cyc a.cells (countS (intsA n).1).1.toNat), 0) else (.none, (countS (intsA n).1).2)) else (.none, (intsA n).2)
theorem cyc_succ (fr : List Cell) (k : Nat) : cyc fr (k + 1) = cyc fr k ++ [fr.getD (k % fr.length) (intC 0)] := by simp [cyc, List.range_succ]
theorem cyc_len (fr : List Cell) (k : Nat) : (cyc fr k).length = k := by simp [cyc]
theorem cyc_mem {fr : List Cell} {k : Nat} {c : Cell} (h : c ∈ cyc fr k) : c ∈ fr ∨ c = intC 0 := by
  simp only [cyc, List.mem_map] at h
  obtain ⟨i, _, rfl⟩ := h
  rw [List.getD_eq_getElem?_getD]
  cases hg : fr[i % fr.length]? with
  | none => right; rfl
  | some x => left; exact List.mem_of_getElem? hg
theorem getD_mapC {fr : List Cell} {i : Nat} (h : i < fr.length) : (fr.map dC).getD i D.nil = dC (fr.getD i (intC 0)) := by
  rw [getD_map (List.getElem?_eq_getElem h), List.getD_eq_getElem?_getD, List.getElem?_eq_getElem h]; rfl
theorem mod_next {i n : Nat} (h : 0 < n) : (if i % n + 1 = n then 0 else i % n + 1) = (i + 1) % n := by
  have h1 := Nat.mod_lt i h
  rw [Nat.add_mod]
  by_cases hn : n = 1
  · subst hn; simp [Nat.mod_one]
  · rw [Nat.mod_eq_of_lt (show 1 < n by omega)]
    split
    · rename_i he; rw [he, Nat.mod_self]
    · rw [Nat.mod_eq_of_lt (show i % n + 1 < n by omega)]
theorem ref10_Same_sp (x y : Arr) (e f : Int) (hx : Fits x) : Sp 14 [dA x, .int e, dA y, .int f] [.bool (decide (e = f) && eqA x y)] := by
  refine sound_ 0 (ref10_Same_tree _ _ _ _ _) ?_
  simp only [toInt_int, int_beq]
  refine wp_decs (fun h => wp_call (ref08_Same_sp x hx y) (wp_ret ?_)) (fun h => wp_ret ?_)
  · rw [decide_eq_true h]; rfl
  · rw [decide_eq_false h]; rfl
end Go.Proofs.YtbgcadcpeabpgaaGreat
set_option maxRecDepth 100000
namespace Go.Proofs.YtbgcadcpeabpgaaGreat

theorem number_alone (n : Int) (s : Lab) : raiseA (oneA (intC n)) s = aloneA n s := by simp [raiseA, oneA, aloneA]
theorem smlC_int {z : Int} (h : inR z) (d : Nat) : SmlC d (intC z) := by
  have := lb_inR h
  refine ⟨?_, ?_, ?_, ?_⟩
  · simp only [intC, ofZ]; omega
  · simp [intC, ofZ]
  · simp [intC]
  · simp [intC]
def shapeA (a : Arr) : Arr := vecA a.shape a.s
def ravA (a : Arr) : Arr := .mk a.s [(a.cells.length : Int)] a.cells
def tallyA (a : Arr) : Arr := aloneA (a.shape.headD 1) a.s
def mdepA (a : Arr) : Arr := aloneA (depA a : Int) (totA a)
noncomputable def mmatA (a b : Arr) (same : Bool) : Arr := aloneA (if matA a b = same then 1 else 0) (totA a ||| totA b)
/-- An array in a box. -/
def boxL (a : Arr) : Lab := match a.shape, a.cells with
  | [], c :: _ => c.l
  | _, _ => 0
def boxA (a : Arr) : Arr := .mk a.s [] [⟨boxL a, 2, .zero, 0, [a]⟩]
def enclA (a : Arr) : Arr × Int := if simpleA a then (a, 0) else if 8 < depA a then (.none, 7) else (boxA a, 0)
theorem dA_box (a : Arr) (l : Lab) (h : l = boxL a) : D.agg [dB a.s, D.sl [], D.sl [D.agg [dB l, D.int 2, D.agg [D.bool false, D.sl [], D.sl []], D.int 0, D.sl [dA a]]]] = dA (boxA a) := by subst h; rw [dC_box, dA_eq]; rfl
/-- What is in the first cell. -/
def firstA (a : Arr) : Arr := match a.cells with
  | [] => aloneA 0 a.s
  | c :: _ => raiseA (unpC c) a.s
mutual
def flatA : Arr → List (CellF Arr)
  | .mk _ _ cs => flatCs cs
def flatCs : List (CellF Arr) → List (CellF Arr)
  | [] => []
  | c :: cs => flatC c ++ flatCs cs
def flatC : CellF Arr → List (CellF Arr)
  | ⟨l, k, n, c, inn⟩ => if k = 2 then flatAs inn else [⟨l, k, n, c, inn⟩]
def flatAs : List Arr → List (CellF Arr)
  | [] => []
  | a :: as_ => flatA a ++ flatAs as_
end
theorem flatA_eq (a : Arr) : flatA a = flatCs a.cells := by cases a; rw [flatA]; rfl
theorem flatC_eq (c : Cell) : flatC c = if c.kind = 2 then flatAs c.inn else [c] := by cases c; rw [flatC]
/-- Few parts: few cells. -/
theorem leftCs_pos {r : Arr → Int → Int} : ∀ {cs : List Cell} {n : Int}, 0 ≤ leftCs r cs n → 0 ≤ n
  | [], n, h => h
  | c :: cs, n, h => by
    simp only [leftCs] at h
    split at h
    · assumption
    · exact h
theorem leftAs_pos {r : Arr → Int → Int} : ∀ {as_ : List Arr} {n : Int}, 0 ≤ leftAs r as_ n → 0 ≤ n
  | [], n, h => h
  | a :: as_, n, h => by
    simp only [leftAs] at h
    split at h
    · assumption
    · exact h
theorem leftAs_flat {r : Arr → Int → Int} : ∀ {as_ : List Arr} {n : Int}, (∀ a ∈ as_, ∀ m, 0 ≤ m → m ≤ 4000 → 0 ≤ r a m → r a m + ((flatA a).length : Int) ≤ m) → n ≤ 4000 → 0 ≤ leftAs r as_ n → leftAs r as_ n + ((flatAs as_).length : Int) ≤ n
  | [], n, _, _, _ => by simp [leftAs, flatAs]
  | a :: as_, n, hr, hn, h => by
    have h0 := leftAs_pos h
    simp only [leftAs] at h ⊢
    rw [if_pos h0] at h ⊢
    have h1 := leftAs_pos h
    have h2 := hr a (by simp) n h0 hn h1
    have h3 := leftAs_flat (fun x hx => hr x (List.mem_cons_of_mem _ hx)) (by omega) h
    rw [flatAs, List.length_append]; omega
theorem leftCs_flat {r : Arr → Int → Int} {d : Nat} : ∀ {cs : List Cell} {n : Int}, (∀ c ∈ cs, SmlC d c) → (∀ c ∈ cs, ∀ a ∈ c.inn, ∀ m, 0 ≤ m → m ≤ 4000 → 0 ≤ r a m → r a m + ((flatA a).length : Int) ≤ m) → n ≤ 4000 → 0 ≤ leftCs r cs n → leftCs r cs n + ((flatCs cs).length : Int) ≤ n
  | [], n, _, _, _, _ => by simp [leftCs, flatCs]
  | c :: cs, n, hs, hr, hn, h => by
    have h0 := leftCs_pos h
    have hc := hs c (by simp)
    have hc1 := hc.1
    have hc2 := hc.2.1
    have e : w64 (w64 (w64 (n - 1) - (c.n.top.length : Int)) - (c.n.bot.length : Int)) = n - 1 - (c.n.top.length : Int) - (c.n.bot.length : Int) := by
      unfold w64
      rw [wrap64 (x := n - 1) (by omega) (by omega), wrap64 (x := n - 1 - (c.n.top.length : Int)) (by omega) (by omega), wrap64 (by omega) (by omega)]
    simp only [leftCs] at h ⊢
    rw [if_pos h0, e] at h ⊢
    have h1 := leftCs_pos h
    have h2 := leftAs_flat (hr c (by simp)) (by omega) h1
    have h3 := leftCs_flat (fun x hx => hs x (List.mem_cons_of_mem _ hx)) (fun x hx => hr x (List.mem_cons_of_mem _ hx)) (by omega) h
    have h4 : ((flatC c).length : Int) ≤ ((flatAs c.inn).length : Int) + 1 := by
      rw [flatC_eq]; split
      · omega
      · simp only [List.length_cons, List.length_nil]; omega
    rw [flatCs, List.length_append]; omega
theorem leftA_flat : ∀ {e d : Nat} {a : Arr} {n : Int}, Sml d a → 0 ≤ n → n ≤ 4000 → 0 ≤ leftA e a n → leftA e a n + ((flatA a).length : Int) ≤ n
  | 0, _, _, _, _, _, _, h => by simp [leftA] at h
  | e + 1, 0, _, _, hs, _, _, _ => hs.elim
  | e + 1, d + 1, a, n, hs, h0, hn, h => by
    rw [leftA] at h ⊢
    have h1 := hs.1
    have e1 : w64 (w64 (n - 1) - (a.shape.length : Int)) = n - 1 - (a.shape.length : Int) := by
      unfold w64
      rw [wrap64 (x := n - 1) (by omega) (by omega), wrap64 (by omega) (by omega)]
    rw [e1] at h ⊢
    have key : leftCs (leftA e) a.cells (n - 1 - (a.shape.length : Int)) + ((flatCs a.cells).length : Int) ≤ n - 1 - (a.shape.length : Int) := leftCs_flat hs.cell (fun c hc x hx m hm0 hm h0 => leftA_flat ((hs.cell c hc).2.2.2 x hx) hm0 hm h0) (by omega) h
    rw [flatA_eq]; clear h; omega
theorem few_flat {d : Nat} {a : Arr} (h : Sml d a) (hf : fewA a = true) : (flatA a).length ≤ 4000 := by
  have h1 : 0 ≤ leftA 12 a 4000 := of_decide_eq_true hf
  have := leftA_flat h (by omega) (by omega) h1
  omega
/-- Cells, and behind them those of an array that are no boxes. -/
def enR (out fl : List Cell) : List D := if out.length + fl.length ≤ 2048 then [.sl ((out ++ fl).map dC), .bool true] else [.sl [], .bool false]
def enlA (a : Arr) : Arr × Int := if (flatA a).length ≤ 2048 then (.mk (totA a) [((flatA a).length : Int)] (flatA a), 0) else (.none, 7)
end Go.Proofs.YtbgcadcpeabpgaaGreat
set_option maxRecDepth 100000
namespace Go.Proofs.YtbgcadcpeabpgaaGreat

theorem intsCs_vec : ∀ {l : List Int}, (∀ x ∈ l, inR x) → intsCs (l.map intC) = some l
  | [], _ => rfl
  | x :: xs, h => by
    simp only [List.map_cons, intsCs]
    rw [if_pos (show (intC x).kind = 0 from rfl), show (intC x).n = ofZ x from rfl, smallN_ofZ (h x (by simp)), intsCs_vec (fun y hy => h y (by simp [hy]))]
    rfl
theorem totA_vec (l : List Int) (s : Lab) : totA (vecA l s) = s := by
  rw [totA_eq]
  unfold vecA
  simp only [Arr.cells_mk, Arr.s_mk]
  induction l with
  | nil => rfl
  | cons x xs ih =>
    rw [List.map_cons, List.foldl_cons, totC_eq]
    have e0 : s ||| (0 : Lab) = s := by simp
    rw [show (intC x).inn = [] from rfl, show (intC x).l = 0 from rfl, e0, List.foldl_nil]
    exact ih
theorem reshA_fits {n a : Arr} (ha : Fits a) : Fits (reshA n a).1 := by
  unfold reshA
  split
  · split
    · rename_i h1 h2
      have h3 := countS_len h2
      have h4 := countS_le (intsA n).1
      refine Fits.of (by omega) (by rw [cyc_len]; omega) (fun x hx => inR_small (by have := h3.2 x hx; omega) (by have := h3.2 x hx; omega)) (fun c hc => ?_)
      rcases cyc_mem hc with h | rfl
      · exact ha.cell c h
      · exact fitsC_int inR0
    · exact fits_none
  · exact fits_none
theorem reshA_right {n a : Arr} {d : Nat} (ha : ∀ c ∈ a.cells, rightC d c = true) (h : (reshA n a).2 = 0) : rightA d (reshA n a).1 = true := by
  unfold reshA at h ⊢
  split at h
  · rename_i h1
    rw [if_pos h1]
    split at h
    · rename_i h2
      rw [if_pos h2]
      have h4 := countS_le (intsA n).1
      refine rightA_of ?_ ?_
      · simp only [Arr.shape_mk, Arr.cells_mk, cyc_len]
        exact Prod.ext (by simp only; omega) h2
      · intro c hc
        rcases cyc_mem hc with h | rfl
        · exact ha c h
        · exact rightC_int d inR0
    · rename_i h2; exact absurd h h2
  · rename_i h1; exact absurd h h1
theorem aw_in (l : List Int) (h : l.all (fun x => decide (-100000 ≤ x ∧ x ≤ 100000)) = true) : ∀ x ∈ l, inR x := fun x hx => by
  have := of_decide_eq_true (List.all_eq_true.1 h x hx)
  exact inR_small this.1 this.2
end Go.Proofs.YtbgcadcpeabpgaaGreat
set_option maxRecDepth 100000
namespace Go.Proofs.YtbgcadcpeabpgaaGreat

theorem countS_nil : countS [] = (1, 0) := by decide
theorem prodS_one {n : Nat} (h : n ≤ 2048) : prodS [(n : Int)] 1 = (n : Int) := by
  simp only [prodS]; rw [if_neg (by omega)]; omega
theorem countS_one {n : Nat} (h : n ≤ 2048) : countS [(n : Int)] = ((n : Int), 0) := by
  unfold countS
  rw [prodS_one h]
  simp only [List.length_cons, List.length_nil, List.any_cons, List.any_nil, Bool.or_false]
  by_cases h0 : n = 0
  · subst h0; rfl
  · rw [if_neg (by omega), if_neg (by simp), if_neg (by simp; omega), if_neg (by simp; omega), if_neg (by omega)]
theorem cellR_kind {c : Cell} (h : ¬ c.kind = 2) (k k' : Bool) (r r' : Arr → Bool) : cellR k r c = cellR k' r' c := by
  unfold cellR
  split
  · rfl
  split
  · rfl
  · rw [decide_eq_false (fun hh => h hh.1)]; rfl
theorem rightC_kind {c : Cell} (h : ¬ c.kind = 2) {d e : Nat} (hc : rightC d c = true) : rightC e c = true := by
  have : rightC e c = rightC d c := by cases d <;> cases e <;> exact cellR_kind h _ _ _ _
  rw [this]; exact hc
theorem rightC_box {d : Nat} {x : Arr} {l : Lab} (hs : simpleA x = false) (hr : rightA d x = true) : rightC (d + 1) ⟨l, 2, .zero, 0, [x]⟩ = true := by
  show cellR true (rightA d) _ = true
  unfold cellR boxOK
  simp [hs, hr]
/-- Cells that are boxes. -/
theorem rightC_two {d : Nat} {c : Cell} (hk : c.kind = 2) (h : rightC d c = true) : ∃ e x, d = e + 1 ∧ c = ⟨c.l, 2, .zero, 0, [x]⟩ ∧ simpleA x = false ∧ rightA e x = true := by
  have key : ∀ k r, cellR k r c = true → k = true ∧ ∃ x, c.inn = [x] ∧ simpleA x = false ∧ r x = true ∧ c.n = .zero ∧ c.c = 0 := by
    intro k r hh
    unfold cellR at hh
    rw [if_neg (by omega), if_neg (by omega)] at hh
    simp only [Bool.and_eq_true, decide_eq_true_eq] at hh
    obtain ⟨h1, h2, h3⟩ := hh
    unfold boxOK at h3
    split at h3
    · rename_i x hx
      simp only [Bool.and_eq_true, Bool.not_eq_true'] at h3
      exact ⟨h2, x, hx, h3.1, h3.2, h1.2.1, h1.2.2⟩
    · cases h3
  cases d with
  | zero => exact absurd (key _ _ h).1 (by simp)
  | succ d =>
    obtain ⟨_, x, h1, h2, h3, h4, h5⟩ := key _ _ h
    refine ⟨d, x, rfl, ?_, h2, h3⟩
    cases c; simp only at hk h1 h4 h5; subst hk; subst h1; subst h4; subst h5; rfl
theorem rightA_up : ∀ {d : Nat} {a : Arr}, rightA d a = true → rightA (d + 1) a = true := by
  intro d
  induction d with
  | zero =>
    intro a h
    obtain ⟨h1, h2⟩ := rightA_cells h
    refine rightA_of h1 (fun c hc => ?_)
    by_cases hk : c.kind = 2
    · obtain ⟨e, x, he, _⟩ := rightC_two hk (h2 c hc); omega
    · exact rightC_kind hk (h2 c hc)
  | succ d ih =>
    intro a h
    obtain ⟨h1, h2⟩ := rightA_cells h
    refine rightA_of h1 (fun c hc => ?_)
    by_cases hk : c.kind = 2
    · obtain ⟨e, x, he, hx, hs, hr⟩ := rightC_two hk (h2 c hc)
      have : e = d := by omega
      subst this
      rw [hx]; exact rightC_box hs (ih hr)
    · exact rightC_kind hk (h2 c hc)
theorem simple_dep {a : Arr} (h : depA a = 0) : simpleA a = true := by
  rw [depA_eq] at h
  split at h
  · assumption
  · omega
/-- An array that is not so deep is right with fewer boxes. -/
theorem rightA_down : ∀ {d n : Nat} {a : Arr}, rightA n a = true → depA a ≤ d + 1 → simpleA a = false → rightA d a = true := by
  intro d
  induction d with
  | zero =>
    intro n a h hd hs
    obtain ⟨h1, h2⟩ := rightA_cells h
    refine rightA_of h1 (fun c hc => ?_)
    by_cases hk : c.kind = 2
    · obtain ⟨e, x, he, hx, hsx, hr⟩ := rightC_two hk (h2 c hc)
      rw [depA_eq, if_neg (by simp [hs])] at hd
      have h3 := depC_mem hc
      rw [depC_eq] at h3
      have h4 : depA x ≤ depAs c.inn := depA_mem (by rw [hx]; simp)
      have := simple_dep (show depA x = 0 by omega)
      rw [hsx] at this; cases this
    · exact rightC_kind hk (h2 c hc)
  | succ d ih =>
    intro n a h hd hs
    obtain ⟨h1, h2⟩ := rightA_cells h
    refine rightA_of h1 (fun c hc => ?_)
    by_cases hk : c.kind = 2
    · obtain ⟨e, x, he, hx, hsx, hr⟩ := rightC_two hk (h2 c hc)
      rw [depA_eq, if_neg (by simp [hs])] at hd
      have h3 := depC_mem hc
      rw [depC_eq] at h3
      have h4 : depA x ≤ depAs c.inn := depA_mem (by rw [hx]; simp)
      rw [hx]; exact rightC_box hsx (ih hr (by omega) hsx)
    · exact rightC_kind hk (h2 c hc)
theorem enclA_right {a : Arr} (h : rightA 8 a = true) (h0 : (enclA a).2 = 0) : rightA 8 (enclA a).1 = true := by
  unfold enclA at h0 ⊢
  split
  · exact h
  · rename_i hs
    rw [if_neg hs] at h0
    split
    · rename_i h8; rw [if_pos h8] at h0; cases h0
    · rename_i h8
      refine rightA_of countS_nil (fun c hc => ?_)
      have : c = ⟨boxL a, 2, .zero, 0, [a]⟩ := by simpa [boxA] using hc
      subst this
      exact rightC_box (by simpa using hs) (rightA_down h (by omega) (by simpa using hs))
theorem rightA_raise {d : Nat} {a : Arr} {l : Lab} (h : rightA d a = true) : rightA d (raiseA a l) = true := by rw [rightA_eq] at h ⊢; exact h
theorem rightA_one {d : Nat} {c : Cell} {l : Lab} (h : rightC d c = true) : rightA d (.mk l [] [c]) = true := rightA_of countS_nil (fun x hx => by simp at hx; subst hx; exact h)
theorem unpC_right {d : Nat} {c : Cell} (h : rightC (d + 1) c = true) : rightA (d + 1) (unpC c) = true := by
  by_cases hk : c.kind = 2
  · obtain ⟨e, x, he, hx, hs, hr⟩ := rightC_two hk h
    have : e = d := by omega
    subst this
    rw [unpC_pos hk (by rw [hx])]
    exact rightA_raise (rightA_up hr)
  · rw [unpC_neg (fun hh => hk hh.1)]
    exact rightA_one h
theorem firstA_right {a : Arr} (h : rightA 8 a = true) : rightA 8 (firstA a) = true := by
  unfold firstA
  split
  · exact rightA_one (rightC_int 8 inR0)
  · rename_i c cs hc
    exact rightA_raise (unpC_right ((rightA_cells h).2 c (by rw [hc]; simp)))
theorem flatA_mem : ∀ {d : Nat} {a : Arr}, rightA d a = true → ∀ c ∈ flatA a, ¬ c.kind = 2 ∧ ∃ e, rightC e c = true := by
  have keyAs : ∀ {as_ : List Arr} {P : Cell → Prop}, (∀ x ∈ as_, ∀ c ∈ flatA x, P c) → ∀ c ∈ flatAs as_, P c := by
    intro as_ P
    induction as_ with
    | nil => intro _ c hc; rw [flatAs] at hc; cases hc
    | cons a as_ ih =>
      intro h c hc
      rw [flatAs] at hc
      rcases List.mem_append.1 hc with hc | hc
      · exact h a (by simp) c hc
      · exact ih (fun x hx => h x (List.mem_cons_of_mem _ hx)) c hc
  have keyCs : ∀ {cs : List Cell} {P : Cell → Prop}, (∀ x ∈ cs, ∀ c ∈ flatC x, P c) → ∀ c ∈ flatCs cs, P c := by
    intro cs P
    induction cs with
    | nil => intro _ c hc; rw [flatCs] at hc; cases hc
    | cons a cs ih =>
      intro h c hc
      rw [flatCs] at hc
      rcases List.mem_append.1 hc with hc | hc
      · exact h a (by simp) c hc
      · exact ih (fun x hx => h x (List.mem_cons_of_mem _ hx)) c hc
  intro d
  induction d with
  | zero =>
    intro a h
    rw [flatA_eq]
    refine keyCs (fun x hx c hc => ?_)
    have hr := (rightA_cells h).2 x hx
    rw [flatC_eq] at hc
    split at hc
    · rename_i hk; obtain ⟨e, y, he, _⟩ := rightC_two hk hr; omega
    · rename_i hk; simp at hc; subst hc; exact ⟨hk, _, hr⟩
  | succ d ih =>
    intro a h
    rw [flatA_eq]
    refine keyCs (fun x hx c hc => ?_)
    have hr := (rightA_cells h).2 x hx
    rw [flatC_eq] at hc
    split at hc
    · rename_i hk
      obtain ⟨e, y, he, hy, hs, hry⟩ := rightC_two hk hr
      have : e = d := by omega
      subst this
      rw [hy] at hc
      exact keyAs (fun z hz => by simp at hz; subst hz; exact ih hry) c hc
    · rename_i hk; simp at hc; subst hc; exact ⟨hk, _, hr⟩
theorem enlA_right {a : Arr} (h : rightA 8 a = true) (h0 : (enlA a).2 = 0) : rightA 8 (enlA a).1 = true := by
  unfold enlA at h0 ⊢
  split
  · rename_i hl
    refine rightA_of (by simpa using countS_one hl) (fun c hc => ?_)
    obtain ⟨hk, e, he⟩ := flatA_mem h c hc
    exact rightC_kind hk he
  · rename_i hl; rw [if_neg hl] at h0; cases h0
theorem rightA_nonempty {d : Nat} {a : Arr} (h : rightA d a = true) (hs : a.shape = []) : a.cells ≠ [] := by
  have := (rightA_cells h).1
  rw [hs, countS_nil] at this
  intro hc
  rw [hc] at this
  simp at this
theorem enclA_fits {d : Nat} {a : Arr} (h : Sml d a) : Sml (d + 1) (enclA a).1 := by
  unfold enclA
  split
  · exact h.mono (by omega)
  · split
    · exact ⟨by simp [Arr.none], by simp [Arr.none], by simp [Arr.none], by simp [Arr.none]⟩
    · refine ⟨by simp [boxA], by simp [boxA], by simp [boxA], fun c hc => ?_⟩
      have : c = ⟨boxL a, 2, .zero, 0, [a]⟩ := by simpa [boxA] using hc
      subst this
      exact ⟨by simp [Num.zero], by simp [Num.zero], by simp, fun x hx => by simp at hx; subst hx; exact h⟩
theorem enlA_sml {a : Arr} (h : rightA 8 a = true) : Sml 9 (enlA a).1 := by
  by_cases h0 : (enlA a).2 = 0
  · exact rightA_sml (enlA_right h h0)
  · unfold enlA at h0 ⊢
    split
    · rename_i hl; rw [if_pos hl] at h0; exact absurd rfl h0
    · exact ⟨by simp [Arr.none], by simp [Arr.none], by simp [Arr.none], by simp [Arr.none]⟩
theorem tw_awake_br {b : Bool} {t : Tree} (h1 : b = true) (h : Tw t [.bool true]) : Tw (.br b t (.ret [D.bool false])) [.bool true] := wp_tt h1 h
end Go.Proofs.YtbgcadcpeabpgaaGreat
set_option maxRecDepth 100000
namespace Go.Proofs.YtbgcadcpeabpgaaGreat

theorem era_raise (a : Arr) (l : Lab) : eraA (raiseA a l) = eraA a := by unfold eraA; rw [relA_eq, relA_eq]; rfl
theorem mat_raise (a : Arr) (l : Lab) : matA (raiseA a l) a = true := by unfold matA; rw [era_raise]; exact eqA_self _
theorem flows_raise (a : Arr) (l : Lab) : flows (totA a) (totA (raiseA a l)) = true := by rw [totA_raise]; exact flows_iff.2 fun t h => by simp [h]
theorem simple_form {a : Arr} (h : simpleA a = true) : ∃ c, a = .mk a.s [] [c] ∧ ¬ c.kind = 2 := by
  unfold simpleA at h
  split at h
  · rename_i c hs hc
    refine ⟨c, ?_, by simpa using h⟩
    rw [← hs, ← hc]; exact Arr.eta a
  · cases h
/-- What was enclosed, taken out again. -/
theorem first_encl {a : Arr} (h0 : (enclA a).2 = 0) : ∃ l, firstA (enclA a).1 = raiseA a l := by
  unfold enclA at h0 ⊢
  split
  · rename_i hs
    obtain ⟨c, hc, hk⟩ := simple_form hs
    refine ⟨c.l, ?_⟩
    rw [hc]
    show raiseA (unpC c) a.s = _
    rw [unpC_neg (fun hh => hk hh.1)]
    show Arr.mk (c.l ||| a.s) [] [c] = .mk (a.s ||| c.l) [] [c]
    rw [BitVec.or_comm]
  · rename_i hs
    rw [if_neg hs] at h0
    split
    · rename_i h8; rw [if_pos h8] at h0; cases h0
    · refine ⟨boxL a ||| a.s, ?_⟩
      show raiseA (unpC ⟨boxL a, 2, .zero, 0, [a]⟩) a.s = _
      rw [unpC_pos rfl rfl]
      show Arr.mk (a.s ||| boxL a ||| a.s) _ _ = .mk (a.s ||| (boxL a ||| a.s)) _ _
      rw [BitVec.or_assoc]; rfl
theorem cyc_self (l : List Cell) : cyc l l.length = l := by
  unfold cyc
  apply List.ext_getElem
  · simp
  · intro i h1 h2
    simp only [List.getElem_map, List.getElem_range]
    rw [Nat.mod_eq_of_lt h2, List.getD_eq_getElem?_getD, List.getElem?_eq_getElem h2]; rfl
theorem resh_back {a : Arr} (h : rightA 8 a = true) : reshA (shapeA a) (ravA a) = (a, 0) := by
  have hs := (rightA_sml h).2.2.1
  have hc := (rightA_cells h).1
  have e1 : intsA (shapeA a) = (a.shape, 0) := by
    unfold intsA shapeA vecA
    simp only [Arr.shape_mk, Arr.cells_mk, intsCs_vec hs]; rfl
  unfold reshA
  rw [e1]
  simp only [hc, if_true]
  rw [shapeA, totA_vec]
  show (Arr.mk (a.s ||| a.s) a.shape (cyc a.cells (Int.toNat (a.cells.length : Int))), (0 : Int)) = _
  rw [BitVec.or_self, Int.toNat_natCast, cyc_self, ← Arr.eta]
theorem shapeA_fits {d : Nat} {a : Arr} (h : Sml d a) (hl : a.shape.length ≤ 100000) : Fits (shapeA a) := by
  obtain ⟨e, rfl⟩ := h.succ
  exact fits_vec hl h.2.2.1
section
variable {o : Lab} {a b n m : Arr}
theorem shape_alike (h : hidA o a = hidA o b) : hidA o (shapeA a) = hidA o (shapeA b) := by
  rcases alike_cases h with ⟨h1, h2⟩ | ⟨_, _, h3, h4, _⟩
  · exact alike_hid h1 h2
  · unfold shapeA; rw [h3, h4]
theorem rav_alike (h : hidA o a = hidA o b) : hidA o (ravA a) = hidA o (ravA b) := by
  rcases alike_cases h with ⟨h1, h2⟩ | ⟨_, _, h3, _, h5⟩
  · exact alike_hid h1 h2
  · have hl : a.cells.length = b.cells.length := by have := congrArg List.length h5; simpa using this
    exact alike_vis h3 (by show [(a.cells.length : Int)] = [(b.cells.length : Int)]; rw [hl]) h5
theorem tally_alike (h : hidA o a = hidA o b) : hidA o (tallyA a) = hidA o (tallyA b) := by
  rcases alike_cases h with ⟨h1, h2⟩ | ⟨_, _, h3, h4, _⟩
  · exact alike_hid h1 h2
  · unfold tallyA; rw [h3, h4]
theorem mdep_alike (h : hidA o a = hidA o b) : hidA o (mdepA a) = hidA o (mdepA b) := by
  rcases alike_totals h with rfl | ⟨h1, h2⟩
  · rfl
  · exact alike_hid h1 h2
theorem first_alike (h : hidA o a = hidA o b) : hidA o (firstA a) = hidA o (firstA b) := by
  have hs : ∀ x : Arr, flows x.s o = false → flows (firstA x).s o = false := fun x hx => by
    unfold firstA
    split
    · exact hx
    · show flows (_ ||| x.s) o = false; rw [flows_or, hx, Bool.and_false]
  rcases alike_cases h with ⟨h1, h2⟩ | ⟨_, _, h3, _, h5⟩
  · exact alike_hid (hs a h1) (hs b h2)
  · unfold firstA
    match ha : a.cells, hb : b.cells with
    | [], [] => rw [h3]
    | [], c :: cs => rw [ha, hb] at h5; simp at h5
    | c :: cs, [] => rw [ha, hb] at h5; simp at h5
    | c :: cs, d :: ds =>
      rw [ha, hb] at h5
      simp only [List.map_cons, List.cons.injEq] at h5
      show hidA o (raiseA (unpC c) a.s) = hidA o (raiseA (unpC d) b.s)
      rw [h3]; exact raise_alike (unpC_alike h5.1)
theorem mmat_alike (h : hidA o a = hidA o b) (h' : hidA o n = hidA o m) (s : Bool) : hidA o (mmatA a n s) = hidA o (mmatA b m s) := by
  have hid : ∀ x y : Arr, (flows (totA x) o && flows (totA y) o) = false → flows (mmatA x y s).s o = false := fun x y hh => by show flows (totA x ||| totA y) o = false; rw [flows_or]; exact hh
  rcases alike_totals h with rfl | ⟨h1, h2⟩
  · rcases alike_totals h' with rfl | ⟨h3, h4⟩
    · rfl
    · exact alike_hid (hid _ _ (by rw [h3, Bool.and_false])) (hid _ _ (by rw [h4, Bool.and_false]))
  · exact alike_hid (hid _ _ (by rw [h1]; rfl)) (hid _ _ (by rw [h2]; rfl))
theorem map_getD {α β : Type} {f : α → β} {l m : List α} (h : l.map f = m.map f) (i : Nat) (z : α) : f (l.getD i z) = f (m.getD i z) := by
  have hi : (l.map f)[i]? = (m.map f)[i]? := by rw [h]
  simp only [List.getElem?_map] at hi
  rw [List.getD_eq_getElem?_getD, List.getD_eq_getElem?_getD]
  cases h1 : l[i]? <;> cases h2 : m[i]? <;> rw [h1, h2] at hi <;> simp at hi ⊢
  exact hi
theorem resh_alike (h' : hidA o n = hidA o m) (h : hidA o a = hidA o b) (e1 : (reshA n a).2 = 0) (e2 : (reshA m b).2 = 0) : hidA o (reshA n a).1 = hidA o (reshA m b).1 := by
  have form : ∀ x y : Arr, (reshA x y).2 = 0 → (reshA x y).1 = .mk (y.s ||| totA x) (intsA x).1 (cyc y.cells (countS (intsA x).1).1.toNat) := fun x y hh => by
    unfold reshA at hh ⊢
    split
    · rename_i g1
      rw [if_pos g1] at hh
      split
      · rfl
      · rename_i g2; rw [if_neg g2] at hh; exact absurd hh g2
    · rename_i g1; rw [if_neg g1] at hh; exact absurd hh g1
  rw [form n a e1, form m b e2]
  rcases alike_totals h' with rfl | ⟨h3, h4⟩
  · rcases alike_cases h with ⟨h1, h2⟩ | ⟨_, _, h3, _, h5⟩
    · exact alike_hid (by show flows (a.s ||| _) o = false; rw [flows_or, h1]; rfl) (by show flows (b.s ||| _) o = false; rw [flows_or, h2]; rfl)
    · refine alike_vis (by show a.s ||| _ = b.s ||| _; rw [h3]) rfl ?_
      have hl : a.cells.length = b.cells.length := by have := congrArg List.length h5; simpa using this
      show (cyc a.cells _).map (hidC o) = (cyc b.cells _).map (hidC o)
      unfold cyc
      rw [List.map_map, List.map_map]
      refine List.map_congr_left (fun i _ => ?_)
      show hidC o (a.cells.getD (i % a.cells.length) (intC 0)) = hidC o (b.cells.getD (i % b.cells.length) (intC 0))
      rw [hl]; exact map_getD h5 _ _
  · exact alike_hid (by show flows (_ ||| totA n) o = false; rw [flows_or, h3, Bool.and_false]) (by show flows (_ ||| totA m) o = false; rw [flows_or, h4, Bool.and_false])
theorem encl_alike (ra : rightA 8 a = true) (rb : rightA 8 b = true) (h : hidA o a = hidA o b) (e1 : (enclA a).2 = 0) (e2 : (enclA b).2 = 0) : hidA o (enclA a).1 = hidA o (enclA b).1 := by
  have form : ∀ x : Arr, (enclA x).2 = 0 → (enclA x).1 = if simpleA x then x else boxA x := fun x hh => by
    unfold enclA at hh ⊢
    split
    · rfl
    · rename_i g1
      rw [if_neg g1] at hh
      split
      · rename_i g2; rw [if_pos g2] at hh; cases hh
      · rfl
  have hs : ∀ x : Arr, (if simpleA x then x else boxA x).s = x.s := fun x => by split <;> rfl
  rw [form a e1, form b e2]
  rcases alike_cases h with ⟨h1, h2⟩ | ⟨h1, h2, h3, h4, h5⟩
  · exact alike_hid (by rw [hs]; exact h1) (by rw [hs]; exact h2)
  · by_cases hsh : a.shape = []
    · have la : a.cells.length = 1 := by have := (rightA_cells ra).1; rw [hsh, countS_nil] at this; have := congrArg Prod.fst this; simp at this; omega
      have lb : b.cells.length = 1 := by have := congrArg List.length h5; simp at this; omega
      obtain ⟨c, hc⟩ := len_one la
      obtain ⟨d, hd⟩ := len_one lb
      have hcd : hidC o c = hidC o d := by rw [hc, hd] at h5; simpa using h5
      have sa : simpleA a = decide (¬ c.kind = 2) := by unfold simpleA; rw [hsh, hc]
      have sb : simpleA b = decide (¬ d.kind = 2) := by unfold simpleA; rw [← h4, hsh, hd]
      have ba : boxL a = c.l := by unfold boxL; rw [hsh, hc]
      have bb : boxL b = d.l := by unfold boxL; rw [← h4, hsh, hd]
      have one : ∀ x : Arr, ∀ y : Cell, x.shape = [] → x.cells = [y] → boxL x = y.l → ∃ z : Cell, (if simpleA x then x else boxA x) = .mk x.s [] [z] ∧ z.l = y.l := fun x y hx hy hb => by
        split
        · exact ⟨y, by rw [← hx, ← hy]; exact Arr.eta x, rfl⟩
        · exact ⟨_, rfl, hb⟩
      rcases alikeC_cases hcd with ⟨g1, g2⟩ | ⟨g1, g2, g3, g4, _⟩
      · obtain ⟨z, hz, hzl⟩ := one a c hsh hc ba
        obtain ⟨w, hw, hwl⟩ := one b d (h4 ▸ hsh) hd bb
        rw [hz, hw]
        exact alike_vis h3 rfl (by simp only [Arr.cells_mk, List.map_cons, List.map_nil, List.cons.injEq, and_true]; exact alikeC_hid (hzl ▸ g1) (hwl ▸ g2))
      · have : simpleA a = simpleA b := by rw [sa, sb, g4]
        rw [this]
        split
        · exact h
        · exact alike_vis h3 rfl (by simp only [boxA, Arr.cells_mk, List.map_cons, List.map_nil, List.cons.injEq, and_true]; exact alikeC_vis (by rw [ba, bb, g3]) rfl rfl rfl (by simpa using h))
    · have sa : ∀ x : Arr, x.shape ≠ [] → simpleA x = false ∧ boxL x = 0 := fun x hx => by
        unfold simpleA boxL
        match hh : x.shape with
        | [] => exact absurd hh hx
        | y :: ys => exact ⟨rfl, rfl⟩
      have a1 := sa a hsh
      have b1 := sa b (h4 ▸ hsh)
      rw [a1.1, b1.1]
      exact alike_vis h3 rfl (by simp only [boxA, Bool.false_eq_true, if_false, Arr.cells_mk, List.map_cons, List.map_nil, List.cons.injEq, and_true]; exact alikeC_vis (by rw [a1.2, b1.2]) rfl rfl rfl (by simpa using h))
theorem enl_alike (h : hidA o a = hidA o b) (e1 : (enlA a).2 = 0) (e2 : (enlA b).2 = 0) : hidA o (enlA a).1 = hidA o (enlA b).1 := by
  have form : ∀ x : Arr, (enlA x).2 = 0 → (enlA x).1.s = totA x := fun x hh => by
    unfold enlA at hh ⊢
    split
    · rfl
    · rename_i g; rw [if_neg g] at hh; cases hh
  rcases alike_totals h with rfl | ⟨h1, h2⟩
  · rfl
  · exact alike_hid (by rw [form a e1]; exact h1) (by rw [form b e2]; exact h2)
end
theorem alike_sp {o : Lab} {d : Nat} {a b : Arr} (h : Sml d a) (hh : hidA o a = hidA o b) : Sp 27 [dA a, dA b, dB o] [.bool true] := by
  have := ref09_Alike_sp o d a b h
  rwa [alk_iff.2 hh] at this
theorem sml_alone {n : Int} {s : Lab} (h : inR n) : Sml 1 (aloneA n s) := ⟨by simp [aloneA], by simp [aloneA], by simp [aloneA], fun c hc => by simp [aloneA] at hc; subst hc; exact smlC_int h 0⟩
end Go.Proofs.YtbgcadcpeabpgaaGreat
set_option maxRecDepth 100000
namespace Go.Proofs.YtbgcadcpeabpgaaGreat

theorem can_len {x k : Nat} (h : (lb x).length = k + 1) : B ^ k ≤ x := by
  rcases Nat.lt_or_ge x (B ^ k) with h1 | h1
  · have := lb_len.2 h1; omega
  · exact h1
theorem lb_of {r : List Limb} (h : ∀ k, r.length = k + 1 → B ^ k ≤ nv r) : lb (nv r) = r := by
  refine lb_can (fun hne hz => ?_)
  have hd := List.dropLast_concat_getLast hne
  have hl : 0 < r.length := List.length_pos_iff.2 hne
  have h1 := h (r.length - 1) (by omega)
  have e : nv r = nv r.dropLast := by
    have e2 := nv_snoc r.dropLast (r.getLast hne)
    rw [hd, hz, show (0 : Limb).toNat = 0 from rfl, Nat.mul_zero, Nat.add_zero] at e2
    exact e2
  have h2 := nv_lt r.dropLast
  rw [List.length_dropLast] at h2
  omega
theorem pre_get {α : Type} {pre l : List α} {k : Nat} (hp : pre.length = k) (hk : k < l.length) : (pre ++ l.drop k)[k]? = some l[k] := by
  rw [List.getElem?_append_right (by omega), hp, Nat.sub_self, List.getElem?_drop, Nat.add_zero, List.getElem?_eq_getElem hk]
theorem pre_set {α : Type} {pre l : List α} {k : Nat} (v : α) (hp : pre.length = k) (hk : k < l.length) : (pre ++ l.drop k).set k v = (pre ++ [v]) ++ l.drop (k + 1) := by
  rw [List.set_append_right _ _ (by omega), hp, Nat.sub_self, List.drop_eq_getElem_cons hk, List.set_cons_zero]; simp
theorem map_set {α : Type} {f : α → D} {l : List α} {k : Nat} {v : α} : (l.map f).set k (f v) = (l.set k v).map f := by rw [List.map_set]
theorem nv_set (l : List Limb) (i : Nat) (hi : i < l.length) (v : Limb) : nv (l.set i v) + B ^ i * (l[i]).toNat = nv l + B ^ i * v.toNat := by
  induction l generalizing i with
  | nil => simp at hi
  | cons y l ih =>
    cases i with
    | zero => simp [nv]; omega
    | succ i =>
      have hi' : i < l.length := by simpa using hi
      have := ih i hi'
      simp only [List.set_cons_succ, nv, List.getElem_cons_succ, Nat.pow_succ]
      have h2 := congrArg (fun n => B * n) this
      simp only [Nat.mul_add] at h2
      rw [show B ^ i * B * (l[i]).toNat = B * (B ^ i * (l[i]).toNat) by rw [Nat.mul_comm (B ^ i) B, Nat.mul_assoc], show B ^ i * B * v.toNat = B * (B ^ i * v.toNat) by rw [Nat.mul_comm (B ^ i) B, Nat.mul_assoc]]
      omega
theorem bits32 {X Y : Nat} (hX : X < 4294967296) (hY : Y < 4294967296) : bits_ .xor .u32 (X : Int) (Y : Int) = ((X ^^^ Y : Nat) : Int) ∧ bits_ .and .u32 (X : Int) (Y : Int) = ((X &&& Y : Nat) : Int) ∧ bits_ .or .u32 (X : Int) (Y : Int) = ((X ||| Y : Nat) : Int) := by
  have b : IntKind.bits .u32 = 32 := rfl
  have e1 : (X ^^^ Y) < 2 ^ 32 := Nat.xor_lt_two_pow (by omega) (by omega)
  have e2 : (X &&& Y) < 2 ^ 32 := Nat.and_lt_two_pow _ (by omega)
  have e3 : (X ||| Y) < 2 ^ 32 := Nat.or_lt_two_pow (by omega) (by omega)
  simp only [bits_, b, BitVec.ofInt_natCast, BitVec.toNat_xor, BitVec.toNat_and, BitVec.toNat_or, BitVec.toNat_ofNat, Nat.mod_eq_of_lt (show X < 2 ^ 32 by omega), Nat.mod_eq_of_lt (show Y < 2 ^ 32 by omega)]
  exact ⟨wrapU32 (by omega) (by omega), wrapU32 (by omega) (by omega), wrapU32 (by omega) (by omega)⟩
theorem top_bit (n : Nat) (h : n < 4294967296) : n.testBit 31 = decide (2147483648 ≤ n) := by
  rw [Nat.testBit_eq_decide_div_mod_eq]
  have : n / 2 ^ 31 % 2 = 1 ↔ 2147483648 ≤ n := by omega
  simp only [this]
theorem sub_nat (X Y D c : Nat) (hX : X < 4294967296) (hY : Y < 4294967296) (hc : c ≤ 1) (hD : (D : Int) = ((X : Int) - Y - c) % 4294967296) :
    ((((4294967295 ^^^ X) &&& Y) ||| ((4294967295 ^^^ (X ^^^ Y)) &&& D) : Nat) : Int) / 2147483648 = if X < Y + c then 1 else 0 := by
  have hDl : D < 4294967296 := by omega
  have hN : (((4294967295 ^^^ X) &&& Y) ||| ((4294967295 ^^^ (X ^^^ Y)) &&& D)) < 2 ^ 32 :=
    Nat.or_lt_two_pow (Nat.and_lt_two_pow _ (by omega)) (Nat.and_lt_two_pow _ (by omega))
  have ht := top_bit _ (show _ < 4294967296 from hN)
  rw [Nat.testBit_or, Nat.testBit_and, Nat.testBit_and, Nat.testBit_xor, Nat.testBit_xor, Nat.testBit_xor, top_bit X hX, top_bit Y hY, top_bit D hDl, show Nat.testBit 4294967295 31 = true by decide] at ht
  generalize (((4294967295 ^^^ X) &&& Y) ||| ((4294967295 ^^^ (X ^^^ Y)) &&& D)) = N at *
  by_cases h1 : 2147483648 ≤ X <;> by_cases h2 : 2147483648 ≤ Y <;> by_cases h3 : 2147483648 ≤ D <;> simp [h1, h2, h3] at ht <;> split <;> omega
theorem nat_Cmp_sp (a b : List Limb) (ha : a.length ≤ 1000000) (hb : b.length ≤ 1000000) : Sp 160 [dL a, dL b] [.int (cmpN (nv a) (nv b))] := by
  refine sound_ (a.length + 1) (nat_Cmp_tree _ _ _) (wp_call (nat_trim_sp a (by omega)) (wp_call (nat_trim_sp b (by omega)) ?_))
  have la : (lb (nv a)).length ≤ a.length := lb_len.2 (nv_lt a)
  have lb_ : (lb (nv b)).length ≤ b.length := lb_len.2 (nv_lt b)
  simp only [getD_c0, els_dL, List.length_map]
  refine wp_decs (fun h => wp_ret ?_) (fun h => wp_decs (fun h' => wp_ret ?_) (fun h' => ?_))
  · have h1 : nv a < nv b := by
      have e1 : nv a < B ^ (lb (nv a)).length := lb_len.1 (Nat.le_refl _)
      rcases Nat.lt_or_ge (nv b) (B ^ (lb (nv a)).length) with h2 | h2
      · have := lb_len.2 h2; omega
      · omega
    rw [cmpN, if_pos h1]
  · have h1 : nv b < nv a := by
      have e1 : nv b < B ^ (lb (nv b)).length := lb_len.1 (Nat.le_refl _)
      rcases Nat.lt_or_ge (nv a) (B ^ (lb (nv b)).length) with h2 | h2
      · have := lb_len.2 h2; omega
      · omega
    rw [cmpN, if_neg (by omega), if_neg (by omega)]
  · have hl : (lb (nv b)).length = (lb (nv a)).length := by omega
    have key := loop_down (P := Tryz.prog) (md := md) (fun m k (_ : Unit) => nat_Cmp_l7 (a.length + 1) m (dL (lb (nv a))) (dL (lb (nv b))) ((k : Int) - 1)) (fun _ _ => [.int (cmpN (nv a) (nv b))]) (fun k _ => k ≤ (lb (nv a)).length ∧ nv a / B ^ k = nv b / B ^ k)
      (fun m s ⟨_, h⟩ => by
        simp only [nat_Cmp_l7_succ]
        refine wp_ndec (by omega) (wp_ret ?_)
        simp at h
        simp [cmpN, h])
      (fun m k s ⟨h0, h⟩ ih => by
        have g1 := nv_limb (lb (nv a)) k (by omega)
        have g2 := nv_limb (lb (nv b)) k (by omega)
        rw [nv_lb] at g1 g2
        have ga : ((lb (nv a)).map dB).getD k D.nil = D.int ((nv a / B ^ k % B : Nat) : Int) := by rw [getD_map (List.getElem?_eq_getElem (show k < (lb (nv a)).length by omega)), ← g1]; rfl
        have gb : ((lb (nv b)).map dB).getD k D.nil = D.int ((nv b / B ^ k % B : Nat) : Int) := by rw [getD_map (List.getElem?_eq_getElem (show k < (lb (nv b)).length by omega)), ← g2]; rfl
        simp only [nat_Cmp_l7_succ, show ((k + 1 : Nat) : Int) - 1 = (k : Int) by omega, dA_0, dA_1, dA_2, dC_0, dC_1, dC_2, dC_3, dC_4, dN_0, dN_1, dN_2, els_sl, els_dI, els_dL, List.length_map, Int.toNat_natCast, toInt_int, toInt_dB, toBool_bool, getD_c0, getD_c1, int_beq, int_bne, not_dec, dInt_dB, Int.toNat_zero, ga, gb]
        have ea := Nat.div_add_mod (nv a / B ^ k) B
        have eb := Nat.div_add_mod (nv b / B ^ k) B
        rw [Nat.div_div_eq_div_mul, ← Nat.pow_succ] at ea eb
        rw [h] at ea
        generalize B * (nv b / B ^ (k + 1)) = q at ea eb
        refine wp_dec (by omega) (wp_dec (by omega) (wp_dec (by omega) (wp_dec (by omega) (wp_dec (by omega) (wp_decs (fun h' => wp_ret ?_) (fun h' => wp_dec (by omega) (wp_dec (by omega) (wp_dec (by omega) (wp_dec (by omega) (wp_decs (fun h2 => wp_ret ?_) (fun h2 => ?_)))))))))))
        · have hlt := lt_of_div (show nv a / B ^ k < nv b / B ^ k by omega)
          simp only [cmpN]; rw [if_pos hlt]
        · have hlt := lt_of_div (show nv b / B ^ k < nv a / B ^ k by omega)
          simp only [cmpN]; rw [if_neg (by omega), if_neg (by omega)]
        · rw [wrap64 (by omega) (by omega)]
          exact ih () ⟨by omega, by omega⟩)
      (a.length + 1) (lb (nv a)).length () (by omega) ⟨by omega, by
        rw [Nat.div_eq_of_lt (lb_len.1 (Nat.le_refl _)), Nat.div_eq_of_lt (lb_len.1 (by omega))]⟩
    rw [wrap64 (by omega) (by omega)]
    exact key
end Go.Proofs.YtbgcadcpeabpgaaGreat
set_option maxRecDepth 100000
namespace Go.Proofs.YtbgcadcpeabpgaaGreat

theorem mul_bound {x y o c : Nat} (hx : x < B) (hy : y < B) (ho : o < B) (hc : c < B) : x * y + o + c < 18446744073709551616 ∧ x * y < 18446744073709551616 ∧ x * y + o < 18446744073709551616 := by
  have h1 : x * y ≤ (B - 1) * (B - 1) := Nat.mul_le_mul (by omega) (by omega)
  rw [B_eq] at *
  omega
theorem nat_Mul_sp (a b : List Limb) (ha : a.length ≤ 100000) (hb : b.length ≤ 100000) : Sp 161 [dL a, dL b] [dL (lb (nv a * nv b))] := by
  refine sound_ 100001 (nat_Mul_tree _ _ _) (wp_call (nat_trim_sp a (by omega)) (wp_call (nat_trim_sp b (by omega)) ?_))
  have la : (lb (nv a)).length ≤ a.length := lb_len.2 (nv_lt a)
  have lb_ : (lb (nv b)).length ≤ b.length := lb_len.2 (nv_lt b)
  simp only [getD_c0, els_dL, List.length_map, int_beq]
  generalize nv a = x at *
  generalize nv b = y at *
  refine wp_decs (fun h => wp_ret ?_) (fun h => wp_decs (fun h' => wp_ret ?_) (fun h' => ?_))
  · have : x = 0 := lb_len0.1 (by omega)
    rw [this, Nat.zero_mul, lb_zero]; rfl
  · have : y = 0 := lb_len0.1 (by omega)
    rw [this, Nat.mul_zero, lb_zero]; rfl
  have hm : (lb y).length = (lb y).length := rfl
  generalize hmm : (lb y).length = mm at *
  rw [wrap64 (by omega) (by omega)]
  refine wp_dec (by omega) (wp_dec (by omega) (wp_dec (by simp only [bigN]; omega) ?_))
  have hyB : y < B ^ mm := lb_len.1 (by omega)
  have hxB : x < B ^ (lb x).length := lb_len.1 (Nat.le_refl _)
  rw [show ((lb x).length : Int) + (mm : Int) = (((lb x).length + mm : Nat) : Int) by omega, Int.toNat_natCast]
  have key := loop_up (P := Tryz.prog) (md := md) (lb x).length (fun m i (lo : List Limb) => nat_Mul_l6 100001 m (dL (lb y)) ((lo ++ List.replicate ((lb x).length - i) 0).map dB) (dL (lb x)) ((lb x).length : Int) (i : Int)) (fun _ _ => [dL (lb (x * y))])
    (fun i lo => lo.length = i + mm ∧ nv lo = (x % B ^ i) * y)
    (fun m lo ⟨h1, h2⟩ => by
      simp only [nat_Mul_l6_succ, Nat.sub_self, List.replicate_zero, List.append_nil, dA_0, dA_1, dA_2, dC_0, dC_1, dC_2, dC_3, dC_4, dN_0, dN_1, dN_2, els_sl, els_dI, els_dL, List.length_map, Int.toNat_natCast, toInt_int, toInt_dB, toBool_bool, getD_c0, getD_c1, int_beq, int_bne, not_dec, dInt_dB, Int.toNat_zero]
      refine wp_ndec (by omega) (wp_call (nat_trim_sp lo (by omega)) (wp_ret ?_))
      rw [h2, Nat.mod_eq_of_lt hxB]; rfl)
    (fun m i lo hi ⟨h1, h2⟩ ih => by
      have gx := nv_limb (lb x) i hi
      rw [nv_lb] at gx
      have xl : x / B ^ i % B < B := Nat.mod_lt _ B_pos
      have gX : ((lb x).map dB).getD i D.nil = D.int ((x / B ^ i % B : Nat) : Int) := by rw [getD_map (List.getElem?_eq_getElem hi), ← gx]; rfl
      simp only [nat_Mul_l6_succ, dA_0, dA_1, dA_2, dC_0, dC_1, dC_2, dC_3, dC_4, dN_0, dN_1, dN_2, els_sl, els_dI, els_dL, List.length_map, Int.toNat_natCast, toInt_int, toInt_dB, toBool_bool, getD_c0, getD_c1, int_beq, int_bne, not_dec, dInt_dB, Int.toNat_zero, gX, hmm]
      refine wp_dec (by omega) (wp_dec (by omega) (wp_dec (by omega) ?_))
      have hxs : x % B ^ (i + 1) = x % B ^ i + B ^ i * (x / B ^ i % B) := Nat.mod_pow_succ
      generalize x / B ^ i % B = xi at *
      have key := loop_up (P := Tryz.prog) (md := md) mm (fun m' j (s : List Limb × Nat) => nat_Mul_l10 100001 m m' (dL (lb y)) ((s.1 ++ List.replicate ((lb x).length - i) 0).map dB) (i : Int) (xi : Int) (s.2 : Int) (dL (lb x)) ((lb x).length : Int) (i : Int) (dL (lb y)) (mm : Int) (j : Int)) (fun _ _ => [dL (lb (x * y))])
        (fun j s => s.1.length = i + mm ∧ s.2 < B ∧ nv s.1 + B ^ (i + j) * s.2 = nv lo + B ^ i * (xi * (y % B ^ j)))
        (fun m' s ⟨g1, g2, g3⟩ => by
          have ew : IntKind.wrap .i64 ((i : Int) + (mm : Int)) = ((i + mm : Nat) : Int) := by rw [wrap64 (by omega) (by omega)]; omega
          have hB := B_eq
          have ec : IntKind.wrap .u32 (s.2 : Int) = (s.2 : Int) := wrapU32 (by omega) (by omega)
          have hlen : (s.1 ++ List.replicate ((lb x).length - i) (0 : Limb)).length = (lb x).length + mm := by simp [g1]; omega
          simp only [nat_Mul_l10_succ, dA_0, dA_1, dA_2, dC_0, dC_1, dC_2, dC_3, dC_4, dN_0, dN_1, dN_2, els_sl, els_dI, els_dL, List.length_map, Int.toNat_natCast, toInt_int, toInt_dB, toBool_bool, getD_c0, getD_c1, int_beq, int_bne, not_dec, dInt_dB, Int.toNat_zero, hmm, ew, ec, hlen, wrap_succ (show i < 9223372036854775807 by omega)]
          refine wp_ndec (by omega) (wp_dec (by omega) (wp_dec (by omega) ?_))
          have hset : ((s.1 ++ List.replicate ((lb x).length - i) 0).map dB).set (i + mm) (D.int (s.2 : Int)) = ((s.1 ++ [BitVec.ofNat 32 s.2]) ++ List.replicate ((lb x).length - (i + 1)) 0).map dB := by
            rw [dB_ofNat g2, map_set, List.set_append_right _ _ (by omega), g1, Nat.sub_self, show (lb x).length - i = ((lb x).length - (i + 1)) + 1 by omega, List.replicate_succ, List.set_cons_zero]; simp
          rw [hset]
          refine ih _ ⟨by simp [g1]; omega, ?_⟩
          rw [nv_snoc, g1, ofNat_lt g2, g3, h2, Nat.mod_eq_of_lt hyB, hxs, Nat.add_mul, Nat.mul_assoc])
        (fun m' j s hj ⟨g1, g2, g3⟩ ih' => by
          have gy := nv_limb (lb y) j (by omega)
          rw [nv_lb] at gy
          have yl : y / B ^ j % B < B := Nat.mod_lt _ B_pos
          have gY : ((lb y).map dB).getD j D.nil = D.int ((y / B ^ j % B : Nat) : Int) := by rw [getD_map (List.getElem?_eq_getElem (by omega)), ← gy]; rfl
          have hys : y % B ^ (j + 1) = y % B ^ j + B ^ j * (y / B ^ j % B) := Nat.mod_pow_succ
          have hij : i + j < s.1.length := by omega
          have ew : IntKind.wrap .i64 ((i : Int) + (j : Int)) = ((i + j : Nat) : Int) := by rw [wrap64 (by omega) (by omega)]; omega
          have hlen : (s.1 ++ List.replicate ((lb x).length - i) (0 : Limb)).length = (lb x).length + mm := by simp [g1]; omega
          have gO : ((s.1 ++ List.replicate ((lb x).length - i) 0).map dB).getD (i + j) D.nil = D.int ((s.1[i + j]).toNat : Int) := by rw [getD_map (x := s.1[i + j]) (by rw [List.getElem?_append_left hij, List.getElem?_eq_getElem hij])]; rfl
          simp only [nat_Mul_l10_succ, dA_0, dA_1, dA_2, dC_0, dC_1, dC_2, dC_3, dC_4, dN_0, dN_1, dN_2, els_sl, els_dI, els_dL, List.length_map, Int.toNat_natCast, toInt_int, toInt_dB, toBool_bool, getD_c0, getD_c1, int_beq, int_bne, not_dec, dInt_dB, Int.toNat_zero, ew, gO, gY, hlen, wrap_succ (show j < 9223372036854775807 by omega)]
          generalize y / B ^ j % B = yj at *
          have ol := limb_lt (s.1[i + j])
          have hns := nv_set s.1 (i + j) hij (BitVec.ofNat 32 ((xi * yj + (s.1[i + j]).toNat + s.2) % B))
          have hmd := Nat.mod_lt (xi * yj + (s.1[i + j]).toNat + s.2) B_pos
          rw [ofNat_lt hmd] at hns
          generalize hoo : (s.1[i + j]).toNat = o at *
          have hbd := mul_bound xl yl ol g2
          have hB := B_eq
          have t0 : IntKind.wrap .u64 (xi : Int) = (xi : Int) := wrapU64 (by omega) (by omega)
          have t0' : IntKind.wrap .u64 (yj : Int) = (yj : Int) := wrapU64 (by omega) (by omega)
          have t0'' : IntKind.wrap .u64 (o : Int) = (o : Int) := wrapU64 (by omega) (by omega)
          have t1 : IntKind.wrap .u64 ((xi : Int) * (yj : Int)) = ((xi * yj : Nat) : Int) := by rw [← Int.natCast_mul]; exact wrapU64 (by omega) (by omega)
          have t2 : IntKind.wrap .u64 (((xi * yj : Nat) : Int) + (o : Int)) = ((xi * yj + o : Nat) : Int) := by rw [wrapU64 (by omega) (by omega)]; omega
          have t3 : IntKind.wrap .u64 (((xi * yj + o : Nat) : Int) + (s.2 : Int)) = ((xi * yj + o + s.2 : Nat) : Int) := by rw [wrapU64 (by omega) (by omega)]; omega
          simp only [t0, t0', t0'', t1, t2, t3, fdiv32]
          have t4 : IntKind.wrap .u32 ((xi * yj + o + s.2 : Nat) : Int) = (((xi * yj + o + s.2) % B : Nat) : Int) := by rw [IntKind.wrap_u32, B_eq]; omega
          have hset : ((s.1 ++ List.replicate ((lb x).length - i) 0).map dB).set (i + j) (D.int (((xi * yj + o + s.2) % B : Nat) : Int)) = ((s.1.set (i + j) (BitVec.ofNat 32 ((xi * yj + o + s.2) % B))) ++ List.replicate ((lb x).length - i) 0).map dB := by
            rw [dB_ofNat hmd, map_set, List.set_append_left _ _ hij]
          rw [t4, hset]
          refine wp_dec (by omega) (wp_dec (by omega) (wp_dec (by omega) (wp_dec (by omega) (wp_dec (by omega) (wp_dec (by omega) (wp_dec (by omega) (wp_tt (by decide) ?_)))))))
          have hcl : (xi * yj + o + s.2) / 4294967296 < B := by rw [B_eq]; omega
          refine ih' (s.1.set (i + j) (BitVec.ofNat 32 ((xi * yj + o + s.2) % B)), (xi * yj + o + s.2) / 4294967296) ⟨by simp [g1], hcl, ?_⟩
          show nv (s.1.set (i + j) _) + B ^ (i + (j + 1)) * ((xi * yj + o + s.2) / B) = _
          have q1 : B ^ (i + (j + 1)) * ((xi * yj + o + s.2) / B) = B ^ (i + j) * (B * ((xi * yj + o + s.2) / B)) := by rw [← Nat.add_assoc, Nat.pow_succ, Nat.mul_assoc]
          have q2 : B ^ (i + j) * ((xi * yj + o + s.2) % B) + B ^ (i + j) * (B * ((xi * yj + o + s.2) / B)) = B ^ (i + j) * (xi * yj + o + s.2) := by rw [← Nat.mul_add, Nat.mod_add_div]
          have q3 : B ^ (i + j) * (xi * yj + o + s.2) = B ^ (i + j) * (xi * yj) + B ^ (i + j) * o + B ^ (i + j) * s.2 := by rw [Nat.mul_add, Nat.mul_add]
          have q4 : B ^ i * (xi * (y % B ^ (j + 1))) = B ^ i * (xi * (y % B ^ j)) + B ^ (i + j) * (xi * yj) := by
            rw [hys, Nat.mul_add, Nat.mul_add, Nat.pow_add, Nat.mul_left_comm xi, Nat.mul_assoc]
          rw [q1, q4]
          omega)
        100001 0 (lo, 0) (by omega) (by omega) ⟨h1, B_pos, by simp [Nat.mod_one]⟩
      exact key)
    100001 0 (List.replicate mm 0) (by omega) (by omega) ⟨by simp, by rw [nv_zeros]; simp [Nat.mod_one]⟩
  have e0 : (List.replicate mm (0 : Limb) ++ List.replicate ((lb x).length - 0) 0).map dB = List.replicate ((lb x).length + mm) (D.int 0) := by
    rw [List.replicate_append_replicate, List.map_replicate, show mm + ((lb x).length - 0) = (lb x).length + mm by omega]; rfl
  rw [e0] at key
  exact key
theorem lb_two (z : Nat) : (lb (2 * z)).length ≤ (lb z).length + 1 := by
  refine lb_len.2 ?_
  have h : z < B ^ (lb z).length := lb_len.1 (Nat.le_refl _)
  rw [Nat.pow_succ]
  generalize B ^ (lb z).length = q at *
  rw [B_eq]; omega
theorem ref02_Mul_sp (a b : List Limb) (ha : a.length ≤ 10000) (hb : b.length ≤ 10000) : Sp 150 [dL a, dL b] [dL (lb (nv a * nv b))] := by
  refine sound_ (32 * a.length + 1) (ref02_Mul_tree _ _ _) ?_
  simp only [dA_0, dA_1, dA_2, dC_0, dC_1, dC_2, dC_3, dC_4, dN_0, dN_1, dN_2, els_sl, els_dI, els_dL, List.length_map, Int.toNat_natCast, toInt_int, toInt_dB, toBool_bool, getD_c0, getD_c1, int_beq, int_bne, not_dec, dInt_dB, Int.toNat_zero]
  have key := loop_down (P := Tryz.prog) (md := md) (fun m k (out : Nat) => ref02_Mul_l3 (32 * a.length + 1) m (dL a) (dL b) (dL (lb out)) ((k : Int) - 1)) (fun _ _ => [dL (lb (nv a * nv b))]) (fun k out => k ≤ 32 * a.length ∧ out = nv a / 2 ^ k * nv b)
    (fun m out ⟨_, h⟩ => by
      simp only [ref02_Mul_l3_succ]
      refine wp_ndec (by omega) (wp_ret ?_)
      simp at h; rw [h])
    (fun m k out ⟨h0, h⟩ ih => by
      simp only [ref02_Mul_l3_succ, show ((k + 1 : Nat) : Int) - 1 = (k : Int) by omega]
      have hl1 : (lb out).length ≤ a.length + b.length := by
        rw [h]
        refine lb_len.2 ?_
        have h1 : nv a / 2 ^ (k + 1) * nv b ≤ nv a * nv b := Nat.mul_le_mul_right _ (Nat.div_le_self _ _)
        have h2 : nv a * nv b < B ^ a.length * B ^ b.length := Nat.mul_lt_mul'' (nv_lt a) (nv_lt b)
        rw [← Nat.pow_add] at h2
        exact Nat.lt_of_le_of_lt h1 h2
      have hbit : nv a / 2 ^ k = 2 * (nv a / 2 ^ (k + 1)) + nv a / 2 ^ k % 2 := by
        have := Nat.div_add_mod (nv a / 2 ^ k) 2
        rw [Nat.div_div_eq_div_mul, ← Nat.pow_succ] at this
        exact this.symm
      have tw := ref02_twice_sp (lb out) 0 (by omega) (by omega)
      rw [nv_lb, Nat.add_zero] at tw
      refine wp_dec (by omega) (wp_call tw (wp_call (ref02_Bit_sp a k (by omega)) ?_))
      simp only [getD_c0, toInt_int]
      rw [wrap64 (by omega) (by omega)]
      refine wp_decs (fun h1 => ?_) (fun h1 => ?_)
      · have ad := ref02_Add_sp (lb (2 * out)) b (by have := lb_two out; omega) (by omega)
        rw [nv_lb] at ad
        refine wp_call ad ?_
        refine ih (2 * out + nv b) ⟨by omega, ?_⟩
        rw [hbit, show nv a / 2 ^ k % 2 = 1 by omega, Nat.add_mul, Nat.one_mul, Nat.mul_assoc, ← h]
      · refine ih (2 * out) ⟨by omega, ?_⟩
        have h2 := Nat.mod_lt (nv a / 2 ^ k) (show 0 < 2 by decide)
        rw [hbit, show nv a / 2 ^ k % 2 = 0 by omega, Nat.add_zero, Nat.mul_assoc, ← h])
    (32 * a.length + 1) (32 * a.length) 0 (by omega) ⟨by omega, by
      rw [Nat.div_eq_of_lt (by rw [← B_two]; exact nv_lt a), Nat.zero_mul]⟩
  rw [lb_zero] at key
  have e1 : IntKind.wrap .i64 (IntKind.wrap .i64 (32 * (a.length : Int)) - 1) = ((32 * a.length : Nat) : Int) - 1 := by rw [wrap64 (x := 32 * (a.length : Int)) (by omega) (by omega), wrap64 (by omega) (by omega)]; omega
  rw [e1]
  exact key
end Go.Proofs.YtbgcadcpeabpgaaGreat
