/- Proved: lemmas for the law of this folder, part 5. No condition. -/
import Derived.Test.YtdkanalnpbllcaaRows
import Derived.WalkKit
import Derived.WalkSpells
import Derived.WalkLawsBesides
import Derived.Lib.Hide
import Derived.Laws.CopyOwn
import Derived.Deep.QuietTactic
import Derived.BigQuiet
import Derived.Orders
import Derived.Defers
import Derived.Recover
import Derived.Test.YtdkanalnpbllcaaProg
import Derived.KernelRfl
import Derived.ProofKit
import Derived.OpenShut
import Derived.Test.YtdkanalnpbllcaaZa7e894ba
set_option linter.unusedSimpArgs false
set_option linter.unusedVariables false
set_option maxRecDepth 100000
namespace Go.Proofs.Ytdkanalnpbllcaa

structure Wh where
  neg : Bool
  mag : List Limb
def dW (w : Wh) : D := .agg [.bool w.neg, dL w.mag]
def zv (w : Wh) : Int := if w.neg then -(nv w.mag : Int) else (nv w.mag : Int)
def wz (z : Int) : Wh := ⟨decide (z < 0), lb z.natAbs⟩
@[simp] theorem dW_0 (w : Wh) : (dW w).fld 0 = .bool w.neg := rfl
@[simp] theorem dW_1 (w : Wh) : (dW w).fld 1 = dL w.mag := rfl
theorem dW_mk (b : Bool) (l : List Limb) : D.agg [.bool b, dL l] = dW ⟨b, l⟩ := rfl
theorem dW_zero : D.agg [.bool false, .sl []] = dW (wz 0) := by simp [dW, wz, lb_zero, dL]
theorem zv_abs (w : Wh) : (zv w).natAbs = nv w.mag := by unfold zv; split <;> omega
theorem wz_len (w : Wh) : (lb (zv w).natAbs).length ≤ w.mag.length := by rw [zv_abs]; exact lb_len.2 (nv_lt _)
theorem zv_wz (z : Int) : zv (wz z) = z := by
  unfold zv wz
  simp only [nv_lb, decide_eq_true_eq]
  split <;> omega
theorem zv_lb (b : Bool) (n : Nat) : zv ⟨b, lb n⟩ = if b then -(n : Int) else (n : Int) := by simp only [zv, nv_lb]
theorem wz_zero : wz 0 = ⟨false, []⟩ := by simp [wz, lb_zero]
theorem wz_of (b : Bool) {n : Nat} (h : n ≠ 0) : wz (if b then -(n : Int) else (n : Int)) = ⟨b, lb n⟩ := by
  cases b <;> simp [wz] <;> omega
theorem wz_zv (w : Wh) : wz (zv w) = if nv w.mag = 0 then ⟨false, []⟩ else ⟨w.neg, lb (nv w.mag)⟩ := by
  split
  · rename_i h
    unfold zv; rw [h]; simp [wz_zero]
  · rename_i h
    unfold zv
    exact wz_of _ h
theorem bool_beq (a b : Bool) : (a == b) = decide (a = b) := by cases a <;> cases b <;> rfl
def inR (z : Int) : Prop := -9223372036854775808 ≤ z ∧ z ≤ 9223372036854775807
instance (z : Int) : Decidable (inR z) := by unfold inR; infer_instance
/-- A number as an int. -/
def smallZ (z : Int) : List D := if inR z then [.int z, .bool true] else [.int 0, .bool false]
def sgnZ (z : Int) : Int := if z < 0 then -1 else if z = 0 then 0 else 1
def cmpZ (x y : Int) : Int := if x < y then -1 else if x = y then 0 else 1
theorem ref03_Norm_sp (w : Wh) (h : w.mag.length ≤ 1000000) : Sp 148 [dW w] [dW (wz (zv w))] := by
  refine sound_ 0 (ref03_Norm_tree _ _) (wp_call (ref02_Norm_sp w.mag h) ?_)
  simp only [getD_c0, els_dL, List.length_map, int_beq, dW_0, toBool_bool]
  refine wp_decs (fun h => wp_ret ?_) (fun h => wp_ret ?_)
  · have h0 : nv w.mag = 0 := lb_len0.1 (by omega)
    rw [wz_zv, if_pos h0]; rfl
  · have h0 : nv w.mag ≠ 0 := fun hh => h (by rw [hh, lb_zero]; rfl)
    rw [wz_zv, if_neg h0]; rfl
theorem two_limbs {n : Nat} (h : n < 18446744073709551616) : nv [BitVec.ofNat 32 (n % 4294967296), BitVec.ofNat 32 (n / 4294967296)] = n := by
  simp only [nv, nv_nil]
  rw [ofNat_lt (by rw [B_eq]; omega), ofNat_lt (by rw [B_eq]; omega), B_eq]; omega
theorem ref03_Of_sp (z : Int) (h : inR z) : Sp 113 [.int z] [dW (wz z)] := by
  unfold inR at h
  refine sound_ 0 (ref03_Of_tree _ _) ?_
  simp only [toInt_int]
  refine wp_decs (fun h0 => ?_) (fun h0 => ?_)
  · obtain ⟨n, rfl⟩ : ∃ n : Nat, z = n := ⟨z.toNat, by omega⟩
    have e : [D.int (IntKind.wrap .u32 (Int.tmod (n : Int) 4294967296)), D.int (IntKind.wrap .u32 (IntKind.wrap .i64 (Int.tdiv (n : Int) 4294967296)))] = [BitVec.ofNat 32 (n % 4294967296), BitVec.ofNat 32 (n / 4294967296)].map dB := by
      rw [Int.tmod_eq_emod_of_nonneg (by omega), Int.tdiv_eq_ediv_of_nonneg (by omega), show (n : Int) % 4294967296 = ((n % 4294967296 : Nat) : Int) by omega, show (n : Int) / 4294967296 = ((n / 4294967296 : Nat) : Int) by omega,
        wrap64 (by omega) (by omega), wrapU32 (by omega) (by omega), wrapU32 (by omega) (by omega), dB_ofNat (by rw [B_eq]; omega), dB_ofNat (by rw [B_eq]; omega)]; rfl
    rw [e]
    have hv := two_limbs (n := n) (by omega)
    refine wp_tt (by decide) (wp_tt (by decide) (wp_call (ref03_Norm_sp ⟨false, [BitVec.ofNat 32 (n % 4294967296), BitVec.ofNat 32 (n / 4294967296)]⟩ (by simp)) (wp_ret ?_)))
    simp only [getD_c0, zv, hv]; rfl
  · obtain ⟨n, rfl⟩ : ∃ n : Nat, z = -1 - (n : Int) := ⟨(-1 - z).toNat, by omega⟩
    have e : [D.int (IntKind.wrap .u32 (Int.tmod (IntKind.wrap .i64 (-1 - (-1 - (n : Int)))) 4294967296)), D.int (IntKind.wrap .u32 (IntKind.wrap .i64 (Int.tdiv (IntKind.wrap .i64 (-1 - (-1 - (n : Int)))) 4294967296)))] = [BitVec.ofNat 32 (n % 4294967296), BitVec.ofNat 32 (n / 4294967296)].map dB := by
      rw [show (-1 : Int) - (-1 - (n : Int)) = (n : Int) by omega, wrap64 (x := (n : Int)) (by omega) (by omega), Int.tmod_eq_emod_of_nonneg (by omega), Int.tdiv_eq_ediv_of_nonneg (by omega), show (n : Int) % 4294967296 = ((n % 4294967296 : Nat) : Int) by omega, show (n : Int) / 4294967296 = ((n / 4294967296 : Nat) : Int) by omega,
        wrap64 (by omega) (by omega), wrapU32 (by omega) (by omega), wrapU32 (by omega) (by omega), dB_ofNat (by rw [B_eq]; omega), dB_ofNat (by rw [B_eq]; omega)]; rfl
    rw [e]
    have hv := two_limbs (n := n) (by omega)
    have sp := ref02_Add_sp [BitVec.ofNat 32 (n % 4294967296), BitVec.ofNat 32 (n / 4294967296)] [1] (by simp) (by simp)
    rw [hv, show nv [1] = 1 from rfl] at sp
    refine wp_tt (by decide) (wp_tt (by decide) (wp_call sp ?_))
    simp only [getD_c0]
    have hl : (lb (n + 1)).length ≤ 3 := lb_len.2 (by show n + 1 < 79228162514264337593543950336; omega)
    refine wp_call (ref03_Norm_sp ⟨true, lb (n + 1)⟩ (by simp only; omega)) (wp_ret ?_)
    simp only [getD_c0, zv_lb, if_true]
    rw [show -((n + 1 : Nat) : Int) = -1 - (n : Int) by omega]
theorem ref03_Neg_sp (w : Wh) (h : w.mag.length ≤ 1000000) : Sp 161 [dW w] [dW (wz (-zv w))] := by
  refine sound_ 0 (ref03_Neg_tree _ _) ?_
  simp only [dW_0, dW_1, toBool_bool]
  refine wp_call (ref03_Norm_sp ⟨!w.neg, w.mag⟩ h) (wp_ret ?_)
  simp only [getD_c0]
  rw [show zv ⟨!w.neg, w.mag⟩ = -zv w by unfold zv; cases w.neg <;> simp]
theorem ref03_Add_sp (a b : Wh) (ha : a.mag.length ≤ 10000) (hb : b.mag.length ≤ 10000) : Sp 160 [dW a, dW b] [dW (wz (zv a + zv b))] := by
  refine sound_ 0 (ref03_Add_tree _ _ _) (wp_call (ref03_Norm_sp a (by omega)) (wp_call (ref03_Norm_sp b (by omega)) ?_))
  have la := wz_len a
  have lb' := wz_len b
  generalize zv a = x at *
  generalize zv b = y at *
  simp only [getD_c0, dW_0, dW_1, toBool_bool, bool_beq, wz]
  have hadd : (lb (x.natAbs + y.natAbs)).length ≤ 10001 := by
    refine lb_len.2 ?_
    have h1 := lb_len.1 (Nat.le_trans la ha)
    have h2 := lb_len.1 (Nat.le_trans lb' hb)
    obtain ⟨K, hK⟩ : ∃ K, K = 10000 := ⟨_, rfl⟩
    rw [← hK] at h1 h2
    rw [show 10001 = K + 1 by omega, Nat.pow_succ, B_eq]
    rw [B_eq] at h1 h2
    omega
  have hsub : ∀ p q : Nat, (lb p).length ≤ 10000 → (lb (p - q)).length ≤ 10000 := fun p q hp => by
    obtain ⟨K, hK⟩ : ∃ K, K = 10000 := ⟨_, rfl⟩
    rw [← hK] at hp ⊢
    exact lb_len.2 (Nat.lt_of_le_of_lt (Nat.sub_le _ _) (lb_len.1 hp))
  refine wp_decs (fun h => ?_) (fun h => ?_)
  · have sp := ref02_Add_sp (lb x.natAbs) (lb y.natAbs) (by omega) (by omega)
    rw [nv_lb, nv_lb] at sp
    refine wp_call sp ?_
    simp only [getD_c0]
    refine wp_call (ref03_Norm_sp ⟨decide (x < 0), lb (x.natAbs + y.natAbs)⟩ (by simp only; omega)) (wp_ret ?_)
    simp only [getD_c0, zv_lb]
    have h' : x < 0 ↔ y < 0 := by simpa using h
    congr 2
    rw [show (if decide (x < 0) = true then -((x.natAbs + y.natAbs : Nat) : Int) else ((x.natAbs + y.natAbs : Nat) : Int)) = x + y by
      by_cases hx : x < 0 <;> simp [hx] <;> omega]
    rfl
  · have h' : ¬ (x < 0 ↔ y < 0) := by simpa using h
    have sp := ref02_Cmp_sp (lb x.natAbs) (lb y.natAbs) (by omega) (by omega)
    rw [nv_lb, nv_lb] at sp
    refine wp_call sp ?_
    simp only [getD_c0, toInt_int, cmpN]
    refine wp_decs (fun h2 => ?_) (fun h2 => ?_)
    · have sp := ref02_Sub_sp (lb x.natAbs) (lb y.natAbs) (by omega) (by omega)
      rw [nv_lb, nv_lb] at sp
      refine wp_call sp ?_
      simp only [getD_c0]
      refine wp_call (ref03_Norm_sp ⟨decide (x < 0), lb (x.natAbs - y.natAbs)⟩ (by simp only; have := hsub x.natAbs y.natAbs (by omega); omega)) (wp_ret ?_)
      simp only [getD_c0, zv_lb]
      have hge : y.natAbs ≤ x.natAbs := by split at h2 <;> omega
      rw [show (if decide (x < 0) = true then -((x.natAbs - y.natAbs : Nat) : Int) else ((x.natAbs - y.natAbs : Nat) : Int)) = x + y by
        by_cases hx : x < 0 <;> simp [hx] <;> omega]
      rfl
    · have sp := ref02_Sub_sp (lb y.natAbs) (lb x.natAbs) (by omega) (by omega)
      rw [nv_lb, nv_lb] at sp
      refine wp_call sp ?_
      simp only [getD_c0]
      refine wp_call (ref03_Norm_sp ⟨decide (y < 0), lb (y.natAbs - x.natAbs)⟩ (by simp only; have := hsub y.natAbs x.natAbs (by omega); omega)) (wp_ret ?_)
      simp only [getD_c0, zv_lb]
      have hge : x.natAbs < y.natAbs := by
        rcases Nat.lt_or_ge x.natAbs y.natAbs with h3 | h3
        · exact h3
        · rw [if_neg (by omega)] at h2; split at h2 <;> omega
      rw [show (if decide (y < 0) = true then -((y.natAbs - x.natAbs : Nat) : Int) else ((y.natAbs - x.natAbs : Nat) : Int)) = x + y by
        by_cases hx : y < 0 <;> simp [hx] <;> omega]
      rfl
theorem ref03_Sub_sp (a b : Wh) (ha : a.mag.length ≤ 10000) (hb : b.mag.length ≤ 10000) : Sp 120 [dW a, dW b] [dW (wz (zv a - zv b))] := by
  refine sound_ 0 (ref03_Sub_tree _ _ _) (wp_call (ref03_Neg_sp b (by omega)) ?_)
  simp only [getD_c0]
  have := wz_len b
  refine wp_call (ref03_Add_sp a (wz (-zv b)) ha (by simp only [wz, Int.natAbs_neg]; omega)) (wp_ret ?_)
  simp only [getD_c0, zv_wz, ← Int.sub_eq_add_neg]
theorem ref03_Sign_sp (a : Wh) (ha : a.mag.length ≤ 1000000) : Sp 119 [dW a] [.int (sgnZ (zv a))] := by
  refine sound_ 0 (ref03_Sign_tree _ _) (wp_call (ref03_Norm_sp a ha) ?_)
  generalize zv a = x
  simp only [getD_c0, dW_0, dW_1, els_dL, List.length_map, int_beq, toBool_bool, wz]
  have h0 : ((lb x.natAbs).length : Int) = 0 ↔ x = 0 := by rw [Int.natCast_eq_zero, lb_len0]; omega
  unfold sgnZ
  refine wp_decs (fun h => wp_ret ?_) (fun h => wp_decs (fun h2 => wp_ret ?_) (fun h2 => wp_ret ?_))
  · rw [if_neg (by have := h0.1 h; omega), if_pos (h0.1 h)]
  · rw [if_pos h2]
  · rw [if_neg h2, if_neg (fun hh => h (h0.2 hh))]
theorem mul_i64_small {x : Int} (h : inR (x * 4294967296)) : IntKind.wrap .i64 (x * 4294967296) = x * 4294967296 := wrap64 h.1 h.2
theorem nat_trim_sp (l : List Limb) (hl : l.length < 9223372036854775807) : Sp 184 [dL l] [dL (lb (nv l))] := by
  refine sound_ (l.length + 1) (nat_trim_tree _ _) ?_
  have := loop_down (P := Try.prog) (md := md) (fun m k (_ : Unit) => nat_trim_l2 (l.length + 1) m (dL l) (k : Int)) (fun _ _ => [dL (lb (nv l))]) (fun k _ => k ≤ l.length ∧ ∀ i, k ≤ i → (hi : i < l.length) → l[i] = 0)
    (fun m s ⟨h1, h2⟩ => by
      simp only [nat_trim_l2_succ, els_dL, List.length_map, List.length_take]
      refine wp_ndec (by omega) (wp_dec (by omega) (wp_dec (by omega) (wp_dec (by omega) (wp_ret ?_))))
      rw [lb_take (k := 0) (by omega) h2 (fun _ h => by omega), dL_take]; rfl)
    (fun m k s ⟨h1, h2⟩ ih => by
      have hk : l[k]? = some l[k] := List.getElem?_eq_getElem _
      simp only [nat_trim_l2_succ, els_dL, List.length_map, List.length_take, wrap_pred k (by omega), Int.toNat_natCast, getD_map hk, toInt_dB, int_beq]
      refine wp_dec (by omega) (wp_dec (by omega) (wp_dec (by omega) (wp_decs (fun h => ?_) (fun h => ?_))))
      · refine ih () ⟨by omega, fun i hi hlt => ?_⟩
        by_cases he : i = k
        · subst he; exact BitVec.eq_of_toNat_eq (by simp; omega)
        · exact h2 i (by omega) hlt
      · refine wp_dec (by omega) (wp_dec (by omega) (wp_dec (by omega) (wp_ret ?_)))
        rw [lb_take (k := k + 1) (by omega) h2 (fun _ _ hc => h (by have hc' : l[k] = 0 := hc; rw [hc']; rfl)), dL_take])
    (l.length + 1) l.length () (by omega) ⟨Nat.le_refl _, fun i h1 h2 => by omega⟩
  simpa using this
theorem nat_Norm_sp (l : List Limb) (hl : l.length ≤ 1000000) : Sp 166 [dL l] [dL (lb (nv l))] := by
  refine sound_ 0 (nat_Norm_tree _ _) (wp_call (nat_trim_sp l (by omega)) ?_)
  have h1 : (lb (nv l)).length ≤ l.length := lb_len.2 (nv_lt l)
  simp only [getD_c0, els_dL, List.length_map, List.length_replicate, Int.toNat_natCast]
  refine wp_dec (by omega) (wp_dec (by omega) (wp_dec (by unfold bigN; omega) (wp_ret ?_)))
  rw [List.take_of_length_le (by simp), List.drop_eq_nil_of_le (by simp), List.append_nil]; rfl
theorem whole_signed_sp (b : Bool) (n : Nat) : Sp 165 [.bool b, dL (lb n)] [dW (wz (if b then -(n : Int) else (n : Int)))] := by
  refine sound_ 0 (whole_signed_tree _ _ _) ?_
  simp only [els_dL, List.length_map, int_beq, toBool_bool]
  refine wp_decs (fun h => wp_ret ?_) (fun h => wp_ret ?_)
  · have : n = 0 := lb_len0.1 (by omega)
    subst this
    simp [dW_zero]
  · have : n ≠ 0 := fun hh => h (by rw [hh, lb_zero]; rfl)
    rw [wz_of _ this]; rfl
theorem whole_Norm_sp (w : Wh) (h : w.mag.length ≤ 1000000) : Sp 164 [dW w] [dW (wz (zv w))] := by
  refine sound_ 0 (whole_Norm_tree _ _) (wp_call (nat_Norm_sp w.mag h) ?_)
  simp only [getD_c0, dW_0, toBool_bool]
  exact wp_call (whole_signed_sp w.neg (nv w.mag)) (wp_ret rfl)
theorem u64_neg {z : Int} (h : z < 0) (h2 : -9223372036854775808 ≤ z) : IntKind.wrap .u64 (0 - IntKind.wrap .u64 z) = -z := by
  rw [IntKind.wrap_u64, IntKind.wrap_u64]; omega
theorem fdiv32 (x : Nat) : Int.fdiv (x : Int) (2 ^ (min (Int.toNat 32) (IntKind.bits .u64))) = ((x / 4294967296 : Nat) : Int) := by
  show Int.fdiv (x : Int) 4294967296 = _
  rw [Int.fdiv_eq_ediv_of_nonneg _ (by omega)]; omega
theorem whole_Of_sp (z : Int) (h : inR z) : Sp 131 [.int z] [dW (wz z)] := by
  unfold inR at h
  refine sound_ 0 (whole_Of_tree _ _) ?_
  simp only [toInt_int]
  have main : ∀ n : Nat, n < 18446744073709551616 → [D.int (IntKind.wrap .u32 (n : Int)), D.int (IntKind.wrap .u32 (Int.fdiv (n : Int) (2 ^ (min (Int.toNat 32) (IntKind.bits .u64)))))] = [BitVec.ofNat 32 (n % 4294967296), BitVec.ofNat 32 (n / 4294967296)].map dB := by
    intro n hn
    rw [fdiv32, wrapU32 (x := ((n / 4294967296 : Nat) : Int)) (by omega) (by omega), dB_ofNat (t := n / 4294967296) (by rw [B_eq]; omega), show IntKind.wrap .u32 (n : Int) = ((n % 4294967296 : Nat) : Int) by rw [IntKind.wrap_u32]; omega, dB_ofNat (t := n % 4294967296) (by rw [B_eq]; omega)]; rfl
  refine wp_decs (fun h0 => ?_) (fun h0 => ?_)
  · obtain ⟨n, hn⟩ : ∃ n : Nat, -z = n := ⟨(-z).toNat, by omega⟩
    rw [u64_neg h0 h.1, hn, main n (by omega)]
    simp only [h0, decide_true]
    have sp := nat_Norm_sp [BitVec.ofNat 32 (n % 4294967296), BitVec.ofNat 32 (n / 4294967296)] (by simp)
    rw [two_limbs (by omega)] at sp
    refine wp_dec (by omega) (wp_call sp ?_)
    simp only [getD_c0]
    refine wp_call (whole_signed_sp true n) (wp_ret ?_)
    simp only [getD_c0, if_true]
    rw [show -(n : Int) = z by omega]
  · obtain ⟨n, rfl⟩ : ∃ n : Nat, z = n := ⟨z.toNat, by omega⟩
    rw [wrapU64 (by omega) (by omega), main n (by omega)]
    simp only [h0, decide_false]
    have sp := nat_Norm_sp [BitVec.ofNat 32 (n % 4294967296), BitVec.ofNat 32 (n / 4294967296)] (by simp)
    rw [two_limbs (by omega)] at sp
    refine wp_dec (by omega) (wp_call sp ?_)
    simp only [getD_c0]
    exact wp_call (whole_signed_sp false n) (wp_ret rfl)
theorem or_limb {x d : Nat} (hx : x < 4294967296) (hd : d < 4294967296) : bits_ .or .u64 (x : Int) ((d * 4294967296 : Nat) : Int) = ((x + d * 4294967296 : Nat) : Int) := by
  have h := or_bits (BitVec.ofNat 64 x) (BitVec.ofNat 64 (d * 4294967296))
  rw [BitVec.toNat_or, BitVec.toNat_ofNat, BitVec.toNat_ofNat, Nat.mod_eq_of_lt (a := x) (by omega), Nat.mod_eq_of_lt (a := d * 4294967296) (by omega)] at h
  rw [h]
  congr 1
  have := Nat.two_pow_add_eq_or_of_lt (i := 32) (b := x) (by omega) d
  rw [show 2 ^ 32 * d = d * 4294967296 by omega] at this
  rw [Nat.or_comm, ← this]; omega
end Go.Proofs.Ytdkanalnpbllcaa
set_option maxRecDepth 100000
namespace Go.Proofs.Ytdkanalnpbllcaa

def numT (n : Num) : Int := zv ⟨n.neg, n.top⟩
def numB (n : Num) : Int := (nv n.bot : Int)
def ofZ (z : Int) : Num := ⟨decide (z < 0), lb z.natAbs, [1]⟩
def optI : Option Int → List D
  | some z => [.int z, .bool true]
  | none => [.int 0, .bool false]
def smO (z : Int) : Option Int := if inR z then some z else none
theorem smallZ_eq (z : Int) : smallZ z = optI (smO z) := by unfold smallZ smO; split <;> rfl
/-- A number as an int. -/
def smallN (n : Num) : Option Int := if n.bot = [1] then smO (numT n) else none
/-- In lowest terms; an error. -/
def mkR (p q : Int) : Num × Int :=
  if q = 0 then (.zero, 3)
  else if 32 < (lb (p.natAbs / Nat.gcd p.natAbs q.natAbs)).length ∨ 32 < (lb (q.natAbs / Nat.gcd p.natAbs q.natAbs)).length then (.zero, 7)
  else (⟨decide (0 < (lb (p.natAbs / Nat.gcd p.natAbs q.natAbs)).length) && !(decide (p < 0) == decide (q < 0)), lb (p.natAbs / Nat.gcd p.natAbs q.natAbs), lb (q.natAbs / Nat.gcd p.natAbs q.natAbs)⟩, 0)
def rightN (n : Num) : Bool := decide (n.top.length ≤ 32 ∧ n.bot.length ≤ 32 ∧ mkR (numT n) (numB n) = (n, 0))
theorem dN_zero : D.agg [.bool false, .sl [], .sl []] = dN .zero := rfl
theorem one_iff (l : List Limb) : (l = [1]) ↔ (l.length = 1 ∧ ∀ h : 0 < l.length, l[0].toNat = 1) := by
  constructor
  · rintro rfl; exact ⟨rfl, fun _ => rfl⟩
  · rintro ⟨h1, h2⟩
    match l, h1 with
    | [x], _ => have := h2 (by simp); simp at this; exact congrArg (· :: []) (BitVec.eq_of_toNat_eq (by simpa using this))
theorem one_tree {P : Program} {md : Nat → FMode} (l : List Limb) : (Tree.br (((l.map dB).length : Int) == 1) (.br (decide (0 ≤ (0 : Int))) (.br (decide (0 < ((l.map dB).length : Int))) (.ret [D.bool ((((l.map dB).getD (Int.toNat 0) D.nil).toInt) == 1)]) .fail) .fail) (.ret [D.bool false])).wp P md (fun zs => zs = [.bool (decide (l = [1]))]) := by
  simp only [List.length_map, int_beq]
  refine wp_decs (fun h => wp_dec (by omega) (wp_dec (by omega) (wp_ret ?_))) (fun h => wp_ret ?_)
  · have hg : l[0]? = some (l[0]'(by omega)) := List.getElem?_eq_getElem _
    rw [show Int.toNat 0 = 0 from rfl, getD_map hg, toInt_dB]
    congr 2
    rw [decide_eq_decide, one_iff]
    refine ⟨fun hh => ⟨by omega, fun _ => by omega⟩, fun hh => by have := hh.2 (by omega); omega⟩
  · rw [decide_eq_false]; rintro rfl; exact h rfl
theorem ratio_isOne_sp (l : List Limb) : Sp 142 [dL l] [.bool (decide (l = [1]))] := by
  refine sound_ 0 (ratio_isOne_tree _ _) ?_
  simp only [els_dL]
  exact one_tree l
theorem ref04_Top_sp (n : Num) (h : n.top.length ≤ 1000000) : Sp 122 [dN n] [dW (wz (numT n))] := by
  refine sound_ 0 (ref04_Top_tree _ _) ?_
  simp only [dN_0, dN_1, toBool_bool]
  exact wp_call (ref03_Norm_sp ⟨n.neg, n.top⟩ h) (wp_ret rfl)
theorem ref04_Bot_sp (n : Num) (h : n.bot.length ≤ 1000000) : Sp 123 [dN n] [dW (wz (numB n))] := by
  refine sound_ 0 (ref04_Bot_tree _ _) ?_
  simp only [dN_2]
  exact wp_call (ref03_Norm_sp ⟨false, n.bot⟩ h) (wp_ret rfl)
theorem ref04_Whole_sp (w : Wh) (h : w.mag.length ≤ 1000000) : Sp 112 [dW w] [dN (ofZ (zv w))] := by
  refine sound_ 0 (ref04_Whole_tree _ _) (wp_call (ref03_Norm_sp w h) (wp_ret rfl))
theorem ref04_Of_sp (z : Int) (h : inR z) : Sp 82 [.int z] [dN (ofZ z)] := by
  refine sound_ 0 (ref04_Of_tree _ _) (wp_call (ref03_Of_sp z h) ?_)
  have hl : (wz z).mag.length ≤ 2 := lb_len.2 (by unfold inR at h; show z.natAbs < 18446744073709551616; omega)
  refine wp_call (ref04_Whole_sp (wz z) (by omega)) (wp_ret ?_)
  rw [zv_wz]; rfl
theorem ratio_top_sp (n : Num) : Sp 144 [dN n] [dW ⟨n.neg, n.top⟩] := sound_ 0 (ratio_top_tree _ _) (wp_ret rfl)
/-- A whole number, if it is not too great. -/
def wholeN (z : Int) : Num := if 32 < (lb z.natAbs).length then .zero else ofZ z
theorem ratio_Whole_sp (w : Wh) (h : w.mag.length ≤ 1000000) : Sp 130 [dW w] [dN (wholeN (zv w))] := by
  refine sound_ 0 (ratio_Whole_tree _ _) (wp_call (whole_Norm_sp w h) ?_)
  simp only [getD_c0, dW_0, dW_1, els_dL, List.length_map, toBool_bool]
  unfold wholeN
  refine wp_decs (fun h => wp_ret ?_) (fun h => wp_ret ?_)
  · rw [if_pos (by simp only [wz] at h; omega)]; rfl
  · rw [if_neg (by simp only [wz] at h; omega)]; rfl
theorem ratio_Of_sp (z : Int) (h : inR z) : Sp 96 [.int z] [dN (ofZ z)] := by
  refine sound_ 0 (ratio_Of_tree _ _) (wp_call (whole_Of_sp z h) ?_)
  have hl : (wz z).mag.length ≤ 2 := lb_len.2 (by unfold inR at h; show z.natAbs < 18446744073709551616; omega)
  refine wp_call (ratio_Whole_sp (wz z) (by omega)) (wp_ret ?_)
  rw [zv_wz, wholeN, if_neg (by simp only [wz] at hl; omega)]; rfl
theorem num_eq (a b : Num) : (a = b) ↔ (a.neg = b.neg ∧ a.top = b.top ∧ a.bot = b.bot) := by
  cases a; cases b; simp
theorem ref04_Same_sp (a b : Num) (h1 : a.top.length ≤ 9223372036854775807) (h2 : a.bot.length ≤ 9223372036854775807) : Sp 88 [dN a, dN b] [.bool (decide (a = b))] := by
  refine sound_ 0 (ref04_Same_tree _ _ _) ?_
  simp only [dN_0, dN_1, dN_2, toBool_bool, bool_beq]
  refine wp_decs (fun e1 => wp_call (ref02_Same_sp a.top b.top h1) ?_) (fun e1 => wp_ret ?_)
  · simp only [getD_c0, toBool_bool]
    refine wp_decs (fun e2 => wp_call (ref02_Same_sp a.bot b.bot h2) (wp_ret ?_)) (fun e2 => wp_ret ?_)
    · simp only [getD_c0, toBool_bool]
      congr 2
      rw [decide_eq_decide, num_eq]; simp [e1, e2]
    · rw [decide_eq_false]; rintro rfl; exact e2 rfl
  · rw [decide_eq_false]; rintro rfl; exact e1 rfl
theorem slices_EqualU_sp (a b : List Limb) (ha : a.length ≤ 9223372036854775807) : Sp 116 [dL a, dL b] [.bool (decide (a = b))] := by
  refine sound_ (a.length + 1) (slices_Equal_uint32_uint32_tree _ _ _) ?_
  simp only [els_dL, List.length_map, int_bne]
  refine wp_decs (fun h => wp_ret ?_) (fun h => ?_)
  · rw [decide_eq_false]; rintro rfl; exact h rfl
  · refine eq_loop dB dB_inj a b (by omega) ha (fun m i => slices_Equal_uint32_uint32_l4 (a.length + 1) m (dL a) (dL b) (a.length : Int) i) (fun m i => ?_)
    rw [slices_Equal_uint32_uint32_l4_succ]
    simp only [els_dL, List.length_map]
theorem slices_EqualI_sp (a b : List Int) (ha : a.length ≤ 9223372036854775807) : Sp 86 [dI a, dI b] [.bool (decide (a = b))] := by
  refine sound_ (a.length + 1) (slices_Equal_int_int_tree _ _ _) ?_
  simp only [els_dI, List.length_map, int_bne]
  refine wp_decs (fun h => wp_ret ?_) (fun h => ?_)
  · rw [decide_eq_false]; rintro rfl; exact h rfl
  · refine eq_loop D.int dint_inj a b (by omega) ha (fun m i => slices_Equal_int_int_l4 (a.length + 1) m (dI a) (dI b) (a.length : Int) i) (fun m i => ?_)
    rw [slices_Equal_int_int_l4_succ]
    simp only [els_dI, List.length_map]
theorem ratio_Same_sp (a b : Num) (h1 : a.top.length ≤ 9223372036854775807) (h2 : a.bot.length ≤ 9223372036854775807) : Sp 85 [dN a, dN b] [.bool (decide (a = b))] := by
  refine sound_ 0 (ratio_Same_tree _ _ _) ?_
  simp only [dN_0, dN_1, dN_2, toBool_bool, bool_beq]
  refine wp_decs (fun e1 => wp_call (slices_EqualU_sp a.top b.top h1) ?_) (fun e1 => wp_ret ?_)
  · simp only [getD_c0, toBool_bool]
    refine wp_decs (fun e2 => wp_call (slices_EqualU_sp a.bot b.bot h2) (wp_ret ?_)) (fun e2 => wp_ret ?_)
    · simp only [getD_c0, toBool_bool]
      congr 2
      rw [decide_eq_decide, num_eq]; simp [e1, e2]
    · rw [decide_eq_false]; rintro rfl; exact e2 rfl
  · rw [decide_eq_false]; rintro rfl; exact e1 rfl
theorem ref04_Make_sp (p q : Wh) (hp : p.mag.length ≤ 1000) (hq : q.mag.length ≤ 1000) : Sp 138 [dW p, dW q] [dN (mkR (zv p) (zv q)).1, .int (mkR (zv p) (zv q)).2] := by
  refine sound_ 0 (ref04_Make_tree _ _ _) (wp_call (ref03_Norm_sp p (by omega)) (wp_call (ref03_Norm_sp q (by omega)) ?_))
  have lp := wz_len p
  have lq := wz_len q
  generalize zv p = x at *
  generalize zv q = y at *
  simp only [getD_c0, dW_0, dW_1, els_dL, List.length_map, toBool_bool, int_beq, wz]
  refine wp_decs (fun h => wp_ret ?_) (fun h => ?_)
  · have : y = 0 := by have := lb_len0.1 (show (lb y.natAbs).length = 0 by omega); omega
    unfold mkR; rw [if_pos this]; rfl
  · have hy : y ≠ 0 := fun hh => h (by rw [hh]; simp [lb_zero])
    have sp := ref02_Gcd_sp (lb x.natAbs) (lb y.natAbs) (by omega) (by omega)
    rw [nv_lb, nv_lb] at sp
    refine wp_call sp ?_
    simp only [getD_c0]
    have hg : Nat.gcd x.natAbs y.natAbs ≠ 0 := fun hh => hy (by have := (Nat.gcd_eq_zero_iff.1 hh).2; omega)
    have hgl : (lb (Nat.gcd x.natAbs y.natAbs)).length ≤ 1000 := by
      refine Nat.le_trans ?_ (Nat.le_trans lq hq)
      refine lb_len.2 (Nat.lt_of_le_of_lt (Nat.gcd_le_right _ (by omega)) (lb_len.1 (Nat.le_refl _)))
    have sp1 := ref02_DivMod_sp (lb x.natAbs) (lb (Nat.gcd x.natAbs y.natAbs)) (by omega) (by omega)
    have sp2 := ref02_DivMod_sp (lb y.natAbs) (lb (Nat.gcd x.natAbs y.natAbs)) (by omega) (by omega)
    rw [nv_lb, nv_lb] at sp1 sp2
    refine wp_call sp1 (wp_call sp2 ?_)
    simp only [getD_c0, els_dL, List.length_map]
    unfold mkR
    rw [if_neg hy]
    refine wp_decs (fun h1 => wp_ret ?_) (fun h1 => wp_decs (fun h2 => wp_ret ?_) (fun h2 => wp_decs (fun h3 => wp_ret ?_) (fun h3 => wp_ret ?_)))
    · rw [if_pos (by omega)]; rfl
    · rw [if_pos (by omega)]; rfl
    · rw [if_neg (by omega), decide_eq_true (p := 0 < (lb (x.natAbs / Nat.gcd x.natAbs y.natAbs)).length) (by omega), Bool.true_and]; rfl
    · rw [if_neg (by omega), decide_eq_false (p := 0 < (lb (x.natAbs / Nat.gcd x.natAbs y.natAbs)).length) (by omega), Bool.false_and]; rfl
theorem ref04_Right_sp (n : Num) : Sp 100 [dN n] [.bool (rightN n)] := by
  refine sound_ 0 (ref04_Right_tree _ _) ?_
  simp only [dN_1, dN_2, els_dL, List.length_map]
  unfold rightN
  refine wp_decs (fun h => wp_ret ?_) (fun h => wp_decs (fun h' => wp_ret ?_) (fun h' => ?_))
  · rw [decide_eq_false (by omega)]
  · rw [decide_eq_false (by omega)]
  · refine wp_call (ref04_Top_sp n (by omega)) (wp_call (ref04_Bot_sp n (by omega)) ?_)
    have l1 : (wz (numT n)).mag.length ≤ n.top.length := wz_len ⟨n.neg, n.top⟩
    have l2 : (wz (numB n)).mag.length ≤ n.bot.length := wz_len ⟨false, n.bot⟩
    refine wp_call (ref04_Make_sp (wz (numT n)) (wz (numB n)) (by omega) (by omega)) ?_
    simp only [getD_c0, getD_c1, toInt_int, int_beq, zv_wz]
    generalize mkR (numT n) (numB n) = r
    refine wp_decs (fun h3 => wp_call (ref04_Same_sp n r.1 (by omega) (by omega)) (wp_ret ?_)) (fun h3 => wp_ret ?_)
    · simp only [getD_c0, toBool_bool]
      congr 2
      rw [decide_eq_decide]
      refine ⟨fun hh => ⟨by omega, by omega, by rw [hh]; exact Prod.ext rfl h3⟩, fun hh => by rw [hh.2.2]⟩
    · rw [decide_eq_false]
      rintro ⟨_, _, hh⟩
      exact h3 (by rw [hh])
end Go.Proofs.Ytdkanalnpbllcaa
set_option maxRecDepth 100000
namespace Go.Proofs.Ytdkanalnpbllcaa
/-! scrim/scrimref06.May -/
def ref06_May_orc : List (Nat × Orc) := []
theorem ref06_May_tree (n : Nat) (c0 : D) : evFun Try.prog md ref06_May_orc n 102 [] [c0] =
 .br (decide (0 ≤ c0.toInt)) (.br (decide (c0.toInt ≤ 1114111)) (.br (decide (c0.toInt < 55296)) (.ret [D.bool true])
 (.ret [D.bool (decide (57343 < c0.toInt))]))
 (.ret [D.bool false]))
 (.ret [D.bool false]) := by kernel_rfl

end Go.Proofs.Ytdkanalnpbllcaa
set_option maxRecDepth 100000
namespace Go.Proofs.Ytdkanalnpbllcaa
/-! scrim/glyph.May -/
def glyph_May_orc : List (Nat × Orc) := []
theorem glyph_May_tree (n : Nat) (c0 : D) : evFun Try.prog md glyph_May_orc n 137 [] [c0] =
 .br (decide ((0 : Int) ≤ c0.toInt)) (.br (decide (c0.toInt ≤ 1114111)) (.br (decide (c0.toInt < 55296)) (.ret [D.bool true])
 (.ret [D.bool (decide (57343 < c0.toInt))]))
 (.ret [D.bool false]))
 (.ret [D.bool false]) := by kernel_rfl

end Go.Proofs.Ytdkanalnpbllcaa
set_option maxRecDepth 100000
namespace Go.Proofs.Ytdkanalnpbllcaa
end Go.Proofs.Ytdkanalnpbllcaa
set_option maxRecDepth 100000
namespace Go.Proofs.Ytdkanalnpbllcaa

theorem bigFuel : ∃ N : Nat, 9223372036854775808 < N := ⟨9223372036854775809, by decide⟩
/-- A loop along a list, whatever is told at its end. -/
theorem loop_any {α σ : Type} {P : Program} {md : Nat → FMode} {Q : List D → Prop} (xs : List α) (L : Nat → Nat → σ → Tree) (I : List α → σ → Prop)
    (hnil : ∀ m k s, k = xs.length → I [] s → (L (m + 1) k s).wp P md Q)
    (hcons : ∀ m k s x rest, xs.drop k = x :: rest → I (x :: rest) s → (∀ s', I rest s' → (L m (k + 1) s').wp P md Q) → (L (m + 1) k s).wp P md Q) :
    ∀ m k s, xs.length - k < m → k ≤ xs.length → I (xs.drop k) s → (L m k s).wp P md Q := by
  intro m
  induction m with
  | zero => intro k s h; omega
  | succ m ih =>
    intro k s h1 h2 hI
    cases hd : xs.drop k with
    | nil => rw [hd] at hI; exact hnil m k s (by have := drop_nil hd; omega) hI
    | cons x rest =>
      rw [hd] at hI
      obtain ⟨a1, a2, a3⟩ := drop_cons hd
      exact hcons m k s x rest hd hI (fun s' hI' => ih (k + 1) s' (by omega) (by omega) (by rw [a3]; exact hI'))
/-- The product of lengths; 0 if it is too great. -/
def prodS : List Int → Int → Int
  | [], p => p
  | x :: xs, p => if 2048 < p * x then 0 else prodS xs (p * x)
/-- How many cells; an error. -/
def countS (l : List Int) : Int × Int :=
  if 6 < l.length then (0, 7) else if l.any (fun x => decide (x < 0)) then (0, 3) else if l.any (fun x => decide (2048 < x)) then (0, 7)
  else if l.any (fun x => decide (x = 0)) then (0, 0) else if prodS l 1 = 0 then (0, 7) else (prodS l 1, 0)
theorem prod_le {x y : Int} (h1 : 1 ≤ x) (h2 : x ≤ 2048) (h3 : 1 ≤ y) (h4 : y ≤ 2048) : 1 ≤ x * y ∧ x * y ≤ 4194304 := by
  constructor
  · have := Int.mul_le_mul h1 h3 (by omega) (by omega); omega
  · have := Int.mul_le_mul h2 h4 (by omega) (by omega); omega
theorem prodS_pos : ∀ (l : List Int) (p : Int), 1 ≤ p → p ≤ 2048 → (∀ x ∈ l, 1 ≤ x ∧ x ≤ 2048) → 0 ≤ prodS l p ∧ prodS l p ≤ 2048
  | [], p, h1, h2, _ => by simp only [prodS]; omega
  | x :: xs, p, h1, h2, h => by
    simp only [prodS]
    have hx := h x (by simp)
    have := prod_le h1 h2 hx.1 hx.2
    split
    · omega
    · exact prodS_pos xs (p * x) this.1 (by omega) (fun y hy => h y (by simp [hy]))
theorem any_false {l : List Int} {p : Int → Bool} (h : ¬ l.any p = true) : ∀ x ∈ l, p x = false := fun x hx => by
  cases hp : p x with
  | false => rfl
  | true => exact absurd (List.any_eq_true.2 ⟨x, hx, hp⟩) h
theorem count_pos {l : List Int} (h1 : ¬ l.any (fun x => decide (x < 0)) = true) (h2 : ¬ l.any (fun x => decide (2048 < x)) = true) (h3 : ¬ l.any (fun x => decide (x = 0)) = true) : ∀ x ∈ l, 1 ≤ x ∧ x ≤ 2048 := fun x hx => by
  have a := of_decide_eq_false (any_false h1 x hx)
  have b := of_decide_eq_false (any_false h2 x hx)
  have c := of_decide_eq_false (any_false h3 x hx)
  omega
theorem countS_le (l : List Int) : 0 ≤ (countS l).1 ∧ (countS l).1 ≤ 2048 := by
  unfold countS
  split
  · decide
  split
  · decide
  split
  · decide
  split
  · decide
  split
  · decide
  · rename_i h1 h2 h3 h4 _; exact prodS_pos l 1 (by decide) (by decide) (count_pos h2 h3 h4)
theorem countS_len {l : List Int} (h : (countS l).2 = 0) : l.length ≤ 6 ∧ ∀ x ∈ l, 0 ≤ x ∧ x ≤ 2048 := by
  unfold countS at h
  split at h
  · cases h
  split at h
  · cases h
  split at h
  · cases h
  · rename_i h1 h2 h3
    refine ⟨by omega, fun x hx => ?_⟩
    have a := of_decide_eq_false (any_false h2 x hx)
    have b := of_decide_eq_false (any_false h3 x hx)
    omega
/-- The first place of one that is asked for. -/
def idxD (p : Int → Bool) : Nat → List Int → Int
  | _, [] => -1
  | k, x :: xs => if p x then (k : Int) else idxD p (k + 1) xs
def cpD (p : Int) : List D := if p = 0 then [.int 0, .int 7] else [.int p, .int 0]
theorem prodS_cons (x : Int) (xs : List Int) (p : Int) : prodS (x :: xs) p = if 2048 < p * x then 0 else prodS xs (p * x) := rfl
theorem idxD_cons (p : Int → Bool) (k : Nat) (x : Int) (xs : List Int) : idxD p k (x :: xs) = if p x then (k : Int) else idxD p (k + 1) xs := rfl
theorem ref07_Count2 (N : Nat) (l : List Int) (hl : l.length < N) (hb : l.length ≤ 6) (hx : ∀ x ∈ l, 1 ≤ x ∧ x ≤ 2048) : Tw (ref07_Count_l17 N N (dI l) 1 0) (cpD (prodS l 1)) := by
  have key := loop_list (P := Try.prog) (md := md) l (fun m k (p : Int) => ref07_Count_l17 N m (dI l) p (k : Int)) (fun rest p => cpD (prodS rest p)) (fun _ p => 1 ≤ p ∧ p ≤ 2048)
    (fun m k p hk hI => by
      simp only [ref07_Count_l17_succ, els_dI, List.length_map]
      refine wp_ndec (by omega) (wp_ret ?_)
      show _ = cpD p
      rw [cpD, if_neg (by omega)])
    (fun m k p x rest hd hI ih => by
      obtain ⟨h1, h2, h3⟩ := drop_cons hd
      have hxx := hx x (List.mem_of_getElem? h2)
      have hp := prod_le hI.1 hI.2 hxx.1 hxx.2
      simp only [ref07_Count_l17_succ, els_dI, List.length_map, Int.toNat_natCast, getD_map h2, toInt_int, wrap_succ (show k < 9223372036854775807 by omega), wrap64 (x := p * x) (by omega) (by omega)]
      repeat (refine wp_dec (by omega) ?_)
      rw [prodS_cons]
      refine wp_decs (fun h => wp_ret ?_) (fun h => ?_)
      · rw [if_pos h]; rfl
      · rw [if_neg h]; exact ih _ ⟨hp.1, by omega⟩)
    N 0 1 (by omega) (by omega) (by decide)
  exact key
theorem ref07_Count_sp (l : List Int) : Sp 63 [dI l] [.int (countS l).1, .int (countS l).2] := by
  refine sound_ (l.length + 1) (ref07_Count_tree _ _) ?_
  simp only [els_dI, List.length_map]
  unfold countS
  refine wp_decs (fun h => wp_ret ?_) (fun h => ?_)
  · rw [if_pos (by omega)]
  · rw [if_neg (by omega)]
    have key := loop_list (P := Try.prog) (md := md) l (fun m k (s : Bool × Bool) => ref07_Count_l5 (l.length + 1) m (dI l) s.1 s.2 (k : Int))
      (fun rest s => if rest.any (fun x => decide (x < 0)) then [.int 0, .int 3] else if s.1 || rest.any (fun x => decide (2048 < x)) then [.int 0, .int 7] else if s.2 || rest.any (fun x => decide (x = 0)) then [.int 0, .int 0] else cpD (prodS l 1))
      (fun rest s => (∀ x ∈ l, (0 ≤ x ∧ (s.1 = true ∨ x ≤ 2048) ∧ (s.2 = true ∨ x ≠ 0)) ∨ x ∈ rest))
      (fun m k s hk hI => by
        simp only [ref07_Count_l5_succ, els_dI, List.length_map]
        refine wp_ndec (by omega) (wp_br (fun h1 => wp_ret ?_) (fun h1 => wp_br (fun h2 => wp_ret ?_) (fun h2 => ?_)))
        · simp [h1]
        · simp [h1, h2]
        · simp only [h1, h2, List.any_nil, Bool.or_self, Bool.false_eq_true, if_false]
          refine ref07_Count2 (l.length + 1) l (by omega) (by omega) (fun x hx => ?_)
          rcases hI x hx with ⟨a, b, c⟩ | b
          · rw [h1] at b; rw [h2] at c
            simp at b c
            omega
          · cases b)
      (fun m k s x rest hd hI ih => by
        obtain ⟨h1, h2, h3⟩ := drop_cons hd
        simp only [ref07_Count_l5_succ, els_dI, List.length_map, Int.toNat_natCast, getD_map h2, toInt_int, wrap_succ (show k < 9223372036854775807 by omega), int_beq]
        repeat (refine wp_dec (by omega) ?_)
        refine wp_decs (fun h => wp_ret ?_) (fun h => ?_)
        · simp [h]
        · have hih : ∀ s' : Bool × Bool, s' = (s.1 || decide (2048 < x), s.2 || decide (x = 0)) → Tw (ref07_Count_l5 (l.length + 1) m (dI l) s'.1 s'.2 ((k + 1 : Nat) : Int)) (if (x :: rest).any (fun x => decide (x < 0)) then [.int 0, .int 3] else if s.1 || (x :: rest).any (fun x => decide (2048 < x)) then [.int 0, .int 7] else if s.2 || (x :: rest).any (fun x => decide (x = 0)) then [.int 0, .int 0] else cpD (prodS l 1)) := fun s' hs' => by
            have := ih s' (fun y hy => by
              subst hs'
              rcases hI y hy with ⟨a, b, c⟩ | b
              · refine .inl ⟨a, ?_, ?_⟩
                · rcases b with b | b
                  · left; simp [b]
                  · right; exact b
                · rcases c with b | b
                  · left; simp [b]
                  · right; exact b
              · rcases List.mem_cons.1 b with rfl | b
                · left
                  refine ⟨by omega, ?_, ?_⟩
                  · by_cases hh : 2048 < y
                    · left; simp [hh]
                    · right; omega
                  · by_cases hh : y = 0
                    · left; simp [hh]
                    · right; exact hh
                · exact .inr b)
            subst hs'
            rw [List.any_cons, List.any_cons, List.any_cons, decide_eq_false h, Bool.false_or, ← Bool.or_assoc, ← Bool.or_assoc]
            exact this
          refine wp_br (fun b1 => wp_br (fun b2 => ?_) (fun b2 => ?_)) (fun b1 => ?_)
          · exact hih (true, true) (by simp [b1, b2])
          · repeat (refine wp_dec (by omega) ?_)
            exact hih (true, decide (x = 0)) (by simp [b1, b2])
          · repeat (refine wp_dec (by omega) ?_)
            refine wp_br (fun b2 => ?_) (fun b2 => ?_)
            · exact hih (decide (2048 < x), true) (by simp [b1, b2])
            · repeat (refine wp_dec (by omega) ?_)
              exact hih (decide (2048 < x), decide (x = 0)) (by simp [b1, b2]))
      (l.length + 1) 0 (false, false) (by omega) (by omega) (fun x hx => .inr hx)
    have e : (fun (c : Int × Int) => [D.int c.1, D.int c.2]) (if l.any (fun x => decide (x < 0)) then (0, 3) else if l.any (fun x => decide (2048 < x)) then (0, 7)
      else if l.any (fun x => decide (x = 0)) then (0, 0) else if prodS l 1 = 0 then (0, 7) else (prodS l 1, 0)) = (if l.any (fun x => decide (x < 0)) then [.int 0, .int 3] else if false || l.any (fun x => decide (2048 < x)) then [.int 0, .int 7] else if false || l.any (fun x => decide (x = 0)) then [.int 0, .int 0] else cpD (prodS l 1)) := by
      simp only [Bool.false_or]
      split
      · rfl
      split
      · rfl
      split
      · rfl
      show _ = cpD _
      unfold cpD
      split <;> rfl
    show Tw _ ((fun (c : Int × Int) => [D.int c.1, D.int c.2]) _)
    rw [e]
    exact key
theorem idxD_any (p : Int → Bool) : ∀ (l : List Int) (k : Nat), decide (0 ≤ idxD p k l) = l.any p
  | [], k => by simp [idxD]
  | x :: xs, k => by
    rw [idxD_cons, List.any_cons]
    by_cases hp : p x = true
    · rw [if_pos hp]; simp [hp]
    · rw [if_neg hp, idxD_any p xs (k + 1)]; simp [hp]
theorem Count1_sp (x : Int) : Sp 133 [.int x] [.bool (decide (x < 0))] := sound_ 0 (shape_Count_1_tree _ _) (wp_ret rfl)
theorem Count2_sp (x : Int) : Sp 134 [.int x] [.bool (decide (2048 < x))] := sound_ 0 (shape_Count_2_tree _ _) (wp_ret rfl)
theorem Contains1_sp (l : List Int) (hb : l.length ≤ 6) : Sp 132 [dI l, D.fn 133 [] []] [.bool (l.any (fun x => decide (x < 0)))] := by
  refine sound_ 0 (slices_ContainsFunc_int_int_tree_shape_Count_1 _ _) (wp_call (ys := [.int (idxD (fun x => decide (x < 0)) 0 l)]) ?_ (wp_ret ?_))
  · refine sound_ (l.length + 1) (slices_IndexFunc_int_int_tree_shape_Count_1 _ _) ?_
    have key := loop_list (P := Try.prog) (md := md) l (fun m k (_ : Unit) => slices_IndexFunc_int_int_l2 (l.length + 1) m (dI l) (D.fn 133 [] []) (l.length : Int) (k : Int)) (fun rest _ => [.int (idxD (fun x => decide (x < 0)) (l.length - rest.length) rest)]) (fun _ _ => True)
      (fun m k p hk hI => by
        simp only [slices_IndexFunc_int_int_l2_succ_shape_Count_1]
        refine wp_ndec (by omega) (wp_ret ?_)
        simp [idxD])
      (fun m k p x rest hd hI ih => by
        obtain ⟨h1, h2, h3⟩ := drop_cons hd
        have hle := congrArg List.length hd; rw [List.length_drop, List.length_cons] at hle; have hk : l.length - (x :: rest).length = k := by rw [List.length_cons]; omega
        have hk' : l.length - rest.length = k + 1 := by omega
        simp only [slices_IndexFunc_int_int_l2_succ_shape_Count_1, els_dI, List.length_map, Int.toNat_natCast, getD_map h2, toInt_int, wrap_succ (show k < 9223372036854775807 by omega), fnId_fn, fnCts_fn, fnDs_fn, List.append_nil]
        repeat (refine wp_dec (by omega) ?_)
        refine wp_call (Count1_sp x) ?_
        simp only [getD_c0, toBool_bool, idxD, hk]
        refine wp_decs (fun h => wp_ret ?_) (fun h => ?_)
        · simp [h]
        · have := ih () trivial
          rw [hk'] at this
          simpa [h] using this)
      (l.length + 1) 0 () (by omega) (by omega) trivial
    simpa using key
  · exact congrArg (fun b => [D.bool b]) (idxD_any _ l 0)
theorem Contains2_sp (l : List Int) (hb : l.length ≤ 6) : Sp 132 [dI l, D.fn 134 [] []] [.bool (l.any (fun x => decide (2048 < x)))] := by
  refine sound_ 0 (slices_ContainsFunc_int_int_tree_shape_Count_2 _ _) (wp_call (ys := [.int (idxD (fun x => decide (2048 < x)) 0 l)]) ?_ (wp_ret ?_))
  · refine sound_ (l.length + 1) (slices_IndexFunc_int_int_tree_shape_Count_2 _ _) ?_
    have key := loop_list (P := Try.prog) (md := md) l (fun m k (_ : Unit) => slices_IndexFunc_int_int_l2 (l.length + 1) m (dI l) (D.fn 134 [] []) (l.length : Int) (k : Int)) (fun rest _ => [.int (idxD (fun x => decide (2048 < x)) (l.length - rest.length) rest)]) (fun _ _ => True)
      (fun m k p hk hI => by
        simp only [slices_IndexFunc_int_int_l2_succ_shape_Count_2]
        refine wp_ndec (by omega) (wp_ret ?_)
        simp [idxD])
      (fun m k p x rest hd hI ih => by
        obtain ⟨h1, h2, h3⟩ := drop_cons hd
        have hle := congrArg List.length hd; rw [List.length_drop, List.length_cons] at hle; have hk : l.length - (x :: rest).length = k := by rw [List.length_cons]; omega
        have hk' : l.length - rest.length = k + 1 := by omega
        simp only [slices_IndexFunc_int_int_l2_succ_shape_Count_2, els_dI, List.length_map, Int.toNat_natCast, getD_map h2, toInt_int, wrap_succ (show k < 9223372036854775807 by omega), fnId_fn, fnCts_fn, fnDs_fn, List.append_nil]
        repeat (refine wp_dec (by omega) ?_)
        refine wp_call (Count2_sp x) ?_
        simp only [getD_c0, toBool_bool, idxD, hk]
        refine wp_decs (fun h => wp_ret ?_) (fun h => ?_)
        · simp [h]
        · have := ih () trivial
          rw [hk'] at this
          simpa [h] using this)
      (l.length + 1) 0 () (by omega) (by omega) trivial
    simpa using key
  · exact congrArg (fun b => [D.bool b]) (idxD_any _ l 0)
theorem slices_Contains_sp (l : List Int) (v : Int) (hb : l.length ≤ 9223372036854775807) : Sp 79 [dI l, .int v] [.bool (l.any (fun x => decide (x = v)))] := by
  refine sound_ 0 (slices_Contains_int_int_tree _ _ _) (wp_call (ys := [.int (idxD (fun x => decide (x = v)) 0 l)]) ?_ (wp_ret ?_))
  · refine sound_ (l.length + 1) (slices_Index_int_int_tree _ _ _) ?_
    have key := loop_list (P := Try.prog) (md := md) l (fun m k (_ : Unit) => slices_Index_int_int_l2 (l.length + 1) m (dI l) v (l.length : Int) (k : Int)) (fun rest _ => [.int (idxD (fun x => decide (x = v)) (l.length - rest.length) rest)]) (fun _ _ => True)
      (fun m k p hk hI => by
        simp only [slices_Index_int_int_l2_succ]
        refine wp_ndec (by omega) (wp_ret ?_)
        simp [idxD])
      (fun m k p x rest hd hI ih => by
        obtain ⟨h1, h2, h3⟩ := drop_cons hd
        have hle := congrArg List.length hd; rw [List.length_drop, List.length_cons] at hle; have hk : l.length - (x :: rest).length = k := by rw [List.length_cons]; omega
        have hk' : l.length - rest.length = k + 1 := by omega
        simp only [slices_Index_int_int_l2_succ, els_dI, List.length_map, Int.toNat_natCast, getD_map h2, toInt_int, wrap_succ (show k < 9223372036854775807 by omega), int_beq]
        repeat (refine wp_dec (by omega) ?_)
        simp only [idxD, hk]
        refine wp_decs (fun h => wp_ret ?_) (fun h => ?_)
        · simp [h]
        · have := ih () trivial
          rw [hk'] at this
          simpa [show ¬ x = v from fun e => h e.symm] using this)
      (l.length + 1) 0 () (by omega) (by omega) trivial
    simpa using key
  · exact congrArg (fun b => [D.bool b]) (idxD_any _ l 0)
theorem shape_product_sp (l : List Int) (hb : l.length ≤ 6) (hx : ∀ x ∈ l, 1 ≤ x ∧ x ≤ 2048) : Sp 135 [dI l] [.int (prodS l 1)] := by
  refine sound_ (l.length + 1) (shape_product_tree _ _) ?_
  have key := loop_list (P := Try.prog) (md := md) l (fun m k (p : Int) => shape_product_l3 (l.length + 1) m p (dI l) (l.length : Int) (k : Int)) (fun rest p => [.int (prodS rest p)]) (fun _ p => 1 ≤ p ∧ p ≤ 2048)
    (fun m k p hk hI => by
      simp only [shape_product_l3_succ]
      exact wp_ndec (by omega) (wp_ret rfl))
    (fun m k p x rest hd hI ih => by
      obtain ⟨h1, h2, h3⟩ := drop_cons hd
      have hxx := hx x (List.mem_of_getElem? h2)
      have hp := prod_le hI.1 hI.2 hxx.1 hxx.2
      simp only [shape_product_l3_succ, els_dI, List.length_map, Int.toNat_natCast, getD_map h2, toInt_int, wrap_succ (show k < 9223372036854775807 by omega), wrap64 (x := p * x) (by omega) (by omega)]
      repeat (refine wp_dec (by omega) ?_)
      simp only [prodS]
      refine wp_decs (fun h => wp_ret ?_) (fun h => ?_)
      · rw [if_pos h]
      · rw [if_neg h]; exact ih _ ⟨hp.1, by omega⟩)
    (l.length + 1) 0 1 (by omega) (by omega) (by decide)
  simpa using key
theorem shape_Count_sp (l : List Int) : Sp 98 [dI l] [.int (countS l).1, .int (countS l).2] := by
  refine sound_ 0 (shape_Count_tree _ _) ?_
  simp only [els_dI, List.length_map]
  unfold countS
  refine wp_decs (fun h => wp_ret ?_) (fun h => ?_)
  · rw [if_pos (by omega)]
  · rw [if_neg (by omega)]
    refine wp_call (Contains1_sp l (by omega)) ?_
    simp only [getD_c0, toBool_bool]
    refine wp_br (fun h1 => wp_ret (by rw [if_pos h1])) (fun h1 => ?_)
    rw [if_neg (by simp [h1])]
    refine wp_call (Contains2_sp l (by omega)) ?_
    simp only [getD_c0, toBool_bool]
    refine wp_br (fun h2 => wp_ret (by rw [if_pos h2])) (fun h2 => ?_)
    rw [if_neg (by simp [h2])]
    refine wp_call (slices_Contains_sp l 0 (by omega)) ?_
    simp only [getD_c0, toBool_bool]
    refine wp_br (fun h3 => wp_ret (by rw [if_pos h3])) (fun h3 => ?_)
    rw [if_neg (by simp [h3])]
    refine wp_call (shape_product_sp l (by omega) (count_pos (by simp [h1]) (by simp [h2]) (by simp [h3]))) ?_
    simp only [getD_c0, toInt_int, int_beq]
    refine wp_decs (fun h4 => wp_ret (by rw [if_pos h4])) (fun h4 => wp_ret (by rw [if_neg h4]))
theorem ref07_Ints_sp (a b : List Int) (ha : a.length ≤ 9223372036854775807) : Sp 75 [dI a, dI b] [.bool (decide (a = b))] := by
  refine sound_ (a.length + 1) (ref07_Ints_tree _ _ _) ?_
  simp only [els_dI, List.length_map, int_bne]
  refine wp_decs (fun h => wp_ret ?_) (fun h => ?_)
  · rw [decide_eq_false]; rintro rfl; exact h rfl
  · exact eq_loop D.int dint_inj a b (by omega) ha (fun m i => ref07_Ints_l4 (a.length + 1) m (dI a) (dI b) i) (fun m i => ref07_Ints_l4_succ _ _ _ _ _)
def mayC (c : Int) : Bool := decide (0 ≤ c ∧ c ≤ 1114111 ∧ (c < 55296 ∨ 57343 < c))
theorem may_tree (c : Int) : Tw (.br (decide (0 ≤ c)) (.br (decide (c ≤ 1114111)) (.br (decide (c < 55296)) (.ret [D.bool true]) (.ret [D.bool (decide (57343 < c))])) (.ret [D.bool false])) (.ret [D.bool false])) [.bool (mayC c)] := by
  unfold mayC
  refine wp_decs (fun h1 => wp_decs (fun h2 => wp_decs (fun h3 => wp_ret ?_) (fun h3 => wp_ret ?_)) (fun h2 => wp_ret ?_)) (fun h1 => wp_ret ?_)
  · rw [decide_eq_true (by omega)]
  · congr 2; rw [decide_eq_decide]; omega
  · rw [decide_eq_false (by omega)]
  · rw [decide_eq_false (by omega)]
theorem ref06_May_sp (c : Int) : Sp 102 [.int c] [.bool (mayC c)] := sound_ 0 (ref06_May_tree _ _) (may_tree c)
theorem glyph_May_sp (c : Int) : Sp 137 [.int c] [.bool (mayC c)] := sound_ 0 (glyph_May_tree _ _) (may_tree c)
end Go.Proofs.Ytdkanalnpbllcaa
set_option maxRecDepth 100000
namespace Go.Proofs.Ytdkanalnpbllcaa
open Go.ChangeShapes Go.WideShapes Go.ChangeAt Go.RowKit

section
variable {P : Program} {md : Nat → FMode}
theorem law_calls {F : Nat} {fn : Func} {xs : List D} {vs : List Value} {W : World} {tb : Nat} (hs : Spec P md F [] xs [.bool true]) (hfn : P.funcs[F]? = some fn) (hm : md F = {}) (hrt : fn.resultTypes = #[tb]) (htb : P.underlying tb = some .bool)
    (hlx : xs.length = fn.params.size) (hlv : vs.length = fn.params.size) (hrd : ∀ (i t : Nat) (x : D) (v : Value), fn.params.toList[i]? = some t → xs[i]? = some x → vs[i]? = some v → Rd P md W (fun _ => False) (.ty t) x v) :
    Calls P F vs.toArray W (fun e w' => e = .returned (.bool true) ∧ Ext W w') := by
  obtain ⟨fn', h1, _, _, h⟩ := hs
  rw [hfn] at h1
  injection h1 with h1
  subst h1
  refine (h W (fun _ => False) vs 0 1 (fun k hk => by rw [hm] at hk; cases hk) ⟨by simp [hlx], by simp [hlv], fun b hb => hb.elim, ?_, fun p hp => by rw [hm] at hp; cases hp⟩).mono ?_
  · intro i ct x v hc hx hv _
    simp only [List.append_nil, List.getElem?_map, Option.map_eq_some_iff] at hc
    obtain ⟨t, ht, rfl⟩ := hc
    have := hrd i t x v ht hx hv
    exact ⟨this.rd.mono (Nat.le_refl _) (fun _ _ _ => rfl) (fun b hb _ => by
      rcases hb with hb | ⟨p, u, hp, _⟩
      · exact hb
      · rw [hm] at hp; cases hp), this.size, this.agg⟩
  · rintro e w' ⟨us, β', hp⟩
    have hl := hp.len
    rw [hrt] at hl
    have : ∃ u, us = [u] := by
      match us, hl with
      | [u], _ => exact ⟨u, rfl⟩
    obtain ⟨u, rfl⟩ := this
    have hv := hp.vl [.b true] (by rw [hrt, hm]; simp [resL, setOwn, ofD, htb, D.toBool, List.getD]) 0 (.b true) u rfl rfl
    have hu := vl_b hv
    subst hu
    refine ⟨hp.ending, ?_⟩
    have := hp.stp
    refine Stp.ext (this.weak fun b ⟨p, v, h1, _⟩ => ?_)
    rw [hm] at h1; cases h1

theorem rd_int {t : Nat} {k : IntKind} {w : World} {M : Nat → Prop} {y : D} {c : Nat → Option Value} (h : RdC P md w M (.ty t) y c) (ht : P.underlying t = some (.int k)) : ∃ n, y = .int n ∧ k.min ≤ n ∧ n ≤ k.max := by
  cases h <;> simp_all [CT.desc]
  all_goals (rename_i hf _; obtain ⟨⟨a, ha, _⟩, _⟩ := fieldsOf_under hf; rw [ht] at ha; cases ha)
theorem rd_bool {t : Nat} {w : World} {M : Nat → Prop} {y : D} {c : Nat → Option Value} (h : RdC P md w M (.ty t) y c) (ht : P.underlying t = some .bool) : ∃ b, y = .bool b := by
  cases h <;> simp_all [CT.desc]
  all_goals (rename_i hf _; obtain ⟨⟨a, ha, _⟩, _⟩ := fieldsOf_under hf; rw [ht] at ha; cases ha)
theorem rd_str {t : Nat} {w : World} {M : Nat → Prop} {y : D} {c : Nat → Option Value} (h : RdC P md w M (.ty t) y c) (ht : P.underlying t = some .string) : ∃ s, y = .str s ∧ s.size ≤ maxLen := by
  cases h <;> simp_all [CT.desc]
  all_goals (rename_i hf _; obtain ⟨⟨a, ha, _⟩, _⟩ := fieldsOf_under hf; rw [ht] at ha; cases ha)
theorem rd_slc {t e : Nat} {w : World} {M : Nat → Prop} {y : D} {c : Nat → Option Value} (h : RdC P md w M (.ty t) y c) (ht : P.underlying t = some (.slice e)) : ∃ es, y = .sl es ∧ es.length ≤ maxLen ∧ ∀ x ∈ es, ∃ c', RdC P md w M (.ty e) x c' := by
  cases h with
  | sl ht' hc h1 h2 hA hh =>
    have : P.underlying t = some (.slice _) := ht'
    rw [ht] at this
    injection this with this
    injection this with this
    subst this
    refine ⟨_, rfl, Nat.le_trans h1 h2, fun x hx => ?_⟩
    obtain ⟨i, hi, rfl⟩ := List.getElem_of_mem hx
    exact ⟨_, hh i _ (List.getElem?_eq_getElem hi)⟩
  | struct hf _ _ => obtain ⟨⟨a, ha, _⟩, _⟩ := fieldsOf_under hf; rw [ht] at ha; cases ha
  | int ht' => have : P.underlying t = _ := ht'; rw [ht] at this; cases this
  | bool ht' => have : P.underlying t = _ := ht'; rw [ht] at this; cases this
  | str ht' => have : P.underlying t = _ := ht'; rw [ht] at this; cases this
  | fn ht' => have : P.underlying t = _ := ht'; rw [ht] at this; cases this
  | ref ht' => have : P.underlying t = _ := ht'; rw [ht] at this; cases this
theorem rd_struct {t : Nat} {fs : List Field} {w : World} {M : Nat → Prop} {y : D} {c : Nat → Option Value} (h : RdC P md w M (.ty t) y c) (ht : fieldsOf P t = some fs) : ∃ ds, y = .agg ds ∧ ds.length = fs.length ∧ ∀ (i : Nat) (f : Field) (d : D), fs[i]? = some f → ds[i]? = some d → ∃ c', RdC P md w M (.ty f.type) d c' := by
  obtain ⟨⟨a, ha, _⟩, _⟩ := fieldsOf_under ht
  cases h with
  | struct hf hl hh =>
    rw [ht] at hf
    injection hf with hf
    subst hf
    exact ⟨_, rfl, hl, fun i f d h1 h2 => ⟨_, hh i f d h1 h2⟩⟩
  | sl ht' => have : P.underlying t = _ := ht'; rw [ha] at this; cases this
  | int ht' => have : P.underlying t = _ := ht'; rw [ha] at this; cases this
  | bool ht' => have : P.underlying t = _ := ht'; rw [ha] at this; cases this
  | str ht' => have : P.underlying t = _ := ht'; rw [ha] at this; cases this
  | fn ht' => have : P.underlying t = _ := ht'; rw [ha] at this; cases this
  | ref ht' => have : P.underlying t = _ := ht'; rw [ha] at this; cases this
theorem rd_ints {t e : Nat} {w : World} {M : Nat → Prop} {y : D} {c : Nat → Option Value} (h : RdC P md w M (.ty t) y c) (ht : P.underlying t = some (.slice e)) (he : P.underlying e = some (.int .i64)) : ∃ l, y = dI l ∧ l.length ≤ maxLen ∧ ∀ x ∈ l, -9223372036854775808 ≤ x ∧ x ≤ 9223372036854775807 := by
  obtain ⟨es, rfl, hl, hh⟩ := rd_slc h ht
  have : ∃ l : List Int, es = l.map .int ∧ ∀ x ∈ l, -9223372036854775808 ≤ x ∧ x ≤ 9223372036854775807 := by
    clear hl h
    induction es with
    | nil => exact ⟨[], rfl, fun _ h => by cases h⟩
    | cons x es ih =>
      obtain ⟨l, rfl, hl⟩ := ih (fun y hy => hh y (by simp [hy]))
      obtain ⟨c', hc⟩ := hh x (by simp)
      obtain ⟨n, rfl, h1, h2⟩ := rd_int hc he
      exact ⟨n :: l, rfl, fun y hy => by rcases List.mem_cons.1 hy with rfl | hy; exact ⟨h1, h2⟩; exact hl y hy⟩
  obtain ⟨l, rfl, h2⟩ := this
  exact ⟨l, rfl, by simpa using hl, h2⟩
theorem rd_limbs {t e : Nat} {w : World} {M : Nat → Prop} {y : D} {c : Nat → Option Value} (h : RdC P md w M (.ty t) y c) (ht : P.underlying t = some (.slice e)) (he : P.underlying e = some (.int .u32)) : ∃ l : List Limb, y = dL l ∧ l.length ≤ maxLen := by
  obtain ⟨es, rfl, hl, hh⟩ := rd_slc h ht
  have : ∃ l : List Limb, es = l.map dB := by
    clear hl h
    induction es with
    | nil => exact ⟨[], rfl⟩
    | cons x es ih =>
      obtain ⟨l, rfl⟩ := ih (fun y hy => hh y (by simp [hy]))
      obtain ⟨c', hc⟩ := hh x (by simp)
      obtain ⟨n, rfl, h1, h2⟩ := rd_int hc he
      have h1 : 0 ≤ n := h1
      have h2 : n ≤ 4294967295 := h2
      refine ⟨BitVec.ofNat 32 n.toNat :: l, ?_⟩
      simp only [List.map_cons, dB, BitVec.toNat_ofNat]
      rw [Nat.mod_eq_of_lt (by omega), Int.toNat_of_nonneg h1]
  obtain ⟨l, rfl⟩ := this
  exact ⟨l, rfl, by simpa using hl⟩
theorem rd_lab {t : Nat} {w : World} {M : Nat → Prop} {y : D} {c : Nat → Option Value} (h : RdC P md w M (.ty t) y c) (ht : P.underlying t = some (.int .u64)) : ∃ l : Lab, y = dB l := by
  obtain ⟨n, rfl, h1, h2⟩ := rd_int h ht
  have h1 : 0 ≤ n := h1
  have h2 : n ≤ 18446744073709551615 := h2
  refine ⟨BitVec.ofNat 64 n.toNat, ?_⟩
  simp only [dB, BitVec.toNat_ofNat]
  rw [Nat.mod_eq_of_lt (by omega), Int.toNat_of_nonneg h1]
end
end Go.Proofs.Ytdkanalnpbllcaa
set_option maxRecDepth 100000
namespace Go.Proofs.Ytdkanalnpbllcaa
open Go.ChangeShapes Go.WideShapes Go.ChangeAt Go.RowKit

theorem len3 {α : Type} {l : List α} (h : l.length = 3) : ∃ a b c, l = [a, b, c] := by
  match l, h with
  | [a, b, c], _ => exact ⟨a, b, c, rfl⟩
theorem len5 {α : Type} {l : List α} (h : l.length = 5) : ∃ a b c d e, l = [a, b, c, d, e] := by
  match l, h with
  | [a, b, c, d, e], _ => exact ⟨a, b, c, d, e, rfl⟩
/-- No list of an array is longer than it can be; lengths of axes are ints. -/
inductive Fits : Arr → Prop where
  | mk {s : Lab} {sh : List Int} {cs : List Cell} (h1 : sh.length ≤ maxLen) (h2 : cs.length ≤ maxLen) (h3 : ∀ c ∈ cs, c.n.top.length ≤ maxLen ∧ c.n.bot.length ≤ maxLen ∧ c.inn.length ≤ maxLen) (h5 : ∀ x ∈ sh, -9223372036854775808 ≤ x ∧ x ≤ 9223372036854775807)
      (h4 : ∀ c ∈ cs, ∀ x ∈ c.inn, Fits x) : Fits (.mk s sh cs)
theorem fields_Num : (fieldsOf Try.prog 42).map (fun fs => fs.map (·.type)) = some [4, 40, 40] := by kernel_rfl
theorem fields_Cell : (fieldsOf Try.prog 45).map (fun fs => fs.map (·.type)) = some [22, 3, 42, 3, 43] := by kernel_rfl
theorem fields_Array : (fieldsOf Try.prog 26).map (fun fs => fs.map (·.type)) = some [22, 23, 24] := by kernel_rfl
theorem types_at {fs : List Field} {ts : List Nat} (h : fs.map (·.type) = ts) {i t : Nat} (ht : ts[i]? = some t) : ∃ f, fs[i]? = some f ∧ f.type = t := by
  subst h
  simpa [List.getElem?_map, Option.map_eq_some_iff] using ht
theorem rd_num {w : World} {M : Nat → Prop} {y : D} {c : Nat → Option Value} (h : RdC Try.prog md w M (.ty 42) y c) : ∃ n, y = dN n ∧ n.top.length ≤ maxLen ∧ n.bot.length ≤ maxLen := by
  obtain ⟨fs, hf, ht⟩ := Option.map_eq_some_iff.1 fields_Num
  obtain ⟨ds, rfl, hl, hh⟩ := rd_struct h hf
  have : fs.length = 3 := by rw [← List.length_map (f := (·.type)), ht]; rfl
  obtain ⟨a, b, c, rfl⟩ := len3 (by rw [hl, this])
  obtain ⟨f0, hf0, e0⟩ := types_at ht (i := 0) rfl
  obtain ⟨f1, hf1, e1⟩ := types_at ht (i := 1) rfl
  obtain ⟨f2, hf2, e2⟩ := types_at ht (i := 2) rfl
  obtain ⟨_, h0⟩ := hh 0 f0 a hf0 rfl
  obtain ⟨_, h1⟩ := hh 1 f1 b hf1 rfl
  obtain ⟨_, h2⟩ := hh 2 f2 c hf2 rfl
  rw [e0] at h0; rw [e1] at h1; rw [e2] at h2
  obtain ⟨n, rfl⟩ := rd_bool h0 (by kernel_rfl)
  obtain ⟨t, rfl, l1⟩ := rd_limbs h1 (e := 100) (by kernel_rfl) (by kernel_rfl)
  obtain ⟨t', rfl, l2⟩ := rd_limbs h2 (e := 100) (by kernel_rfl) (by kernel_rfl)
  exact ⟨⟨n, t, t'⟩, rfl, l1, l2⟩
mutual
def D.sz : D → Nat
  | .agg fs => 1 + D.szL fs | .sl es => 1 + D.szL es | _ => 0
def D.szL : List D → Nat
  | [] => 0 | x :: xs => 1 + x.sz + D.szL xs
end
theorem szL_mem : ∀ {l : List D} {x : D}, x ∈ l → x.sz < D.szL l
  | y :: ys, x, h => by
    rcases List.mem_cons.1 h with rfl | h
    · simp only [D.szL]; omega
    · have := szL_mem h; simp only [D.szL]; omega
theorem rd_arr : ∀ (k : Nat) {w : World} {M : Nat → Prop} {y : D} {c : Nat → Option Value}, y.sz < k → RdC Try.prog md w M (.ty 26) y c → ∃ a, y = dA a ∧ Fits a
  | 0, _, _, _, _, hk, _ => by omega
  | k + 1, w, M, y, c, hk, h => by
    obtain ⟨fs, hf, ht⟩ := Option.map_eq_some_iff.1 fields_Array
    obtain ⟨ds, rfl, hl, hh⟩ := rd_struct h hf
    have : fs.length = 3 := by rw [← List.length_map (f := (·.type)), ht]; rfl
    obtain ⟨a, b, c, rfl⟩ := len3 (by rw [hl, this])
    obtain ⟨f0, hf0, e0⟩ := types_at ht (i := 0) rfl
    obtain ⟨f1, hf1, e1⟩ := types_at ht (i := 1) rfl
    obtain ⟨f2, hf2, e2⟩ := types_at ht (i := 2) rfl
    obtain ⟨_, h0⟩ := hh 0 f0 a hf0 rfl
    obtain ⟨_, h1⟩ := hh 1 f1 b hf1 rfl
    obtain ⟨_, h2⟩ := hh 2 f2 c hf2 rfl
    rw [e0] at h0; rw [e1] at h1; rw [e2] at h2
    obtain ⟨s, rfl⟩ := rd_lab h0 (by kernel_rfl)
    obtain ⟨sh, rfl, l1, l1'⟩ := rd_ints h1 (e := 3) (by kernel_rfl) (by kernel_rfl)
    obtain ⟨es, rfl, l2, hes⟩ := rd_slc h2 (e := 45) (by kernel_rfl)
    have hsz : D.szL es < k := by simp only [D.sz, D.szL] at hk; omega
    have key : ∃ cs : List Cell, es = cs.map dC ∧ (∀ c ∈ cs, c.n.top.length ≤ maxLen ∧ c.n.bot.length ≤ maxLen ∧ c.inn.length ≤ maxLen) ∧ ∀ c ∈ cs, ∀ x ∈ c.inn, Fits x := by
      clear l2 h2 h hh h0 h1 hf0 hf1 hf2 e0 e1 e2 hl hk
      induction es with
      | nil => exact ⟨[], rfl, (fun _ h => by cases h), (fun _ h => by cases h)⟩
      | cons x es ih =>
        simp only [D.szL] at hsz
        obtain ⟨cs, rfl, g1, g2⟩ := ih (fun y hy => hes y (by simp [hy])) (by omega)
        obtain ⟨_, hx⟩ := hes x (by simp)
        obtain ⟨fs, hf, ht⟩ := Option.map_eq_some_iff.1 fields_Cell
        obtain ⟨ds, rfl, hl, hh⟩ := rd_struct hx hf
        have : fs.length = 5 := by rw [← List.length_map (f := (·.type)), ht]; rfl
        obtain ⟨a, b, c, d, e, rfl⟩ := len5 (by rw [hl, this])
        obtain ⟨f0, hf0, e0⟩ := types_at ht (i := 0) rfl
        obtain ⟨f1, hf1, e1⟩ := types_at ht (i := 1) rfl
        obtain ⟨f2, hf2, e2⟩ := types_at ht (i := 2) rfl
        obtain ⟨f3, hf3, e3⟩ := types_at ht (i := 3) rfl
        obtain ⟨f4, hf4, e4⟩ := types_at ht (i := 4) rfl
        obtain ⟨_, h0⟩ := hh 0 f0 a hf0 rfl
        obtain ⟨_, h1⟩ := hh 1 f1 b hf1 rfl
        obtain ⟨_, h2⟩ := hh 2 f2 c hf2 rfl
        obtain ⟨_, h3⟩ := hh 3 f3 d hf3 rfl
        obtain ⟨_, h4⟩ := hh 4 f4 e hf4 rfl
        rw [e0] at h0; rw [e1] at h1; rw [e2] at h2; rw [e3] at h3; rw [e4] at h4
        obtain ⟨l, rfl⟩ := rd_lab h0 (by kernel_rfl)
        obtain ⟨kd, rfl, _⟩ := rd_int h1 (k := .i64) (by kernel_rfl)
        obtain ⟨n, rfl, n1, n2⟩ := rd_num h2
        obtain ⟨ch, rfl, _⟩ := rd_int h3 (k := .i64) (by kernel_rfl)
        obtain ⟨as_, rfl, l4, has⟩ := rd_slc h4 (e := 26) (by kernel_rfl)
        have hsz4 : D.szL as_ < k := by simp only [D.sz, D.szL] at hsz; omega
        have key2 : ∃ bs : List Arr, as_ = bs.map dA ∧ ∀ x ∈ bs, Fits x := by
          clear h4 hh hx hes ih l4 hsz hl
          induction as_ with
          | nil => exact ⟨[], rfl, fun _ h => by cases h⟩
          | cons z zs ihz =>
            simp only [D.szL] at hsz4
            obtain ⟨bs, rfl, hb⟩ := ihz (fun y hy => has y (by simp [hy])) (by omega)
            obtain ⟨_, hz⟩ := has z (by simp)
            obtain ⟨a, rfl, ha⟩ := rd_arr k (by omega) hz
            exact ⟨a :: bs, rfl, fun y hy => by rcases List.mem_cons.1 hy with rfl | hy; exact ha; exact hb y hy⟩
        obtain ⟨bs, rfl, hb⟩ := key2
        refine ⟨⟨l, kd, n, ch, bs⟩ :: cs, by simp [dC_eq], fun c hc => ?_, fun c hc => ?_⟩
        · rcases List.mem_cons.1 hc with rfl | hc
          · exact ⟨n1, n2, by simpa using l4⟩
          · exact g1 c hc
        · rcases List.mem_cons.1 hc with rfl | hc
          · exact hb
          · exact g2 c hc
    obtain ⟨cs, rfl, g1, g2⟩ := key
    exact ⟨.mk s sh cs, (dA_mk s sh cs), .mk l1 (by simpa using l2) g1 l1' g2⟩
/-- An argument that is an array. -/
def lawTs : List Nat := [4, 3, 22, 100, 40, 23, 42, 45, 26, 43, 24]
theorem lawTs_plain : plainTs Try.prog lawTs = true := by kernel_rfl
section
variable {H : Type} {enc : TypeId × Value → H} {W : World} {sp : Nat → Bool} {held : Bool} {r : Reach} {b0 : Nat} {v : Value} {d : DataW H} {ps : List MemPlace}
theorem arg_arr (hval : Value.okWide Try.prog W r b0 26 v) (h : DataW.Trod enc Try.prog W 0 sp held 26 v d ps) : ∃ a, Fits a ∧ Rd Try.prog md W (fun _ => False) (.ty 26) (dA a) v := by
  obtain ⟨y, hy, hyw⟩ := arg_rd (md := md) wfP lawTs_plain (by decide) hval h
  obtain ⟨a, rfl, ha⟩ := rd_arr _ (Nat.lt_succ_self _) hy.rd
  exact ⟨a, ha, hy⟩
theorem arg_bool (hval : Value.okWide Try.prog W r b0 4 v) (h : DataW.Trod enc Try.prog W 0 sp held 4 v d ps) : ∃ a, Rd Try.prog md W (fun _ => False) (.ty 4) (.bool a) v := by
  obtain ⟨y, hy, hyw⟩ := arg_rd (md := md) wfP lawTs_plain (by decide) hval h
  obtain ⟨a, rfl⟩ := rd_bool hy.rd (by kernel_rfl)
  exact ⟨a, hy⟩
theorem arg_lab (hval : Value.okWide Try.prog W r b0 22 v) (h : DataW.Trod enc Try.prog W 0 sp held 22 v d ps) : ∃ a : Lab, Rd Try.prog md W (fun _ => False) (.ty 22) (dB a) v := by
  obtain ⟨y, hy, hyw⟩ := arg_rd (md := md) wfP lawTs_plain (by decide) hval h
  obtain ⟨a, rfl⟩ := rd_lab hy.rd (by kernel_rfl)
  exact ⟨a, hy⟩
theorem arg_int (hval : Value.okWide Try.prog W r b0 3 v) (h : DataW.Trod enc Try.prog W 0 sp held 3 v d ps) : ∃ a : Int, (-9223372036854775808 ≤ a ∧ a ≤ 9223372036854775807) ∧ Rd Try.prog md W (fun _ => False) (.ty 3) (.int a) v := by
  obtain ⟨y, hy, hyw⟩ := arg_rd (md := md) wfP lawTs_plain (by decide) hval h
  obtain ⟨a, rfl, h1, h2⟩ := rd_int hy.rd (k := .i64) (by kernel_rfl)
  exact ⟨a, ⟨h1, h2⟩, hy⟩
theorem arg_num (hval : Value.okWide Try.prog W r b0 42 v) (h : DataW.Trod enc Try.prog W 0 sp held 42 v d ps) : ∃ n : Num, (n.top.length ≤ maxLen ∧ n.bot.length ≤ maxLen) ∧ Rd Try.prog md W (fun _ => False) (.ty 42) (dN n) v := by
  obtain ⟨y, hy, hyw⟩ := arg_rd (md := md) wfP lawTs_plain (by decide) hval h
  obtain ⟨n, rfl, h1, h2⟩ := rd_num hy.rd
  exact ⟨n, ⟨h1, h2⟩, hy⟩
/-- An array that memory has room for. -/
def WFits (a : Arr) : Prop := Fits a ∧ (dA a).wok
theorem arg_arrw (hval : Value.okWide Try.prog W r b0 26 v) (h : DataW.Trod enc Try.prog W 0 sp held 26 v d ps) (hw : ∀ z ∈ d.weights Try.prog 26, z ≤ reachBytes) : ∃ a, WFits a ∧ Rd Try.prog md W (fun _ => False) (.ty 26) (dA a) v := by
  obtain ⟨y, hy, hyw⟩ := arg_rd (md := md) wfP lawTs_plain (by decide) hval h
  obtain ⟨a, rfl, ha⟩ := rd_arr _ (Nat.lt_succ_self _) hy.rd
  exact ⟨a, ⟨ha, hyw hw⟩, hy⟩
end
end Go.Proofs.Ytdkanalnpbllcaa
set_option maxRecDepth 100000
namespace Go.Proofs.Ytdkanalnpbllcaa

theorem Fits.len {a : Arr} (h : Fits a) : a.cells.length ≤ 9223372036854775807 := by cases h; assumption
theorem Fits.sh {a : Arr} (h : Fits a) : a.shape.length ≤ 9223372036854775807 := by cases h; assumption
theorem Fits.shR {a : Arr} (h : Fits a) : ∀ x ∈ a.shape, inR x := by cases h; assumption
/-- What a cell's lists may be. -/
def FitsC (c : Cell) : Prop := c.n.top.length ≤ 9223372036854775807 ∧ c.n.bot.length ≤ 9223372036854775807 ∧ c.inn.length ≤ 9223372036854775807 ∧ ∀ x ∈ c.inn, Fits x
theorem Fits.cell {a : Arr} (h : Fits a) : ∀ c ∈ a.cells, FitsC c := by
  cases h with
  | mk h1 h2 h3 h5 h4 => exact fun c hc => ⟨(h3 c hc).1, (h3 c hc).2.1, (h3 c hc).2.2, h4 c hc⟩
theorem Fits.of {s : Lab} {sh : List Int} {cs : List Cell} (h1 : sh.length ≤ 9223372036854775807) (h2 : cs.length ≤ 9223372036854775807) (h3 : ∀ x ∈ sh, inR x) (h4 : ∀ c ∈ cs, FitsC c) : Fits (.mk s sh cs) :=
  .mk h1 h2 (fun c hc => ⟨(h4 c hc).1, (h4 c hc).2.1, (h4 c hc).2.2.1⟩) h3 (fun c hc => (h4 c hc).2.2.2)

mutual
def totA : Arr → Lab
  | .mk s _ cs => totCs s cs
def totCs : Lab → List (CellF Arr) → Lab
  | l, [] => l
  | l, c :: cs => totCs (totC l c) cs
def totC : Lab → CellF Arr → Lab
  | l, ⟨cl, _, _, _, inn⟩ => totAs (l ||| cl) inn
def totAs : Lab → List Arr → Lab
  | l, [] => l
  | l, a :: as_ => totAs (l ||| totA a) as_
end
theorem totAs_fold : ∀ (as_ : List Arr) (l : Lab), totAs l as_ = as_.foldl (fun l x => l ||| totA x) l
  | [], l => by simp [totAs]
  | a :: as_, l => by simp [totAs, totAs_fold as_]
theorem totC_eq (l : Lab) (c : Cell) : totC l c = c.inn.foldl (fun l x => l ||| totA x) (l ||| c.l) := by cases c; rw [totC, totAs_fold]
theorem totCs_fold : ∀ (cs : List Cell) (l : Lab), totCs l cs = cs.foldl totC l
  | [], l => by simp [totCs]
  | c :: cs, l => by simp [totCs, totCs_fold cs]
theorem totA_eq (a : Arr) : totA a = a.cells.foldl totC a.s := by cases a; rw [totA, totCs_fold]; rfl

/-- One cell without axes that is no box. -/
def simpleA (a : Arr) : Bool := match a.shape, a.cells with
  | [], [c] => decide (¬ c.kind = 2)
  | _, _ => false
def boxOK (c : Cell) (r : Arr → Bool) : Bool := match c.inn with
  | [x] => !simpleA x && r x
  | _ => false
def cellR (k : Bool) (r : Arr → Bool) (c : Cell) : Bool :=
  if c.kind = 0 then decide (c.c = 0 ∧ c.inn.length = 0) && rightN c.n
  else if c.kind = 1 then decide (c.n = .zero ∧ c.inn.length = 0) && mayC c.c
  else decide (c.kind = 2 ∧ c.n = .zero ∧ c.c = 0) && (k && boxOK c r)
def rightA : Nat → Arr → Bool
  | 0, a => decide (countS a.shape = ((a.cells.length : Int), 0)) && a.cells.all (cellR false (fun _ => false))
  | d + 1, a => decide (countS a.shape = ((a.cells.length : Int), 0)) && a.cells.all (cellR true (rightA d))
def rightC : Nat → Cell → Bool
  | 0 => cellR false (fun _ => false)
  | d + 1 => cellR true (rightA d)
theorem rightA_eq (d : Nat) (a : Arr) : rightA d a = (decide (countS a.shape = ((a.cells.length : Int), 0)) && a.cells.all (rightC d)) := by cases d <;> rfl

theorem simple_tree {Q : List D → Prop} (a : Arr) (hq : Q [.bool (simpleA a)]) : (Tree.br (decide ((a.shape.length : Int) = 0)) (.br (decide ((a.cells.length : Int) = 1)) (.br (decide (0 ≤ (0 : Int))) (.br (decide (0 < (a.cells.length : Int))) (.ret [D.bool (decide (¬ (((((a.cells.map dC).getD (Int.toNat 0) D.nil).fld 1).toInt) = 2)))]) .fail) .fail) (.ret [D.bool false])) (.ret [D.bool false])).wp Try.prog md Q := by
  unfold simpleA at hq
  refine wp_decs (fun h1 => wp_decs (fun h2 => ?_) (fun h2 => wp_ret ?_)) (fun h1 => wp_ret ?_)
  · match hs : a.shape, hc : a.cells with
    | [], [c] =>
      rw [hs, hc] at hq
      exact wp_dec (by omega) (wp_dec (by simp) (wp_ret (by simpa [Int.toNat] using hq)))
    | x :: xs, _ => rw [hs] at h1; simp at h1; omega
    | _, [] => rw [hc] at h2; simp at h2
    | _, x :: y :: xs => rw [hc] at h2; simp at h2; omega
  · match hs : a.shape, hc : a.cells with
    | [], [c] => rw [hc] at h2; simp at h2
    | x :: xs, _ => rw [hs] at hq; exact hq
    | [], [] => rw [hs, hc] at hq; exact hq
    | [], x :: y :: xs => rw [hs, hc] at hq; exact hq
  · match hs : a.shape, hc : a.cells with
    | [], _ => rw [hs] at h1; simp at h1
    | x :: xs, _ => rw [hs] at hq; exact hq
theorem ref08_Simple_sp (a : Arr) : Sp 20 [dA a] [.bool (simpleA a)] := by
  refine sound_ 0 (ref08_Simple_tree _ _) ?_
  simp only [dA_0, dA_1, dA_2, dC_0, dC_1, dC_2, dC_3, dC_4, dN_0, dN_1, dN_2, els_sl, els_dI, els_dL, List.length_map, Int.toNat_natCast, toInt_int, toInt_dB, toBool_bool, getD_c0, getD_c1, int_beq, int_bne, not_dec, dInt_dB, Int.toNat_zero]
  exact simple_tree a rfl
theorem ref08_zero_sp (n : Num) : Sp 101 [dN n] [.bool (decide (n = .zero))] := by
  refine sound_ 0 (ref08_zero_tree _ _) ?_
  simp only [dN_0, dN_1, dN_2, els_dL, List.length_map, toBool_bool, int_beq]
  have e : (n = Num.zero) ↔ (n.neg = false ∧ n.top.length = 0 ∧ n.bot.length = 0) := by
    rw [num_eq, List.length_eq_zero_iff, List.length_eq_zero_iff]; rfl
  refine wp_br (fun h1 => wp_decs (fun h2 => wp_ret ?_) (fun h2 => wp_ret ?_)) (fun h1 => wp_ret ?_)
  · congr 2; rw [decide_eq_decide, e]; exact ⟨fun h => ⟨by simpa using h1, by omega, by omega⟩, fun h => by omega⟩
  · rw [decide_eq_false]; rw [e]; omega
  · rw [decide_eq_false]; rw [e]; simp at h1; simp [h1]
theorem ref08_Cell_step (d : Nat) (c : Cell) (hc : FitsC c) (hd : d ≤ 100) (ih : ∀ e, e + 1 = d → ∀ a, Fits a → Sp 14 [dA a, .int (e : Int)] [.bool (rightA e a)]) : Sp 64 [dC c, .int (d : Int)] [.bool (rightC d c)] := by
  suffices key : ∀ (k : Bool) (r : Arr → Bool), (k = true ↔ 0 < d) → (∀ a, k = true → Fits a → Sp 14 [dA a, .int ((d : Int) - 1)] [.bool (r a)]) → Sp 64 [dC c, .int (d : Int)] [.bool (cellR k r c)] by
    cases d with
    | zero => exact key false (fun _ => false) (by simp) (by simp)
    | succ e => exact key true (rightA e) (by simp) (fun a _ ha => by have := ih e rfl a ha; simpa using this)
  intro k r hk hr
  refine sound_ 0 (ref08_Cell_tree _ _ _) ?_
  simp only [dA_0, dA_1, dA_2, dC_0, dC_1, dC_2, dC_3, dC_4, dN_0, dN_1, dN_2, els_sl, els_dI, els_dL, List.length_map, Int.toNat_natCast, toInt_int, toInt_dB, toBool_bool, getD_c0, getD_c1, int_beq, int_bne, not_dec, dInt_dB, Int.toNat_zero]
  unfold cellR
  refine wp_decs (fun h0 => ?_) (fun h0 => ?_)
  · rw [if_pos h0]
    refine wp_decs (fun h1 => wp_decs (fun h2 => wp_call (ref04_Right_sp c.n) (wp_ret ?_)) (fun h2 => wp_ret ?_)) (fun h1 => wp_ret ?_)
    · rw [decide_eq_true ⟨h1, by omega⟩]; rfl
    · rw [decide_eq_false (by omega)]; rfl
    · rw [decide_eq_false (by omega)]; rfl
  rw [if_neg h0]
  refine wp_decs (fun h0 => wp_call (ref08_zero_sp c.n) ?_) (fun h0 => ?_)
  · rw [if_pos h0]
    simp only [getD_c0, toBool_bool]
    refine wp_decs (fun h1 => wp_decs (fun h2 => wp_call (ref06_May_sp c.c) (wp_ret ?_)) (fun h2 => wp_ret ?_)) (fun h1 => wp_ret ?_)
    · rw [decide_eq_true ⟨h1, by omega⟩]; rfl
    · rw [decide_eq_false (fun hh => h2 (by omega))]; rfl
    · rw [decide_eq_false (fun hh => h1 hh.1)]; rfl
  rw [if_neg h0]
  refine wp_decs (fun h0 => wp_call (ref08_zero_sp c.n) ?_) (fun h0 => wp_ret (by rw [decide_eq_false (fun hh => h0 hh.1)]; rfl))
  simp only [getD_c0, toBool_bool]
  refine wp_decs (fun h1 => wp_decs (fun h2 => wp_decs (fun h3 => wp_decs (fun h4 => ?_) (fun h4 => wp_ret ?_)) (fun h3 => wp_ret ?_)) (fun h2 => wp_ret ?_)) (fun h1 => wp_ret ?_)
  · have hkt := hk.2 (by omega)
    rw [show decide (c.kind = 2 ∧ c.n = .zero ∧ c.c = 0) = true from decide_eq_true ⟨h0, h1, h2⟩, hkt, Bool.true_and, Bool.true_and]
    unfold boxOK
    match hi : c.inn with
    | [] => rw [hi] at h3; simp at h3
    | x :: y :: xs => rw [hi] at h3; simp at h3; omega
    | [x] =>
      simp only [List.map_cons, List.map_nil, Int.toNat_zero, getD_c0, List.length_cons, List.length_nil]
      refine wp_dec (by omega) (wp_dec (by omega) (wp_call (ref08_Simple_sp x) ?_))
      simp only [getD_c0, toBool_bool]
      refine wp_br (fun h5 => wp_dec (by omega) (wp_dec (by omega) ?_)) (fun h5 => wp_ret (by rw [h5]; rfl))
      rw [wrap64 (by omega) (by omega)]
      refine wp_call (hr x hkt (hc.2.2.2 x (by rw [hi]; simp))) (wp_ret ?_)
      rw [h5]; rfl
  · have : k = false := by cases k with
      | false => rfl
      | true => exact absurd (hk.1 rfl) (by omega)
    rw [this, Bool.false_and, Bool.and_false]
  · have : boxOK c r = false := by
      unfold boxOK
      match hi : c.inn with
      | [] => rfl
      | x :: y :: xs => rfl
      | [x] => rw [hi] at h3; simp at h3
    rw [this, Bool.and_false, Bool.and_false]
  · rw [decide_eq_false (fun hh => h2 hh.2.2)]; rfl
  · rw [decide_eq_false (fun hh => h1 hh.2.1)]; rfl
theorem ref08_Right_step (d : Nat) (a : Arr) (ha : Fits a) (ih : ∀ c, FitsC c → Sp 64 [dC c, .int (d : Int)] [.bool (rightC d c)]) : Sp 14 [dA a, .int (d : Int)] [.bool (rightA d a)] := by
  have hl := ha.len
  refine sound_ (a.cells.length + 1) (ref08_Right_tree _ _ _) ?_
  simp only [dA_0, dA_1, dA_2, dC_0, dC_1, dC_2, dC_3, dC_4, dN_0, dN_1, dN_2, els_sl, els_dI, els_dL, List.length_map, Int.toNat_natCast, toInt_int, toInt_dB, toBool_bool, getD_c0, getD_c1, int_beq, int_bne, not_dec, dInt_dB, Int.toNat_zero]
  refine wp_call (ref07_Count_sp a.shape) ?_
  rw [rightA_eq]
  simp only [getD_c0, getD_c1, toInt_int]
  refine wp_decs (fun h => wp_ret ?_) (fun h => wp_decs (fun h' => wp_ret ?_) (fun h' => ?_))
  · rw [decide_eq_false]; rfl
    intro hh; rw [hh] at h; exact h rfl
  · rw [decide_eq_false]; rfl
    intro hh; rw [hh] at h'; exact h' rfl
  · have hc : countS a.shape = ((a.cells.length : Int), 0) := Prod.ext (by simpa using h') (by simpa using h)
    rw [hc, decide_eq_true rfl, Bool.true_and]
    have key := loop_list (P := Try.prog) (md := md) a.cells (fun m k (_ : Unit) => ref08_Right_l5 (a.cells.length + 1) m (d : Int) (a.cells.length : Int) (k : Int) (dA a)) (fun rest _ => [.bool (rest.all (rightC d))]) (fun _ _ => True)
      (fun m k s hk _ => by
        simp only [ref08_Right_l5_succ]
        exact wp_ndec (by omega) (wp_ret rfl))
      (fun m k s x rest hd _ ih' => by
        obtain ⟨h1, h2, h3⟩ := drop_cons hd
        simp only [ref08_Right_l5_succ, dA_0, dA_1, dA_2, dC_0, dC_1, dC_2, dC_3, dC_4, dN_0, dN_1, dN_2, els_sl, els_dI, els_dL, List.length_map, Int.toNat_natCast, toInt_int, toInt_dB, toBool_bool, getD_c0, getD_c1, int_beq, int_bne, not_dec, dInt_dB, Int.toNat_zero, getD_map h2, wrap_succ (show k < 9223372036854775807 by omega)]
        repeat (refine wp_dec (by omega) ?_)
        refine wp_call (ih x (ha.cell x (List.mem_of_getElem? h2))) ?_
        simp only [getD_c0, toBool_bool, List.all_cons]
        refine wp_br (fun h4 => wp_ret ?_) (fun h4 => ?_)
        · simp at h4; rw [h4]; rfl
        · simp at h4; rw [h4, Bool.true_and]; exact ih' () trivial)
      (a.cells.length + 1) 0 () (by omega) (by omega) trivial
    exact key
theorem ref08_Right_all : ∀ d : Nat, d ≤ 100 → (∀ c, FitsC c → Sp 64 [dC c, .int (d : Int)] [.bool (rightC d c)]) ∧ ∀ a, Fits a → Sp 14 [dA a, .int (d : Int)] [.bool (rightA d a)]
  | 0, hd => by
    have hc : ∀ c, FitsC c → Sp 64 [dC c, .int ((0 : Nat) : Int)] [.bool (rightC 0 c)] := fun c hc => ref08_Cell_step 0 c hc hd (fun e he => by omega)
    exact ⟨hc, fun a ha => ref08_Right_step 0 a ha hc⟩
  | d + 1, hd => by
    have ih := ref08_Right_all d (by omega)
    have hc : ∀ c, FitsC c → Sp 64 [dC c, .int ((d + 1 : Nat) : Int)] [.bool (rightC (d + 1) c)] := fun c hc => ref08_Cell_step (d + 1) c hc hd (fun e he => by
      have : e = d := by omega
      subst this; exact ih.2)
    exact ⟨hc, fun a ha => ref08_Right_step (d + 1) a ha hc⟩
theorem ref08_Right_sp (a : Arr) (ha : Fits a) : Sp 14 [dA a, .int 8] [.bool (rightA 8 a)] := (ref08_Right_all 8 (by decide)).2 a ha
/-- How many of so many parts are left behind an array. -/
def w64 (x : Int) : Int := IntKind.wrap .i64 x
def leftAs (r : Arr → Int → Int) : List Arr → Int → Int
  | [], n => n
  | a :: as_, n => if 0 ≤ n then leftAs r as_ (r a n) else n
def leftCs (r : Arr → Int → Int) : List Cell → Int → Int
  | [], n => n
  | c :: cs, n => if 0 ≤ n then leftCs r cs (leftAs r c.inn (w64 (w64 (w64 (n - 1) - (c.n.top.length : Int)) - (c.n.bot.length : Int)))) else n
def leftA : Nat → Arr → Int → Int
  | 0, _, _ => -1
  | d + 1, a, n => leftCs (leftA d) a.cells (w64 (w64 (n - 1) - (a.shape.length : Int)))
def fewA (a : Arr) : Bool := decide (0 ≤ leftA 12 a 4000)
theorem ref08_left_sp : ∀ (d : Nat), d ≤ 100 → ∀ (a : Arr), Fits a → ∀ n : Int, Sp 57 [dA a, .int (d : Int), .int n] [.int (leftA d a n)]
  | 0, _, a, ha, n => sound_ 0 (ref08_left_tree _ _ _ _) (wp_tt rfl (wp_ret rfl))
  | d + 1, hd, a, ha, n => by
    obtain ⟨N, hN⟩ := bigFuel
    have hl := ha.len
    refine sound_ N (ref08_left_tree _ _ _ _) ?_
    simp only [dA_0, dA_1, dA_2, dC_0, dC_1, dC_2, dC_3, dC_4, dN_0, dN_1, dN_2, els_sl, els_dI, els_dL, List.length_map, Int.toNat_natCast, toInt_int, toInt_dB, toBool_bool, getD_c0, getD_c1, int_beq, int_bne, not_dec, dInt_dB, Int.toNat_zero]
    refine wp_ndec (by omega) ?_
    have key := loop_list (P := Try.prog) (md := md) a.cells (fun m k (n : Int) => ref08_left_l5 N m ((d + 1 : Nat) : Int) n (k : Int) (dA a)) (fun rest n => [.int (leftCs (leftA d) rest n)]) (fun _ _ => True)
      (fun m k n hk _ => by
        simp only [ref08_left_l5_succ, dA_0, dA_1, dA_2, dC_0, dC_1, dC_2, dC_3, dC_4, dN_0, dN_1, dN_2, els_sl, els_dI, els_dL, List.length_map, Int.toNat_natCast, toInt_int, toInt_dB, toBool_bool, getD_c0, getD_c1, int_beq, int_bne, not_dec, dInt_dB, Int.toNat_zero]
        exact wp_ndec (by omega) (wp_ret rfl))
      (fun m k n c rest hdr _ ih => by
        obtain ⟨h1, h2, h3⟩ := drop_cons hdr
        have hc := ha.cell c (List.mem_of_getElem? h2)
        have hlc := hc.2.2.1
        simp only [ref08_left_l5_succ, dA_0, dA_1, dA_2, dC_0, dC_1, dC_2, dC_3, dC_4, dN_0, dN_1, dN_2, els_sl, els_dI, els_dL, List.length_map, Int.toNat_natCast, toInt_int, toInt_dB, toBool_bool, getD_c0, getD_c1, int_beq, int_bne, not_dec, dInt_dB, Int.toNat_zero, getD_map h2, leftCs]
        refine wp_dec (by omega) (wp_decs (fun hn => ?_) (fun hn => wp_ret (by rw [if_neg hn])))
        rw [if_pos hn]
        repeat (refine wp_dec (by omega) ?_)
        have key := loop_list (P := Try.prog) (md := md) c.inn (fun m' j (n : Int) => ref08_left_l9 N m m' ((d + 1 : Nat) : Int) n (k : Int) (j : Int) (dA a)) (fun rest' n => [.int (leftCs (leftA d) rest (leftAs (leftA d) rest' n))]) (fun _ _ => True)
          (fun m' j n hj _ => by
            simp only [ref08_left_l9_succ, dA_0, dA_1, dA_2, dC_0, dC_1, dC_2, dC_3, dC_4, dN_0, dN_1, dN_2, els_sl, els_dI, els_dL, List.length_map, Int.toNat_natCast, toInt_int, toInt_dB, toBool_bool, getD_c0, getD_c1, int_beq, int_bne, not_dec, dInt_dB, Int.toNat_zero, getD_map h2, wrap_succ (show k < 9223372036854775807 by omega), leftAs]
            repeat (refine wp_dec (by omega) ?_)
            exact wp_ndec (by omega) (ih _ trivial))
          (fun m' j n x rest' hdr' _ ih' => by
            obtain ⟨g1, g2, g3⟩ := drop_cons hdr'
            simp only [ref08_left_l9_succ, dA_0, dA_1, dA_2, dC_0, dC_1, dC_2, dC_3, dC_4, dN_0, dN_1, dN_2, els_sl, els_dI, els_dL, List.length_map, Int.toNat_natCast, toInt_int, toInt_dB, toBool_bool, getD_c0, getD_c1, int_beq, int_bne, not_dec, dInt_dB, Int.toNat_zero, getD_map h2, getD_map g2, wrap_succ (show k < 9223372036854775807 by omega), wrap_succ (show j < 9223372036854775807 by omega), leftAs]
            refine wp_dec (by omega) (wp_dec (by omega) (wp_dec (by omega) (wp_decs (fun hn => ?_) (fun hn => by rw [if_neg hn]; exact ih _ trivial))))
            rw [if_pos hn]
            repeat (refine wp_dec (by omega) ?_)
            rw [wrap64 (by omega) (by omega), show ((d + 1 : Nat) : Int) - 1 = (d : Int) by omega]
            exact wp_call (ref08_left_sp d (by omega) x (hc.2.2.2 x (List.mem_of_getElem? g2)) n) (ih' _ trivial))
          N 0 (w64 (w64 (w64 (n - 1) - (c.n.top.length : Int)) - (c.n.bot.length : Int))) (by omega) (by omega) trivial
        exact key)
      N 0 (w64 (w64 (n - 1) - (a.shape.length : Int))) (by omega) (by omega) trivial
    exact key
theorem ref08_Few_sp (a : Arr) (ha : Fits a) : Sp 11 [dA a] [.bool (fewA a)] := sound_ 0 (ref08_Few_tree _ _) (wp_call (ref08_left_sp 12 (by decide) a ha 4000) (wp_ret rfl))
/-- Axes that make few places. -/
def thinS : List Int → Int → Int
  | [], n => n
  | x :: xs, n => if n ≤ 100000 then thinS xs (if 0 < x then w64 (n * x) else n) else n
def okT (n : Int) : Bool := decide (¬ 100000 < n)
mutual
def thinA : Arr → Bool
  | .mk _ sh cs => okT (thinS sh 1) && thinCs cs
def thinCs : List (CellF Arr) → Bool
  | [] => true
  | c :: cs => thinC c && thinCs cs
def thinC : CellF Arr → Bool
  | ⟨_, _, _, _, inn⟩ => thinAs inn
def thinAs : List Arr → Bool
  | [] => true
  | a :: as_ => thinA a && thinAs as_
end
theorem thinA_eq (a : Arr) : thinA a = (okT (thinS a.shape 1) && thinCs a.cells) := by cases a; rw [thinA]; rfl
theorem thinC_eq (c : Cell) : thinC c = thinAs c.inn := by cases c; rw [thinC]
theorem ref08_thin_sp (a : Arr) : Fits a → Sp 89 [dA a] [.bool (thinA a)] := by
  induction a using Arr.ind with
  | h s sh cs IH =>
    intro ha
    have hl := ha.len
    have hs := ha.sh
    have IH' : ∀ c ∈ (Arr.mk s sh cs).cells, ∀ x ∈ c.inn, Fits x → Sp 89 [dA x] [.bool (thinA x)] := IH
    generalize Arr.mk s sh cs = a at *
    obtain ⟨N, hN⟩ := bigFuel
    refine sound_ N (ref08_thin_tree _ _) ?_
    rw [thinA_eq]
    have inner : Tw (ref08_thin_l10 N N 0 (dA a)) [.bool (thinCs a.cells)] := by
      have key := loop_list (P := Try.prog) (md := md) a.cells (fun m k (_ : Unit) => ref08_thin_l10 N m (k : Int) (dA a)) (fun rest _ => [.bool (thinCs rest)]) (fun _ _ => True)
        (fun m k n hk _ => by
          simp only [ref08_thin_l10_succ, dA_0, dA_1, dA_2, dC_0, dC_1, dC_2, dC_3, dC_4, dN_0, dN_1, dN_2, els_sl, els_dI, els_dL, List.length_map, Int.toNat_natCast, toInt_int, toInt_dB, toBool_bool, getD_c0, getD_c1, int_beq, int_bne, not_dec, dInt_dB, Int.toNat_zero]
          exact wp_ndec (by omega) (wp_ret (by rw [thinCs])))
        (fun m k n c rest hdr _ ih => by
          obtain ⟨h1, h2, h3⟩ := drop_cons hdr
          have hc := ha.cell c (List.mem_of_getElem? h2)
          have hlc := hc.2.2.1
          simp only [ref08_thin_l10_succ, dA_0, dA_1, dA_2, dC_0, dC_1, dC_2, dC_3, dC_4, dN_0, dN_1, dN_2, els_sl, els_dI, els_dL, List.length_map, Int.toNat_natCast, toInt_int, toInt_dB, toBool_bool, getD_c0, getD_c1, int_beq, int_bne, not_dec, dInt_dB, Int.toNat_zero, getD_map h2]
          repeat (refine wp_dec (by omega) ?_)
          rw [thinCs, thinC_eq]
          have key := loop_list (P := Try.prog) (md := md) c.inn (fun m' j (_ : Unit) => ref08_thin_l13 N m m' (k : Int) (j : Int) (dA a)) (fun rest' _ => [.bool (thinAs rest' && thinCs rest)]) (fun _ _ => True)
            (fun m' j n hj _ => by
              simp only [ref08_thin_l13_succ, dA_0, dA_1, dA_2, dC_0, dC_1, dC_2, dC_3, dC_4, dN_0, dN_1, dN_2, els_sl, els_dI, els_dL, List.length_map, Int.toNat_natCast, toInt_int, toInt_dB, toBool_bool, getD_c0, getD_c1, int_beq, int_bne, not_dec, dInt_dB, Int.toNat_zero, getD_map h2, wrap_succ (show k < 9223372036854775807 by omega)]
              repeat (refine wp_dec (by omega) ?_)
              rw [thinAs, Bool.true_and]
              exact wp_ndec (by omega) (ih () trivial))
            (fun m' j n x rest' hdr' _ ih' => by
              obtain ⟨g1, g2, g3⟩ := drop_cons hdr'
              simp only [ref08_thin_l13_succ, dA_0, dA_1, dA_2, dC_0, dC_1, dC_2, dC_3, dC_4, dN_0, dN_1, dN_2, els_sl, els_dI, els_dL, List.length_map, Int.toNat_natCast, toInt_int, toInt_dB, toBool_bool, getD_c0, getD_c1, int_beq, int_bne, not_dec, dInt_dB, Int.toNat_zero, getD_map h2, getD_map g2, wrap_succ (show j < 9223372036854775807 by omega)]
              repeat (refine wp_dec (by omega) ?_)
              refine wp_call (IH' c (List.mem_of_getElem? h2) x (List.mem_of_getElem? g2) (hc.2.2.2 x (List.mem_of_getElem? g2))) ?_
              simp only [getD_c0, toBool_bool]
              rw [thinAs]
              refine wp_br (fun e => wp_ret ?_) (fun e => ?_)
              · simp at e; rw [e]; rfl
              · simp at e; rw [e, Bool.true_and]; exact ih' () trivial)
            N 0 () (by omega) (by omega) trivial
          exact key)
        N 0 () (by omega) (by omega) trivial
      exact key
    have fin : ∀ n : Int, Tw (.br (decide (100000 < n)) (.ret [D.bool false]) (ref08_thin_l10 N N 0 (dA a))) [.bool (okT n && thinCs a.cells)] := fun n => by
      unfold okT
      refine wp_decs (fun h => wp_ret ?_) (fun h => ?_)
      · rw [decide_eq_false (fun hh => hh h)]; rfl
      · rw [decide_eq_true h, Bool.true_and]; exact inner
    have key := loop_list (P := Try.prog) (md := md) a.shape (fun m k (n : Int) => ref08_thin_l3 N m n (k : Int) (dA a)) (fun rest n => [.bool (okT (thinS rest n) && thinCs a.cells)]) (fun _ _ => True)
      (fun m k n hk _ => by
        simp only [ref08_thin_l3_succ, dA_0, dA_1, dA_2, dC_0, dC_1, dC_2, dC_3, dC_4, dN_0, dN_1, dN_2, els_sl, els_dI, els_dL, List.length_map, Int.toNat_natCast, toInt_int, toInt_dB, toBool_bool, getD_c0, getD_c1, int_beq, int_bne, not_dec, dInt_dB, Int.toNat_zero]
        exact wp_ndec (by omega) (fin n))
      (fun m k n x rest hdr _ ih => by
        obtain ⟨h1, h2, h3⟩ := drop_cons hdr
        simp only [ref08_thin_l3_succ, dA_0, dA_1, dA_2, dC_0, dC_1, dC_2, dC_3, dC_4, dN_0, dN_1, dN_2, els_sl, els_dI, els_dL, List.length_map, Int.toNat_natCast, toInt_int, toInt_dB, toBool_bool, getD_c0, getD_c1, int_beq, int_bne, not_dec, dInt_dB, Int.toNat_zero, getD_map h2, wrap_succ (show k < 9223372036854775807 by omega), thinS]
        refine wp_dec (by omega) (wp_decs (fun hn => wp_dec (by omega) (wp_dec (by omega) (wp_decs (fun hx => wp_dec (by omega) (wp_dec (by omega) ?_)) (fun hx => ?_)))) (fun hn => ?_))
        · rw [if_pos hn, if_pos hx]; exact ih _ trivial
        · rw [if_pos hn, if_neg hx]; exact ih _ trivial
        · rw [if_neg hn]; exact fin n)
      N 0 1 (by omega) (by omega) trivial
    exact key
def goodA (a : Arr) : Bool := fewA a && rightA 8 a && thinA a
theorem goodA_right {a : Arr} (h : goodA a = true) : rightA 8 a = true := by unfold goodA at h; simp at h; exact h.1.2
theorem ref08_Good_sp (a : Arr) (ha : Fits a) : Sp 51 [dA a] [.bool (goodA a)] := by
  refine sound_ 0 (ref08_Good_tree _ _) (wp_call (ref08_Few_sp a ha) ?_)
  unfold goodA
  simp only [getD_c0, toBool_bool]
  refine wp_br (fun e1 => wp_call (ref08_Right_sp a ha) ?_) (fun e1 => wp_ret (by rw [e1]; rfl))
  simp only [getD_c0, toBool_bool]
  refine wp_br (fun e2 => wp_call (ref08_thin_sp a ha) (wp_ret ?_)) (fun e2 => wp_ret (by rw [e2, Bool.and_false]; rfl))
  rw [e1, e2]; rfl
theorem ref08_Good_ex (a : Arr) (ha : Fits a) : ∃ b, (b = true → rightA 8 a = true) ∧ Sp 51 [dA a] [.bool b] := ⟨goodA a, goodA_right, ref08_Good_sp a ha⟩
theorem ref08_Total_sp (a : Arr) : Fits a → Sp 73 [dA a] [dB (totA a)] := by
  induction a using Arr.ind with
  | h s sh cs IH =>
    intro ha
    have hl := ha.len
    have IH' : ∀ c ∈ (Arr.mk s sh cs).cells, ∀ x ∈ c.inn, Fits x → Sp 73 [dA x] [dB (totA x)] := IH
    generalize Arr.mk s sh cs = a at *
    obtain ⟨N, hN⟩ := bigFuel
    refine sound_ N (ref08_Total_tree _ _) ?_
    rw [totA_eq]
    have key := loop_list (P := Try.prog) (md := md) a.cells (fun m k (l : Lab) => ref08_Total_l3 N m (l.toNat : Int) (k : Int) (dA a)) (fun rest l => [dB (rest.foldl totC l)]) (fun _ _ => True)
      (fun m k l hk _ => by
        simp only [ref08_Total_l3_succ, dA_0, dA_1, dA_2, dC_0, dC_1, dC_2, dC_3, dC_4, dN_0, dN_1, dN_2, els_sl, els_dI, els_dL, List.length_map, Int.toNat_natCast, toInt_int, toInt_dB, toBool_bool, getD_c0, getD_c1, int_beq, int_bne, not_dec, dInt_dB, Int.toNat_zero]
        exact wp_ndec (by omega) (wp_ret rfl))
      (fun m k l c rest hdr _ ih => by
        obtain ⟨h1, h2, h3⟩ := drop_cons hdr
        have hc := ha.cell c (List.mem_of_getElem? h2)
        have hlc := hc.2.2.1
        simp only [ref08_Total_l3_succ, dA_0, dA_1, dA_2, dC_0, dC_1, dC_2, dC_3, dC_4, dN_0, dN_1, dN_2, els_sl, els_dI, els_dL, List.length_map, Int.toNat_natCast, toInt_int, toInt_dB, toBool_bool, getD_c0, getD_c1, int_beq, int_bne, not_dec, dInt_dB, Int.toNat_zero, getD_map h2]
        repeat (refine wp_dec (by omega) ?_)
        refine wp_call (ref01_Join_sp l c.l) ?_
        simp only [getD_c0, toInt_dB, List.foldl_cons]
        rw [totC_eq]
        have key := loop_list (P := Try.prog) (md := md) c.inn (fun m' j (l : Lab) => ref08_Total_l7 N m m' (l.toNat : Int) (k : Int) (j : Int) (dA a)) (fun rest' l => [dB (rest.foldl totC (rest'.foldl (fun l x => l ||| totA x) l))]) (fun _ _ => True)
          (fun m' j l hj _ => by
            simp only [ref08_Total_l7_succ, dA_0, dA_1, dA_2, dC_0, dC_1, dC_2, dC_3, dC_4, dN_0, dN_1, dN_2, els_sl, els_dI, els_dL, List.length_map, Int.toNat_natCast, toInt_int, toInt_dB, toBool_bool, getD_c0, getD_c1, int_beq, int_bne, not_dec, dInt_dB, Int.toNat_zero, getD_map h2, wrap_succ (show k < 9223372036854775807 by omega)]
            repeat (refine wp_dec (by omega) ?_)
            exact wp_ndec (by omega) (ih _ trivial))
          (fun m' j l x rest' hdr' _ ih' => by
            obtain ⟨g1, g2, g3⟩ := drop_cons hdr'
            simp only [ref08_Total_l7_succ, dA_0, dA_1, dA_2, dC_0, dC_1, dC_2, dC_3, dC_4, dN_0, dN_1, dN_2, els_sl, els_dI, els_dL, List.length_map, Int.toNat_natCast, toInt_int, toInt_dB, toBool_bool, getD_c0, getD_c1, int_beq, int_bne, not_dec, dInt_dB, Int.toNat_zero, getD_map h2, getD_map g2, wrap_succ (show j < 9223372036854775807 by omega)]
            repeat (refine wp_dec (by omega) ?_)
            refine wp_call (IH' c (List.mem_of_getElem? h2) x (List.mem_of_getElem? g2) (hc.2.2.2 x (List.mem_of_getElem? g2))) (wp_call (ref01_Join_sp l (totA x)) ?_)
            exact ih' (l ||| totA x) trivial)
          N 0 (l ||| c.l) (by omega) (by omega) trivial
        exact key)
      N 0 a.s (by omega) (by omega) trivial
    simp only [dA_0, toInt_dB]
    exact key
/-- The same, with labels. -/
noncomputable def eqA (a b : Arr) : Bool := @decide (a = b) (Classical.propDecidable _)
noncomputable def eqC (a b : Cell) : Bool := @decide (a = b) (Classical.propDecidable _)
theorem eqA_iff {a b : Arr} : eqA a b = true ↔ a = b := by unfold eqA; exact @decide_eq_true_iff _ (Classical.propDecidable _)
theorem eqA_false {a b : Arr} (h : a ≠ b) : eqA a b = false := by cases e : eqA a b with
  | false => rfl
  | true => exact absurd (eqA_iff.1 e) h
theorem eqC_iff {a b : Cell} : eqC a b = true ↔ a = b := by unfold eqC; exact @decide_eq_true_iff _ (Classical.propDecidable _)
theorem eqC_false {a b : Cell} (h : a ≠ b) : eqC a b = false := by cases e : eqC a b with
  | false => rfl
  | true => exact absurd (eqC_iff.1 e) h
theorem eqA_self (a : Arr) : eqA a a = true := eqA_iff.2 rfl
theorem eqC_self (a : Cell) : eqC a a = true := eqC_iff.2 rfl
theorem cell_eq (a b : Cell) : (a = b) ↔ (a.l = b.l ∧ a.kind = b.kind ∧ a.c = b.c ∧ a.n = b.n ∧ a.inn = b.inn) := by
  cases a; cases b
  constructor
  · rintro ⟨⟩; exact ⟨rfl, rfl, rfl, rfl, rfl⟩
  · rintro ⟨h1, h2, h3, h4, h5⟩; dsimp only at h1 h2 h3 h4 h5; subst h1; subst h2; subst h3; subst h4; subst h5; rfl
theorem arr_eq (a b : Arr) : (a = b) ↔ (a.s = b.s ∧ a.shape = b.shape ∧ a.cells = b.cells) := by
  cases a; cases b; simp
/-- A loop that asks whether two lists are the same. -/
theorem same_loop {α : Type} {P : Program} {md : Nat → FMode} (a b : List α) (e : α → α → Bool) (he : ∀ x ∈ a, ∀ y, e x y = true ↔ x = y) (hlen : a.length = b.length) (r : Bool) (hr : r = true ↔ a = b) (L : Nat → Nat → Tree)
    (hend : ∀ m, ∀ Q : List D → Prop, Q [.bool true] → (L (m + 1) a.length).wp P md Q)
    (hstep : ∀ m k x y, ∀ Q : List D → Prop, a[k]? = some x → b[k]? = some y → (e x y = false → Q [.bool false]) → (e x y = true → (L m (k + 1)).wp P md Q) → (L (m + 1) k).wp P md Q) (N : Nat) (hN : a.length < N) : (L N 0).wp P md (fun zs => zs = [.bool r]) := by
  have key := loop_up (P := P) (md := md) a.length (fun m k (_ : Unit) => L m k) (fun _ _ => [.bool r]) (fun k _ => a.take k = b.take k)
    (fun m s h => by
      refine hend m _ ?_
      rw [List.take_of_length_le (Nat.le_refl _), List.take_of_length_le (by omega)] at h
      rw [hr.2 h])
    (fun m k s hk h ih => by
      have ha : a[k]? = some a[k] := List.getElem?_eq_getElem _
      have hb : b[k]? = some (b[k]'(by omega)) := List.getElem?_eq_getElem _
      refine hstep m k _ _ _ ha hb (fun hf => ?_) (fun ht => ih () ?_)
      · have : r = false := by
          cases hrr : r with
          | false => rfl
          | true =>
            have := hr.1 hrr
            subst this
            rw [(he a[k] (List.getElem_mem _) a[k]).2 rfl] at hf; cases hf
        rw [this]
      · have : a[k] = b[k] := (he a[k] (List.getElem_mem _) _).1 ht
        rw [List.take_succ_eq_append_getElem hk, List.take_succ_eq_append_getElem (by omega), h, this])
    N 0 () (by omega) (by omega) (by simp)
  exact key
theorem ref08_SameCell_step (a : Cell) (hf : FitsC a) (ih : ∀ x ∈ a.inn, Fits x → ∀ y, Sp 67 [dA x, dA y] [.bool (eqA x y)]) (b : Cell) : Sp 104 [dC a, dC b] [.bool (eqC a b)] := by
  refine sound_ (a.inn.length + 1) (ref08_SameCell_tree _ _ _) ?_
  have hl := hf.2.2.1
  simp only [dA_0, dA_1, dA_2, dC_0, dC_1, dC_2, dC_3, dC_4, dN_0, dN_1, dN_2, els_sl, els_dI, els_dL, List.length_map, Int.toNat_natCast, toInt_int, toInt_dB, toBool_bool, getD_c0, getD_c1, int_beq, int_bne, not_dec, dInt_dB, Int.toNat_zero]
  refine wp_decs (fun h => wp_ret ?_) (fun h1 => wp_decs (fun h => wp_ret ?_) (fun h2 => wp_decs (fun h => wp_ret ?_) (fun h3 => wp_call (ref04_Same_sp a.n b.n hf.1 hf.2.1) ?_)))
  · rw [eqC_false]; rintro rfl; exact h rfl
  · rw [eqC_false]; rintro rfl; exact h rfl
  · rw [eqC_false]; rintro rfl; exact h rfl
  simp only [getD_c0, toBool_bool, not_dec]
  refine wp_decs (fun h => wp_ret ?_) (fun h4 => wp_decs (fun h => wp_ret ?_) (fun h5 => ?_))
  · rw [eqC_false]; rintro rfl; exact h rfl
  · rw [eqC_false]; rintro rfl; exact h rfl
  have e1 : a.l = b.l := BitVec.eq_of_toNat_eq (by omega)
  refine same_loop (P := Try.prog) (md := md) a.inn b.inn eqA (fun x _ y => eqA_iff) (by omega) (eqC a b) ?_ (fun m k => ref08_SameCell_l4 (a.inn.length + 1) m (k : Int) (dC a) (dC b)) ?_ ?_ (a.inn.length + 1) (by omega)
  · rw [eqC_iff, cell_eq]
    have h2' := Classical.not_not.1 h2
    have h3' := Classical.not_not.1 h3
    have h4' := Classical.not_not.1 h4
    simp [e1, h2', h3', h4']
  · intro m Q hQ
    simp only [ref08_SameCell_l4_succ, dA_0, dA_1, dA_2, dC_0, dC_1, dC_2, dC_3, dC_4, dN_0, dN_1, dN_2, els_sl, els_dI, els_dL, List.length_map, Int.toNat_natCast, toInt_int, toInt_dB, toBool_bool, getD_c0, getD_c1, int_beq, int_bne, not_dec, dInt_dB, Int.toNat_zero]
    exact wp_ndec (by omega) (wp_ret hQ)
  · intro m k x y Q hx hy hF hT
    have hk : k < a.inn.length := (List.getElem?_eq_some_iff.1 hx).1
    simp only [ref08_SameCell_l4_succ, dA_0, dA_1, dA_2, dC_0, dC_1, dC_2, dC_3, dC_4, dN_0, dN_1, dN_2, els_sl, els_dI, els_dL, List.length_map, Int.toNat_natCast, toInt_int, toInt_dB, toBool_bool, getD_c0, getD_c1, int_beq, int_bne, not_dec, dInt_dB, Int.toNat_zero, getD_map hx, getD_map hy, wrap_succ (show k < 9223372036854775807 by omega)]
    repeat (refine wp_dec (by omega) ?_)
    refine wp_call (ih x (List.mem_of_getElem? hx) (hf.2.2.2 x (List.mem_of_getElem? hx)) y) ?_
    simp only [getD_c0, toBool_bool]
    refine wp_br (fun h => wp_ret (hF (by simpa using h))) (fun h => hT (by simpa using h))
theorem ref08_Same_sp (a : Arr) : Fits a → ∀ b, Sp 67 [dA a, dA b] [.bool (eqA a b)] := by
  induction a using Arr.ind with
  | h s sh cs IH =>
    intro ha b
    have hl := ha.len
    have IH' : ∀ c ∈ (Arr.mk s sh cs).cells, ∀ x ∈ c.inn, Fits x → ∀ y, Sp 67 [dA x, dA y] [.bool (eqA x y)] := IH
    generalize Arr.mk s sh cs = a at *
    refine sound_ (a.cells.length + 1) (ref08_Same_tree _ _ _) ?_
    simp only [dA_0, dA_1, dA_2, dC_0, dC_1, dC_2, dC_3, dC_4, dN_0, dN_1, dN_2, els_sl, els_dI, els_dL, List.length_map, Int.toNat_natCast, toInt_int, toInt_dB, toBool_bool, getD_c0, getD_c1, int_beq, int_bne, not_dec, dInt_dB, Int.toNat_zero]
    refine wp_decs (fun h => wp_ret ?_) (fun h1 => wp_call (ref07_Ints_sp a.shape b.shape ha.sh) ?_)
    · rw [eqA_false]; rintro rfl; exact h rfl
    simp only [getD_c0, toBool_bool, not_dec]
    refine wp_decs (fun h => wp_ret ?_) (fun h4 => wp_decs (fun h => wp_ret ?_) (fun h5 => ?_))
    · rw [eqA_false]; rintro rfl; exact h rfl
    · rw [eqA_false]; rintro rfl; exact h rfl
    have e1 : a.s = b.s := BitVec.eq_of_toNat_eq (by omega)
    refine same_loop (P := Try.prog) (md := md) a.cells b.cells eqC (fun x _ y => eqC_iff) (by omega) (eqA a b) ?_ (fun m k => ref08_Same_l4 (a.cells.length + 1) m (k : Int) (dA a) (dA b)) ?_ ?_ (a.cells.length + 1) (by omega)
    · rw [eqA_iff, arr_eq]
      have h4' := Classical.not_not.1 h4
      simp [e1, h4']
    · intro m Q hQ
      simp only [ref08_Same_l4_succ, dA_0, dA_1, dA_2, dC_0, dC_1, dC_2, dC_3, dC_4, dN_0, dN_1, dN_2, els_sl, els_dI, els_dL, List.length_map, Int.toNat_natCast, toInt_int, toInt_dB, toBool_bool, getD_c0, getD_c1, int_beq, int_bne, not_dec, dInt_dB, Int.toNat_zero]
      exact wp_ndec (by omega) (wp_ret hQ)
    · intro m k x y Q hx hy hF hT
      have hk : k < a.cells.length := (List.getElem?_eq_some_iff.1 hx).1
      simp only [ref08_Same_l4_succ, dA_0, dA_1, dA_2, dC_0, dC_1, dC_2, dC_3, dC_4, dN_0, dN_1, dN_2, els_sl, els_dI, els_dL, List.length_map, Int.toNat_natCast, toInt_int, toInt_dB, toBool_bool, getD_c0, getD_c1, int_beq, int_bne, not_dec, dInt_dB, Int.toNat_zero, getD_map hx, getD_map hy, wrap_succ (show k < 9223372036854775807 by omega)]
      repeat (refine wp_dec (by omega) ?_)
      refine wp_call (ref08_SameCell_step x (ha.cell x (List.mem_of_getElem? hx)) (IH' x (List.mem_of_getElem? hx)) y) ?_
      simp only [getD_c0, toBool_bool]
      refine wp_br (fun h => wp_ret (hF (by simpa using h))) (fun h => hT (by simpa using h))
theorem ref08_SameCell_sp (a b : Cell) (hf : FitsC a) : Sp 104 [dC a, dC b] [.bool (eqC a b)] := ref08_SameCell_step a hf (fun x _ hx y => ref08_Same_sp x hx y) b
/-- Small whole numbers; an error. -/
def intsCs : List Cell → Option (List Int)
  | [] => some []
  | c :: cs => if c.kind = 0 then (smallN c.n).bind (fun z => (intsCs cs).map (z :: ·)) else none
def intsA (a : Arr) : List Int × Int := if 1 < a.shape.length then ([], 5) else match intsCs a.cells with
  | some l => (l, 0)
  | none => ([], 3)
def intC (z : Int) : Cell := ⟨0, 0, ofZ z, 0, []⟩
def fillC (a : Arr) : Cell := match a.cells with
  | [] => intC 0
  | c :: _ => if c.kind = 1 then ⟨c.l, 1, .zero, 32, []⟩ else ⟨c.l, 0, ofZ 0, 0, []⟩
theorem smallN_inR {n : Num} {z : Int} (h : smallN n = some z) : inR z := by
  unfold smallN smO at h
  split at h
  · split at h
    · injection h with h; subst h; assumption
    · cases h
  · cases h
theorem intsCs_inR : ∀ {cs : List Cell} {l : List Int}, intsCs cs = some l → l.length = cs.length ∧ ∀ x ∈ l, inR x
  | [], l, h => by simp [intsCs] at h; subst h; simp
  | c :: cs, l, h => by
    simp only [intsCs] at h
    split at h
    · cases hn : smallN c.n with
      | none => rw [hn] at h; cases h
      | some z =>
        rw [hn] at h
        cases hc : intsCs cs with
        | none => rw [hc] at h; cases h
        | some l' =>
          rw [hc] at h
          injection h with h; subst h
          have := intsCs_inR hc
          exact ⟨by simp [this.1], fun x hx => by rcases List.mem_cons.1 hx with rfl | hx; exact smallN_inR hn; exact this.2 x hx⟩
    · cases h
def insD (out : List Int) : Option (List Int) → List D
  | some l => [dI (out ++ l), .int 0]
  | none => [.sl [], .int 3]
theorem insD_intsA {a : Arr} (h : ¬ 1 < a.shape.length) : insD [] (intsCs a.cells) = [dI (intsA a).1, .int (intsA a).2] := by
  unfold intsA; rw [if_neg h]; cases intsCs a.cells <;> rfl
theorem ref08_Int_sp (z : Int) (hz : inR z) : Sp 103 [.int z] [dC (intC z)] := by
  refine sound_ 0 (ref08_Int_tree _ _) (wp_call (ref04_Of_sp z hz) (wp_ret ?_))
  rw [dC_eq]; rfl
end Go.Proofs.Ytdkanalnpbllcaa
set_option maxRecDepth 100000
namespace Go.Proofs.Ytdkanalnpbllcaa

theorem array_Total_sp (a : Arr) : Fits a → Sp 61 [dA a] [dB (totA a)] := by
  induction a using Arr.ind with
  | h s sh cs IH =>
    intro ha
    have hl := ha.len
    have IH' : ∀ c ∈ (Arr.mk s sh cs).cells, ∀ x ∈ c.inn, Fits x → Sp 61 [dA x] [dB (totA x)] := IH
    generalize Arr.mk s sh cs = a at *
    obtain ⟨N, hN⟩ := bigFuel
    refine sound_ N (array_Total_tree _ _) ?_
    rw [totA_eq]
    have key := loop_list (P := Try.prog) (md := md) a.cells (fun m k (l : Lab) => array_Total_l3 N m (l.toNat : Int) (.sl (a.cells.map dC)) (a.cells.length : Int) (k : Int)) (fun rest l => [dB (rest.foldl totC l)]) (fun _ _ => True)
      (fun m k l hk _ => by
        simp only [array_Total_l3_succ, dA_0, dA_1, dA_2, dC_0, dC_1, dC_2, dC_3, dC_4, dN_0, dN_1, dN_2, els_sl, els_dI, els_dL, List.length_map, Int.toNat_natCast, toInt_int, toInt_dB, toBool_bool, getD_c0, getD_c1, int_beq, int_bne, not_dec, dInt_dB, Int.toNat_zero]
        exact wp_ndec (by omega) (wp_ret rfl))
      (fun m k l c rest hdr _ ih => by
        obtain ⟨h1, h2, h3⟩ := drop_cons hdr
        have hc := ha.cell c (List.mem_of_getElem? h2)
        have hlc := hc.2.2.1
        simp only [array_Total_l3_succ, dA_0, dA_1, dA_2, dC_0, dC_1, dC_2, dC_3, dC_4, dN_0, dN_1, dN_2, els_sl, els_dI, els_dL, List.length_map, Int.toNat_natCast, toInt_int, toInt_dB, toBool_bool, getD_c0, getD_c1, int_beq, int_bne, not_dec, dInt_dB, Int.toNat_zero, getD_map h2]
        repeat (refine wp_dec (by omega) ?_)
        refine wp_call (label_Join_sp l c.l) ?_
        simp only [getD_c0, toInt_dB, List.foldl_cons]
        rw [totC_eq]
        have key := loop_list (P := Try.prog) (md := md) c.inn (fun m' j (l : Lab) => array_Total_l7 N m m' (l.toNat : Int) (.sl (a.cells.map dC)) (a.cells.length : Int) (k : Int) (.sl (c.inn.map dA)) (c.inn.length : Int) (j : Int)) (fun rest' l => [dB (rest.foldl totC (rest'.foldl (fun l x => l ||| totA x) l))]) (fun _ _ => True)
          (fun m' j l hj _ => by
            simp only [array_Total_l7_succ, dA_0, dA_1, dA_2, dC_0, dC_1, dC_2, dC_3, dC_4, dN_0, dN_1, dN_2, els_sl, els_dI, els_dL, List.length_map, Int.toNat_natCast, toInt_int, toInt_dB, toBool_bool, getD_c0, getD_c1, int_beq, int_bne, not_dec, dInt_dB, Int.toNat_zero, getD_map h2, wrap_succ (show k < 9223372036854775807 by omega)]
            exact wp_ndec (by omega) (ih _ trivial))
          (fun m' j l x rest' hdr' _ ih' => by
            obtain ⟨g1, g2, g3⟩ := drop_cons hdr'
            simp only [array_Total_l7_succ, dA_0, dA_1, dA_2, dC_0, dC_1, dC_2, dC_3, dC_4, dN_0, dN_1, dN_2, els_sl, els_dI, els_dL, List.length_map, Int.toNat_natCast, toInt_int, toInt_dB, toBool_bool, getD_c0, getD_c1, int_beq, int_bne, not_dec, dInt_dB, Int.toNat_zero, getD_map h2, getD_map g2, wrap_succ (show j < 9223372036854775807 by omega)]
            repeat (refine wp_dec (by omega) ?_)
            refine wp_call (IH' c (List.mem_of_getElem? h2) x (List.mem_of_getElem? g2) (hc.2.2.2 x (List.mem_of_getElem? g2))) (wp_call (label_Join_sp l (totA x)) ?_)
            exact ih' (l ||| totA x) trivial)
          N 0 (l ||| c.l) (by omega) (by omega) trivial
        exact key)
      N 0 a.s (by omega) (by omega) trivial
    simp only [dA_0, dA_1, dA_2, dC_0, dC_1, dC_2, dC_3, dC_4, dN_0, dN_1, dN_2, els_sl, els_dI, els_dL, List.length_map, Int.toNat_natCast, toInt_int, toInt_dB, toBool_bool, getD_c0, getD_c1, int_beq, int_bne, not_dec, dInt_dB, Int.toNat_zero]
    exact key
theorem array_Int_sp (z : Int) (hz : inR z) : Sp 58 [.int z] [dC (intC z)] := by
  refine sound_ 0 (array_Int_tree _ _) (wp_call (ratio_Of_sp z hz) (wp_ret ?_))
  rw [dC_eq]; rfl
def chrC (c : Int) : Cell := ⟨0, 1, .zero, c, []⟩
theorem array_Chr_sp (z : Int) : Sp 60 [.int z] [dC (chrC z)] := by
  refine sound_ 0 (array_Chr_tree _ _) (wp_ret ?_)
  rw [dC_eq]; rfl
theorem inR0 : inR 0 := by unfold inR; decide
end Go.Proofs.Ytdkanalnpbllcaa
set_option maxRecDepth 100000
namespace Go.Proofs.Ytdkanalnpbllcaa

theorem lb_one : lb 1 = [1] := by rw [lb_pos (by decide), show 1 / B = 0 by decide, lb_zero]; rfl
theorem numT_ofZ (z : Int) : numT (ofZ z) = z := zv_wz z
theorem numB_ofZ (z : Int) : numB (ofZ z) = 1 := by simp [numB, ofZ, nv]
theorem lb_inR {z : Int} (h : inR z) : (lb z.natAbs).length ≤ 2 := lb_len.2 (by unfold inR at h; show z.natAbs < 18446744073709551616; omega)
theorem rightN_ofZ {z : Int} (h : inR z) : rightN (ofZ z) = true := by
  have hl := lb_inR h
  unfold rightN
  rw [numT_ofZ, numB_ofZ]
  refine decide_eq_true ⟨by simp only [ofZ]; omega, by simp [ofZ], ?_⟩
  unfold mkR
  simp only [Int.natAbs_one, Nat.gcd_one_right, Nat.div_one, lb_one]
  rw [if_neg (by decide), if_neg (by simp only [List.length_cons, List.length_nil]; omega)]
  unfold ofZ
  congr 2
  by_cases hz : z < 0
  · have : 0 < (lb z.natAbs).length := by
      rcases Nat.eq_zero_or_pos (lb z.natAbs).length with h0 | h0
      · have := lb_len0.1 h0; omega
      · exact h0
    simp [hz, this]
  · simp [hz]
theorem smallN_ofZ {z : Int} (h : inR z) : smallN (ofZ z) = some z := by
  unfold smallN smO
  rw [if_pos (show (ofZ z).bot = [1] from rfl), numT_ofZ, if_pos h]
theorem rightN_len {n : Num} (h : rightN n = true) : n.top.length ≤ 32 ∧ n.bot.length ≤ 32 := by
  have := of_decide_eq_true h
  exact ⟨this.1, this.2.1⟩
theorem rightC_len {d : Nat} {c : Cell} (h : rightC d c = true) : c.n.top.length ≤ 32 ∧ c.n.bot.length ≤ 32 ∧ c.inn.length ≤ 1 := by
  suffices key : ∀ k r, cellR k r c = true → c.n.top.length ≤ 32 ∧ c.n.bot.length ≤ 32 ∧ c.inn.length ≤ 1 by
    cases d with
    | zero => exact key _ _ h
    | succ d => exact key _ _ h
  intro k r h
  unfold cellR at h
  split at h
  · simp only [Bool.and_eq_true, decide_eq_true_eq] at h
    exact ⟨(rightN_len h.2).1, (rightN_len h.2).2, by omega⟩
  split at h
  · simp only [Bool.and_eq_true, decide_eq_true_eq] at h
    rw [h.1.1]; exact ⟨by decide, by decide, by omega⟩
  · simp only [Bool.and_eq_true, decide_eq_true_eq] at h
    rw [h.1.2.1]
    refine ⟨by decide, by decide, ?_⟩
    have hb := h.2.2
    unfold boxOK at hb
    split at hb
    · rename_i hi; rw [hi]; simp
    · cases hb
theorem rightA_cells {d : Nat} {a : Arr} (h : rightA d a = true) : countS a.shape = ((a.cells.length : Int), 0) ∧ ∀ c ∈ a.cells, rightC d c = true := by
  rw [rightA_eq] at h
  simp only [Bool.and_eq_true, decide_eq_true_eq, List.all_eq_true] at h
  exact h
theorem rightA_of {d : Nat} {a : Arr} (h1 : countS a.shape = ((a.cells.length : Int), 0)) (h2 : ∀ c ∈ a.cells, rightC d c = true) : rightA d a = true := by
  rw [rightA_eq]
  simp only [Bool.and_eq_true, decide_eq_true_eq, List.all_eq_true]
  exact ⟨h1, h2⟩
theorem rightA_len {d : Nat} {a : Arr} (h : rightA d a = true) : a.cells.length ≤ 2048 ∧ a.shape.length ≤ 6 ∧ ∀ x ∈ a.shape, 0 ≤ x ∧ x ≤ 2048 := by
  have h1 := (rightA_cells h).1
  have h2 := countS_le a.shape
  have h3 := countS_len (l := a.shape) (by rw [h1])
  rw [h1] at h2
  exact ⟨by simp only at h2; omega, h3⟩
theorem rightA_top {d : Nat} {a : Arr} (h : rightA d a = true) : ∀ c ∈ a.cells, c.n.top.length ≤ 32 := fun c hc => (rightC_len ((rightA_cells h).2 c hc)).1
theorem rightC_int {z : Int} (d : Nat) (h : inR z) : rightC d (intC z) = true := by
  have : ∀ k r, cellR k r (intC z) = true := by
    intro k r
    unfold cellR
    rw [if_pos (show (intC z).kind = 0 from rfl)]
    have := rightN_ofZ h
    simp only [intC, this]; rfl
  cases d <;> exact this _ _
theorem fitsC_int {z : Int} (h : inR z) : FitsC (intC z) := by
  have := lb_inR h
  refine ⟨?_, ?_, ?_, ?_⟩
  · simp only [intC, ofZ]; omega
  · simp [intC, ofZ]
  · simp [intC]
  · simp [intC]
theorem inR_small {z : Int} (h1 : -100000 ≤ z) (h2 : z ≤ 100000) : inR z := by unfold inR; omega
theorem fits_vec {l : List Int} {s : Lab} (hl : l.length ≤ 100000) (h : ∀ x ∈ l, inR x) : Fits (.mk s [(l.length : Int)] (l.map intC)) := by
  refine Fits.of (by simp) (by simp; omega) ?_ ?_
  · intro x hx; simp only [List.mem_singleton] at hx; subst hx; exact inR_small (by omega) (by omega)
  · intro c hc
    obtain ⟨z, hz, rfl⟩ := List.mem_map.1 hc
    exact fitsC_int (h z hz)
theorem fits_none : Fits .none := Fits.of (by simp) (by simp) (by simp) (by simp)
end Go.Proofs.Ytdkanalnpbllcaa
set_option maxRecDepth 100000
namespace Go.Proofs.Ytdkanalnpbllcaa

/-- No list is long, and there are not more than so many arrays within one another. -/
def Sml : Nat → Arr → Prop
  | 0, _ => False
  | d + 1, a => a.shape.length ≤ 1048576 ∧ a.cells.length ≤ 1048576 ∧ (∀ x ∈ a.shape, inR x) ∧ ∀ c ∈ a.cells, c.n.top.length ≤ 1048576 ∧ c.n.bot.length ≤ 1048576 ∧ c.inn.length ≤ 1048576 ∧ ∀ x ∈ c.inn, Sml d x
def SmlC (d : Nat) (c : Cell) : Prop := c.n.top.length ≤ 1048576 ∧ c.n.bot.length ≤ 1048576 ∧ c.inn.length ≤ 1048576 ∧ ∀ x ∈ c.inn, Sml d x
theorem Sml.succ {d : Nat} {a : Arr} (h : Sml d a) : ∃ e, d = e + 1 := by
  cases d with
  | zero => exact h.elim
  | succ e => exact ⟨e, rfl⟩
theorem Sml.cell {d : Nat} {a : Arr} (h : Sml (d + 1) a) : ∀ c ∈ a.cells, SmlC d c := h.2.2.2
theorem Sml.of {d : Nat} {a : Arr} (h1 : a.shape.length ≤ 1048576) (h2 : a.cells.length ≤ 1048576) (h3 : ∀ x ∈ a.shape, inR x) (h4 : ∀ c ∈ a.cells, SmlC d c) : Sml (d + 1) a := ⟨h1, h2, h3, h4⟩
theorem Sml.fits : ∀ {d : Nat} {a : Arr}, Sml d a → Fits a
  | 0, _, h => h.elim
  | d + 1, .mk s sh cs, ⟨h1, h2, h3, h4⟩ => by
    have h1' : sh.length ≤ 1048576 := h1
    have h2' : cs.length ≤ 1048576 := h2
    refine Fits.of (by omega) (by omega) h3 (fun c hc => ?_)
    obtain ⟨g1, g2, g3, g4⟩ := h4 c hc
    exact ⟨by omega, by omega, by omega, fun x hx => (g4 x hx).fits⟩
theorem SmlC.fits {d : Nat} {c : Cell} (h : SmlC d c) : FitsC c := ⟨by have := h.1; omega, by have := h.2.1; omega, by have := h.2.2.1; omega, fun x hx => (h.2.2.2 x hx).fits⟩
theorem Sml.mono : ∀ {d e : Nat} {a : Arr}, Sml d a → d ≤ e → Sml e a
  | 0, _, _, h, _ => h.elim
  | d + 1, 0, _, _, hle => by omega
  | d + 1, e + 1, a, ⟨h1, h2, h3, h4⟩, hle => ⟨h1, h2, h3, fun c hc => ⟨(h4 c hc).1, (h4 c hc).2.1, (h4 c hc).2.2.1, fun x hx => ((h4 c hc).2.2.2 x hx).mono (by omega)⟩⟩
theorem SmlC.mono {d e : Nat} {c : Cell} (h : SmlC d c) (hle : d ≤ e) : SmlC e c := ⟨h.1, h.2.1, h.2.2.1, fun x hx => (h.2.2.2 x hx).mono hle⟩

/-- What is in a right cell. -/
theorem rightC_inn {d : Nat} {c : Cell} (h : rightC d c = true) : ∀ x ∈ c.inn, ∃ e, d = e + 1 ∧ simpleA x = false ∧ rightA e x = true ∧ c.inn = [x] ∧ c.kind = 2 := by
  have key : ∀ k r, cellR k r c = true → ∀ x ∈ c.inn, k = true ∧ simpleA x = false ∧ r x = true ∧ c.inn = [x] ∧ c.kind = 2 := by
    intro k r h x hx
    unfold cellR at h
    split at h
    · simp only [Bool.and_eq_true, decide_eq_true_eq] at h
      rw [List.length_eq_zero_iff.1 h.1.2] at hx; cases hx
    split at h
    · simp only [Bool.and_eq_true, decide_eq_true_eq] at h
      rw [List.length_eq_zero_iff.1 h.1.2] at hx; cases hx
    · simp only [Bool.and_eq_true, decide_eq_true_eq] at h
      obtain ⟨h1, h2, h3⟩ := h
      unfold boxOK at h3
      split at h3
      · rename_i y hy
        rw [hy] at hx ⊢
        have : x = y := by simpa using hx
        subst this
        simp only [Bool.and_eq_true, Bool.not_eq_true'] at h3
        exact ⟨h2, h3.1, h3.2, rfl, h1.1⟩
      · cases h3
  cases d with
  | zero => intro x hx; exact absurd (key _ _ h x hx).1 (by simp)
  | succ e => intro x hx; exact ⟨e, rfl, (key _ _ h x hx).2⟩
theorem rightA_sml : ∀ {d : Nat} {a : Arr}, rightA d a = true → Sml (d + 1) a
  | 0, a, h => by
    have hl := rightA_len h
    refine ⟨by omega, by omega, fun x hx => inR_small (by have := hl.2.2 x hx; omega) (by have := hl.2.2 x hx; omega), fun c hc => ?_⟩
    have hc' := (rightA_cells h).2 c hc
    have := rightC_len hc'
    exact ⟨by omega, by omega, by omega, fun x hx => by obtain ⟨e, he, _⟩ := rightC_inn hc' x hx; omega⟩
  | d + 1, a, h => by
    have hl := rightA_len h
    refine ⟨by omega, by omega, fun x hx => inR_small (by have := hl.2.2 x hx; omega) (by have := hl.2.2 x hx; omega), fun c hc => ?_⟩
    have hc' := (rightA_cells h).2 c hc
    have := rightC_len hc'
    refine ⟨by omega, by omega, by omega, fun x hx => ?_⟩
    obtain ⟨e, he, _, hr, _⟩ := rightC_inn hc' x hx
    have : e = d := by omega
    subst this
    exact rightA_sml hr
theorem rightC_sml {d : Nat} {c : Cell} (h : rightC d c = true) : SmlC d c := by
  have := rightC_len h
  refine ⟨by omega, by omega, by omega, fun x hx => ?_⟩
  obtain ⟨e, rfl, _, hr, _⟩ := rightC_inn h x hx
  exact rightA_sml hr

theorem clone_tw (es : List D) (h : es.length ≤ 1048576) : Tw (.amb es.isEmpty (.ret [D.sl []]) (.br (decide (([] : List D).length + es.length ≤ bigN)) (.ret [D.sl ([] ++ es)]) .fail)) [D.sl es] := by
  refine wp_amb (fun h => wp_ret ?_) (wp_dec ?_ (wp_ret ?_))
  · rw [List.isEmpty_iff.1 h]
  · simp only [List.length_nil, bigN]; omega
  · rw [List.nil_append]
theorem clone_U_sp (l : List Limb) (h : l.length ≤ 1048576) : Sp 128 [dL l] [dL l] := sound_ 0 (slices_Clone_uint32_uint32_tree _ _) (by simp only [els_dL]; exact clone_tw _ (by simpa using h))
theorem clone_A_sp (l : List Arr) (h : l.length ≤ 1048576) : Sp 129 [.sl (l.map dA)] [.sl (l.map dA)] := sound_ 0 (slices_Clone_api_Array_api_Array_tree _ _) (by simp only [els_sl]; exact clone_tw _ (by simpa using h))
theorem array_own_sp {d : Nat} (c : Cell) (h : SmlC d c) : Sp 95 [dC c] [dC c] := by
  refine sound_ 0 (array_own_tree _ _) ?_
  simp only [dA_0, dA_1, dA_2, dC_0, dC_1, dC_2, dC_3, dC_4, dN_0, dN_1, dN_2, els_sl, els_dI, els_dL, List.length_map, Int.toNat_natCast, toInt_int, toInt_dB, toBool_bool, getD_c0, getD_c1, int_beq, int_bne, not_dec, dInt_dB, Int.toNat_zero]
  refine wp_call (clone_U_sp _ h.1) (wp_call (clone_U_sp _ h.2.1) (wp_call (clone_A_sp _ h.2.2.1) (wp_ret ?_)))
  simp only [getD_c0, els_dL, els_sl, dsl_dL]
  rw [dC_eq]; rfl
def oneA (c : Cell) : Arr := .mk 0 [] [c]
def vectA (l : List Cell) : Arr := .mk 0 [(l.length : Int)] l
def raiseA (a : Arr) (l : Lab) : Arr := .mk (a.s ||| l) a.shape a.cells
theorem array_Scalar_sp {d : Nat} (c : Cell) (h : SmlC d c) : Sp 56 [dC c] [dA (oneA c)] := by
  refine sound_ 0 (array_Scalar_tree _ _) (wp_call (array_own_sp c h) (wp_ret ?_))
  rw [dA_eq]; rfl
theorem set_next {α : Type} {f : α → D} {z : D} (pre : List α) (x : α) (k : Nat) : ((pre.map f) ++ List.replicate (k + 1) z).set pre.length (f x) = ((pre ++ [x]).map f) ++ List.replicate k z := by
  rw [List.set_append_right _ _ (by simp), List.length_map, Nat.sub_self, List.replicate_succ, List.set_cons_zero]
  simp
theorem dA_none : D.agg [D.int 0, D.sl [], D.sl []] = dA .none := by rw [dA_eq]; rfl
theorem dC_none' : D.agg [D.int 0, D.int 0, D.agg [D.bool false, D.sl [], D.sl []], D.int 0, D.sl []] = dC Cell.none := by rw [dC_eq]; rfl
theorem array_Vector_sp {d : Nat} (l : List Cell) (h : ∀ c ∈ l, SmlC d c) (hl : l.length ≤ 1048576) : Sp 59 [.sl (l.map dC)] [dA (vectA l)] := by
  refine sound_ (l.length + 1) (array_Vector_tree _ _) ?_
  simp only [dA_0, dA_1, dA_2, dC_0, dC_1, dC_2, dC_3, dC_4, dN_0, dN_1, dN_2, els_sl, els_dI, els_dL, List.length_map, Int.toNat_natCast, toInt_int, toInt_dB, toBool_bool, getD_c0, getD_c1, int_beq, int_bne, not_dec, dInt_dB, Int.toNat_zero, dC_none']
  refine wp_dec (by omega) (wp_dec (by omega) (wp_dec (by simp only [bigN]; omega) ?_))
  have key := loop_list (P := Try.prog) (md := md) l (fun m k (cs : List D) => array_Vector_l3 (l.length + 1) m (.sl (l.map dC)) cs (.sl (l.map dC)) (l.length : Int) (k : Int) 0) (fun _ _ => [dA (vectA l)])
    (fun rest cs => ∃ pre, l = pre ++ rest ∧ cs = pre.map dC ++ List.replicate rest.length (dC Cell.none))
    (fun m k cs hk hI => by
      obtain ⟨pre, h1, rfl⟩ := hI
      simp only [array_Vector_l3_succ, dA_0, dA_1, dA_2, dC_0, dC_1, dC_2, dC_3, dC_4, dN_0, dN_1, dN_2, els_sl, els_dI, els_dL, List.length_map, Int.toNat_natCast, toInt_int, toInt_dB, toBool_bool, getD_c0, getD_c1, int_beq, int_bne, not_dec, dInt_dB, Int.toNat_zero]
      refine wp_ndec (by omega) (wp_ret ?_)
      rw [List.append_nil] at h1
      rw [dA_eq, vectA]; subst h1; simp [dI]; rfl)
    (fun m k cs c rest hdr hI ih => by
      obtain ⟨h1, h2, h3⟩ := drop_cons hdr
      obtain ⟨pre, hp, rfl⟩ := hI
      have hk : k = pre.length := by
        have := congrArg List.length hdr
        rw [hp] at this h1
        simp at this h1; omega
      simp only [array_Vector_l3_succ, dA_0, dA_1, dA_2, dC_0, dC_1, dC_2, dC_3, dC_4, dN_0, dN_1, dN_2, els_sl, els_dI, els_dL, List.length_map, Int.toNat_natCast, toInt_int, toInt_dB, toBool_bool, getD_c0, getD_c1, int_beq, int_bne, not_dec, dInt_dB, Int.toNat_zero, getD_map h2, wrap_succ (show k < 9223372036854775807 by omega)]
      repeat (refine wp_dec (by omega) ?_)
      refine wp_call (array_own_sp c (h c (List.mem_of_getElem? h2))) ?_
      have hlen : (pre.map dC ++ List.replicate (rest.length + 1) (dC Cell.none)).length = l.length := by rw [hp]; simp
      rw [List.length_cons, hlen]
      refine wp_dec (by omega) (wp_dec (by omega) ?_)
      rw [getD_c0, hk, set_next, ← hk]
      exact ih _ ⟨pre ++ [c], by rw [hp]; simp, rfl⟩)
    (l.length + 1) 0 (List.replicate l.length (dC Cell.none)) (by omega) (by omega) ⟨[], by simp, by simp⟩
  exact key
theorem array_Raise_sp (a : Arr) (l : Lab) : Sp 72 [dA a, dB l] [dA (raiseA a l)] := by
  refine sound_ 0 (array_Raise_tree _ _ _) ?_
  simp only [dA_0, dA_1, dA_2, dC_0, dC_1, dC_2, dC_3, dC_4, dN_0, dN_1, dN_2, els_sl, els_dI, els_dL, List.length_map, Int.toNat_natCast, toInt_int, toInt_dB, toBool_bool, getD_c0, getD_c1, int_beq, int_bne, not_dec, dInt_dB, Int.toNat_zero]
  refine wp_call (label_Join_sp a.s l) (wp_ret ?_)
  rw [dA_eq]; rfl
/-- A cell as an array. -/
def unpC (c : Cell) : Arr := match c.inn with
  | [x] => if c.kind = 2 then raiseA x c.l else .mk c.l [] [c]
  | _ => .mk c.l [] [c]
theorem raise_one (c : Cell) : raiseA (oneA c) c.l = .mk c.l [] [c] := by simp [raiseA, oneA]
theorem unpC_neg {c : Cell} (h : ¬ (c.kind = 2 ∧ c.inn.length = 1)) : unpC c = .mk c.l [] [c] := by
  unfold unpC
  split
  · rename_i x hx
    rw [if_neg (fun hk => h ⟨hk, by rw [hx]; rfl⟩)]
  · rfl
theorem unpC_pos {c : Cell} {x : Arr} (h : c.kind = 2) (hx : c.inn = [x]) : unpC c = raiseA x c.l := by unfold unpC; rw [hx]; simp [h]
theorem len_one {α : Type} {l : List α} (h : l.length = 1) : ∃ x, l = [x] := by
  match l, h with
  | [x], _ => exact ⟨x, rfl⟩
theorem array_alone_sp (a : Arr) : Sp 65 [dA a] [.bool (decide (a.shape.length = 0 ∧ a.cells.length = 1))] := by
  refine sound_ 0 (array_alone_tree _ _) ?_
  simp only [dA_0, dA_1, dA_2, dC_0, dC_1, dC_2, dC_3, dC_4, dN_0, dN_1, dN_2, els_sl, els_dI, els_dL, List.length_map, Int.toNat_natCast, toInt_int, toInt_dB, toBool_bool, getD_c0, getD_c1, int_beq, int_bne, not_dec, dInt_dB, Int.toNat_zero]
  refine wp_decs (fun h => wp_ret ?_) (fun h => wp_ret ?_)
  · congr 2; rw [decide_eq_decide]; omega
  · rw [decide_eq_false (fun hh => h (by omega))]
theorem array_Simple_sp (a : Arr) : Sp 19 [dA a] [.bool (simpleA a)] := by
  refine sound_ 0 (array_Simple_tree _ _) (wp_call (array_alone_sp a) ?_)
  simp only [dA_0, dA_1, dA_2, dC_0, dC_1, dC_2, dC_3, dC_4, dN_0, dN_1, dN_2, els_sl, els_dI, els_dL, List.length_map, Int.toNat_natCast, toInt_int, toInt_dB, toBool_bool, getD_c0, getD_c1, int_beq, int_bne, not_dec, dInt_dB, Int.toNat_zero]
  unfold simpleA
  refine wp_decs (fun h => ?_) (fun h => wp_ret ?_)
  · obtain ⟨c, hc⟩ := len_one h.2
    have hs := List.length_eq_zero_iff.1 h.1
    simp only [hc, hs, List.map_cons, List.map_nil, List.length_cons, List.length_nil, getD_c0, dC_1, toInt_int]
    exact wp_dec (by omega) (wp_dec (by omega) (wp_ret rfl))
  · match hs : a.shape, hc : a.cells with
    | [], [c] => rw [hs, hc] at h; simp at h
    | x :: xs, _ => rfl
    | [], [] => rfl
    | [], x :: y :: xs => rfl
/-- An array as a cell. -/
def packC (a : Arr) : Cell := match a.shape, a.cells with
  | [], [c] => ⟨c.l ||| a.s, c.kind, c.n, c.c, c.inn⟩
  | _, _ => ⟨a.s, 2, .zero, 0, [a]⟩
theorem packC_pos {a : Arr} {c : Cell} (h : a.shape = []) (hc : a.cells = [c]) : packC a = ⟨c.l ||| a.s, c.kind, c.n, c.c, c.inn⟩ := by unfold packC; rw [h, hc]
theorem packC_neg {a : Arr} (h : ¬ (a.shape.length = 0 ∧ a.cells.length = 1)) : packC a = ⟨a.s, 2, .zero, 0, [a]⟩ := by
  unfold packC
  match hs : a.shape, hc : a.cells with
  | [], [c] => rw [hs, hc] at h; simp at h
  | x :: xs, _ => rfl
  | [], [] => rfl
  | [], x :: y :: xs => rfl
theorem dC_box (l : Lab) (a : Arr) : D.agg [dB l, D.int 2, D.agg [D.bool false, D.sl [], D.sl []], D.int 0, D.sl [dA a]] = dC ⟨l, 2, .zero, 0, [a]⟩ := by rw [dC_eq]; rfl
mutual
def relA (g : Lab → Lab) : Arr → Arr
  | .mk s sh cs => .mk (g s) sh (relCs g cs)
def relCs (g : Lab → Lab) : List (CellF Arr) → List (CellF Arr)
  | [] => []
  | c :: cs => relC g c :: relCs g cs
def relC (g : Lab → Lab) : CellF Arr → CellF Arr
  | ⟨l, k, n, c, inn⟩ => ⟨g l, k, n, c, relAs g inn⟩
def relAs (g : Lab → Lab) : List Arr → List Arr
  | [] => []
  | a :: as_ => relA g a :: relAs g as_
end
theorem relCs_map (g : Lab → Lab) : ∀ cs, relCs g cs = cs.map (relC g)
  | [] => by simp [relCs]
  | c :: cs => by simp [relCs, relCs_map g cs]
theorem relAs_map (g : Lab → Lab) : ∀ as_, relAs g as_ = as_.map (relA g)
  | [] => by simp [relAs]
  | a :: as_ => by simp [relAs, relAs_map g as_]
theorem relA_eq (g : Lab → Lab) (a : Arr) : relA g a = .mk (g a.s) a.shape (a.cells.map (relC g)) := by cases a; simp [relA, relCs_map]
theorem relC_eq (g : Lab → Lab) (c : Cell) : relC g c = ⟨g c.l, c.kind, c.n, c.c, c.inn.map (relA g)⟩ := by cases c; simp [relC, relAs_map]
theorem relC_id_of (g : Lab → Lab) (hg : ∀ l, g l = l) (c : Cell) (h : ∀ x ∈ c.inn, relA g x = x) : relC g c = c := by
  rw [relC_eq, hg]
  have : c.inn.map (relA g) = c.inn := by conv => rhs; rw [← List.map_id c.inn]
                                          exact List.map_congr_left h
  rw [this]
theorem relA_id (g : Lab → Lab) (hg : ∀ l, g l = l) (a : Arr) : relA g a = a := by
  induction a using Arr.ind with
  | h s sh cs IH =>
    rw [relA_eq, hg]
    have : cs.map (relC g) = cs := by
      conv => rhs; rw [← List.map_id cs]
      exact List.map_congr_left (fun c hc => relC_id_of g hg c (IH c hc))
    show Arr.mk s sh (cs.map (relC g)) = _
    rw [this]
theorem relA_sml {g : Lab → Lab} : ∀ {d : Nat} {a : Arr}, Sml d a → Sml d (relA g a)
  | 0, _, h => h.elim
  | d + 1, a, ⟨h1, h2, h3, h4⟩ => by
    rw [relA_eq]
    refine ⟨h1, by simpa using h2, h3, fun c hc => ?_⟩
    obtain ⟨c', hc', rfl⟩ := List.mem_map.1 hc
    obtain ⟨g1, g2, g3, g4⟩ := h4 c' hc'
    rw [relC_eq]
    refine ⟨g1, g2, by simpa using g3, fun x hx => ?_⟩
    obtain ⟨y, hy, rfl⟩ := List.mem_map.1 hx
    exact relA_sml (g4 y hy)
theorem relC_sml {g : Lab → Lab} {d : Nat} {c : Cell} (h : SmlC d c) : SmlC d (relC g c) := by
  rw [relC_eq]
  refine ⟨h.1, h.2.1, by simpa using h.2.2.1, fun x hx => ?_⟩
  obtain ⟨y, hy, rfl⟩ := List.mem_map.1 hx
  exact relA_sml (h.2.2.2 y hy)
def cvr (l : Lab) (er : Bool) (x : Lab) : Lab := if er then l else x ||| l
def eraA (a : Arr) : Arr := relA (fun _ => 0) a
noncomputable def matA (a b : Arr) : Bool := eqA (eraA a) (eraA b)
end Go.Proofs.Ytdkanalnpbllcaa
set_option maxRecDepth 100000
namespace Go.Proofs.Ytdkanalnpbllcaa

/-- A loop that asks whether two lists are the same, as they are seen. -/
theorem same_loopF {α β : Type} {P : Program} {md : Nat → FMode} (φ : α → β) (a b : List α) (e : α → α → Bool) (he : ∀ x ∈ a, ∀ y, e x y = true ↔ φ x = φ y) (hlen : a.length = b.length) (r : Bool) (hr : r = true ↔ a.map φ = b.map φ) (L : Nat → Nat → Tree)
    (hend : ∀ m, ∀ Q : List D → Prop, Q [.bool true] → (L (m + 1) a.length).wp P md Q)
    (hstep : ∀ m k x y, ∀ Q : List D → Prop, a[k]? = some x → b[k]? = some y → (e x y = false → Q [.bool false]) → (e x y = true → (L m (k + 1)).wp P md Q) → (L (m + 1) k).wp P md Q) (N : Nat) (hN : a.length < N) : (L N 0).wp P md (fun zs => zs = [.bool r]) := by
  have key := loop_up (P := P) (md := md) a.length (fun m k (_ : Unit) => L m k) (fun _ _ => [.bool r]) (fun k _ => (a.take k).map φ = (b.take k).map φ)
    (fun m s h => by
      refine hend m _ ?_
      rw [List.take_of_length_le (Nat.le_refl _), List.take_of_length_le (by omega)] at h
      rw [hr.2 h])
    (fun m k s hk h ih => by
      have ha : a[k]? = some a[k] := List.getElem?_eq_getElem _
      have hb : b[k]? = some (b[k]'(by omega)) := List.getElem?_eq_getElem _
      refine hstep m k _ _ _ ha hb (fun hf => ?_) (fun ht => ih () ?_)
      · have : r = false := by
          cases hrr : r with
          | false => rfl
          | true =>
            have h2 := hr.1 hrr
            have h3 : (a.map φ)[k]? = (b.map φ)[k]? := by rw [h2]
            rw [List.getElem?_map, List.getElem?_map, ha, hb] at h3
            have h4 : φ a[k] = φ b[k] := by simpa using h3
            rw [(he a[k] (List.getElem_mem _) _).2 h4] at hf; cases hf
        rw [this]
      · have : φ a[k] = φ b[k] := (he a[k] (List.getElem_mem _) _).1 ht
        rw [List.take_succ_eq_append_getElem hk, List.take_succ_eq_append_getElem (by omega), List.map_append, List.map_append, h]
        simp [this])
    N 0 () (by omega) (by omega) (by simp)
  exact key
/-- As an array is seen: with labels, or without. -/
def gl (lb : Bool) (l : Lab) : Lab := if lb then l else 0
noncomputable def eqL (lb : Bool) (a b : Arr) : Bool := eqA (relA (gl lb) a) (relA (gl lb) b)
noncomputable def eqLC (lb : Bool) (a b : Cell) : Bool := eqC (relC (gl lb) a) (relC (gl lb) b)
theorem eqL_true (a b : Arr) : eqL true a b = eqA a b := by unfold eqL; rw [relA_id (gl true) (fun _ => rfl) a, relA_id (gl true) (fun _ => rfl) b]
noncomputable def pd (p : Prop) : Bool := @decide p (Classical.propDecidable _)
theorem pd_iff {p : Prop} : pd p = true ↔ p := @decide_eq_true_iff _ (Classical.propDecidable _)
theorem pd_not {p : Prop} (h : ¬ p) : pd p = false := @decide_eq_false _ (Classical.propDecidable _) h
theorem ite_max {o x : Nat} {z : Int} (h : z = (x : Int)) : (if (o : Int) < z then z else (o : Int)) = ((max o x : Nat) : Int) := by subst h; split <;> omega
theorem eqL_false (a b : Arr) : eqL false a b = matA a b := rfl
theorem eqL_iff {lb : Bool} {a b : Arr} : eqL lb a b = true ↔ relA (gl lb) a = relA (gl lb) b := eqA_iff
theorem eqLC_iff {lb : Bool} {a b : Cell} : eqLC lb a b = true ↔ relC (gl lb) a = relC (gl lb) b := eqC_iff
theorem eqLC_iff' {lb : Bool} {a b : Cell} : eqLC lb a b = true ↔ (gl lb a.l = gl lb b.l ∧ a.kind = b.kind ∧ a.c = b.c ∧ a.n = b.n ∧ a.inn.map (relA (gl lb)) = b.inn.map (relA (gl lb))) := by rw [eqLC_iff, relC_eq, relC_eq, cell_eq]
theorem eqL_iff' {lb : Bool} {a b : Arr} : eqL lb a b = true ↔ (gl lb a.s = gl lb b.s ∧ a.shape = b.shape ∧ a.cells.map (relC (gl lb)) = b.cells.map (relC (gl lb))) := by rw [eqL_iff, relA_eq, relA_eq, arr_eq]; simp
theorem bool_false {b : Bool} (h : ¬ b = true) : b = false := by cases b with | false => rfl | true => exact absurd rfl h
theorem array_equal_all (lb : Bool) : ∀ (d : Nat) (a b : Arr), Sml d a → Sp 94 [dA a, dA b, .bool lb] [.bool (eqL lb a b)]
  | 0, _, _, h => h.elim
  | d + 1, a, b, h => by
    have hcell : ∀ (x y : Cell), SmlC d x → Spec Try.prog md 125 [.ref 4] [dC x, dC y, D.ref (.bool lb)] [.bool (eqLC lb x y)] := fun x y hx => by
      have hlx := hx.2.2.1
      have hinn : Sp 126 [.sl (x.inn.map dA), .sl (y.inn.map dA), D.fn 127 [.ref 4] [D.ref (.bool lb)]] [.bool (pd (x.inn.map (relA (gl lb)) = y.inn.map (relA (gl lb))))] := by
        refine sound_ (x.inn.length + 1) (slices_EqualFunc_api_Array_api_Array_api_Array_api_Array_tree_array_equal_1_1 _ _ _ _) ?_
        simp only [dA_0, dA_1, dA_2, dC_0, dC_1, dC_2, dC_3, dC_4, dN_0, dN_1, dN_2, els_sl, els_dI, els_dL, List.length_map, Int.toNat_natCast, toInt_int, toInt_dB, toBool_bool, getD_c0, getD_c1, int_beq, int_bne, not_dec, dInt_dB, Int.toNat_zero]
        refine wp_decs (fun h => wp_ret ?_) (fun h => ?_)
        · rw [pd_not]
          intro hh; have := congrArg List.length hh; simp at this; omega
        · refine same_loopF (P := Try.prog) (md := md) (relA (gl lb)) x.inn y.inn (eqL lb) (fun p _ q => eqL_iff) (by omega) _ pd_iff (fun m k => slices_EqualFunc_api_Array_api_Array_api_Array_api_Array_l4 (x.inn.length + 1) m (.sl (y.inn.map dA)) (D.fn 127 [.ref 4] [D.ref (.bool lb)]) (.sl (x.inn.map dA)) (x.inn.length : Int) (k : Int)) ?_ ?_ (x.inn.length + 1) (by omega)
          · intro m Q hQ
            simp only [slices_EqualFunc_api_Array_api_Array_api_Array_api_Array_l4_succ_array_equal_1_1, dA_0, dA_1, dA_2, dC_0, dC_1, dC_2, dC_3, dC_4, dN_0, dN_1, dN_2, els_sl, els_dI, els_dL, List.length_map, Int.toNat_natCast, toInt_int, toInt_dB, toBool_bool, getD_c0, getD_c1, int_beq, int_bne, not_dec, dInt_dB, Int.toNat_zero]
            exact wp_ndec (by omega) (wp_ret hQ)
          · intro m k p q Q hp hq hF hT
            have hk : k < x.inn.length := (List.getElem?_eq_some_iff.1 hp).1
            have hk' : k < y.inn.length := (List.getElem?_eq_some_iff.1 hq).1
            simp only [slices_EqualFunc_api_Array_api_Array_api_Array_api_Array_l4_succ_array_equal_1_1, dA_0, dA_1, dA_2, dC_0, dC_1, dC_2, dC_3, dC_4, dN_0, dN_1, dN_2, els_sl, els_dI, els_dL, List.length_map, Int.toNat_natCast, toInt_int, toInt_dB, toBool_bool, getD_c0, getD_c1, int_beq, int_bne, not_dec, dInt_dB, Int.toNat_zero, getD_map hp, getD_map hq, wrap_succ (show k < 9223372036854775807 by omega), fnId_fn, fnCts_fn, fnDs_fn, List.cons_append, List.nil_append]
            repeat (refine wp_dec (by omega) ?_)
            refine wp_call (ys := [.bool (eqL lb p q)]) (sound_ 0 (array_equal_1_1_tree _ _ _ _) (wp_call (array_equal_all lb d p q (hx.2.2.2 p (List.mem_of_getElem? hp))) (wp_ret rfl))) ?_
            simp only [getD_c0, toBool_bool]
            exact wp_br (fun h => wp_ret (hF (by simpa using h))) (fun h => hT (by simpa using h))
      have fin : ∀ (hl : gl lb x.l = gl lb y.l), Tw (.br (decide (¬ x.kind = y.kind)) (.ret [D.bool false]) (.br (decide (¬ x.c = y.c)) (.ret [D.bool false]) (.call 85 [] [dN x.n, dN y.n] fun yy1 => .br (!((yy1.getD 0 D.nil).toBool)) (.ret [D.bool false]) (.call 126 [] [.sl (x.inn.map dA), .sl (y.inn.map dA), D.fn 127 [.ref 4] [D.ref (.bool lb)]] fun yy2 => .ret [D.bool ((yy2.getD 0 D.nil).toBool)])))) [.bool (eqLC lb x y)] := fun hl => by
        refine wp_decs (fun h => wp_ret ?_) (fun h2 => wp_decs (fun h => wp_ret ?_) (fun h3 => wp_call (ratio_Same_sp x.n y.n hx.fits.1 hx.fits.2.1) ?_))
        · rw [bool_false (fun hh => h (eqLC_iff'.1 hh).2.1)]
        · rw [bool_false (fun hh => h (eqLC_iff'.1 hh).2.2.1)]
        simp only [getD_c0, toBool_bool, not_dec]
        refine wp_decs (fun h => wp_ret ?_) (fun h4 => wp_call hinn (wp_ret ?_))
        · rw [bool_false (fun hh => h (eqLC_iff'.1 hh).2.2.2.1)]
        · simp only [getD_c0, toBool_bool]
          congr 2
          rw [Bool.eq_iff_iff, eqLC_iff', pd_iff]
          exact ⟨fun hh => ⟨hl, Classical.not_not.1 h2, Classical.not_not.1 h3, Classical.not_not.1 h4, hh⟩, fun hh => hh.2.2.2.2⟩
      refine sound_ 0 (array_equal_1_tree _ _ _ _) ?_
      simp only [dA_0, dA_1, dA_2, dC_0, dC_1, dC_2, dC_3, dC_4, dN_0, dN_1, dN_2, els_sl, els_dI, els_dL, List.length_map, Int.toNat_natCast, toInt_int, toInt_dB, toBool_bool, getD_c0, getD_c1, int_beq, int_bne, not_dec, dInt_dB, Int.toNat_zero, unref_ref]
      refine wp_br (fun hb => wp_decs (fun h => wp_ret ?_) (fun h1 => fin ?_)) (fun hb => fin ?_)
      · have hf : eqLC lb x y = false := bool_false (fun hh => h (by
          have := (eqLC_iff'.1 hh).1
          simp only [gl, hb, if_true] at this
          rw [this]))
        rw [hf]
      · simp only [gl, hb, if_true]; exact BitVec.eq_of_toNat_eq (by omega)
      · simp [gl, hb]
    have hcells : Sp 124 [.sl (a.cells.map dC), .sl (b.cells.map dC), D.fn 125 [.ref 4] [D.ref (.bool lb)]] [.bool (pd (a.cells.map (relC (gl lb)) = b.cells.map (relC (gl lb))))] := by
      have hla := h.2.1
      refine sound_ (a.cells.length + 1) (slices_EqualFunc_api_Cell_api_Cell_api_Cell_api_Cell_tree_array_equal_1 _ _ _ _) ?_
      simp only [dA_0, dA_1, dA_2, dC_0, dC_1, dC_2, dC_3, dC_4, dN_0, dN_1, dN_2, els_sl, els_dI, els_dL, List.length_map, Int.toNat_natCast, toInt_int, toInt_dB, toBool_bool, getD_c0, getD_c1, int_beq, int_bne, not_dec, dInt_dB, Int.toNat_zero]
      refine wp_decs (fun h => wp_ret ?_) (fun h' => ?_)
      · rw [pd_not]
        intro hh; have := congrArg List.length hh; simp at this; omega
      · refine same_loopF (P := Try.prog) (md := md) (relC (gl lb)) a.cells b.cells (eqLC lb) (fun p _ q => eqLC_iff) (by omega) _ pd_iff (fun m k => slices_EqualFunc_api_Cell_api_Cell_api_Cell_api_Cell_l4 (a.cells.length + 1) m (.sl (b.cells.map dC)) (D.fn 125 [.ref 4] [D.ref (.bool lb)]) (.sl (a.cells.map dC)) (a.cells.length : Int) (k : Int)) ?_ ?_ (a.cells.length + 1) (by omega)
        · intro m Q hQ
          simp only [slices_EqualFunc_api_Cell_api_Cell_api_Cell_api_Cell_l4_succ_array_equal_1, dA_0, dA_1, dA_2, dC_0, dC_1, dC_2, dC_3, dC_4, dN_0, dN_1, dN_2, els_sl, els_dI, els_dL, List.length_map, Int.toNat_natCast, toInt_int, toInt_dB, toBool_bool, getD_c0, getD_c1, int_beq, int_bne, not_dec, dInt_dB, Int.toNat_zero]
          exact wp_ndec (by omega) (wp_ret hQ)
        · intro m k p q Q hp hq hF hT
          have hk : k < a.cells.length := (List.getElem?_eq_some_iff.1 hp).1
          have hk' : k < b.cells.length := (List.getElem?_eq_some_iff.1 hq).1
          simp only [slices_EqualFunc_api_Cell_api_Cell_api_Cell_api_Cell_l4_succ_array_equal_1, dA_0, dA_1, dA_2, dC_0, dC_1, dC_2, dC_3, dC_4, dN_0, dN_1, dN_2, els_sl, els_dI, els_dL, List.length_map, Int.toNat_natCast, toInt_int, toInt_dB, toBool_bool, getD_c0, getD_c1, int_beq, int_bne, not_dec, dInt_dB, Int.toNat_zero, getD_map hp, getD_map hq, wrap_succ (show k < 9223372036854775807 by omega), fnId_fn, fnCts_fn, fnDs_fn, List.cons_append, List.nil_append]
          repeat (refine wp_dec (by omega) ?_)
          refine wp_call (hcell p q (h.cell p (List.mem_of_getElem? hp))) ?_
          simp only [getD_c0, toBool_bool]
          exact wp_br (fun h => wp_ret (hF (by simpa using h))) (fun h => hT (by simpa using h))
    have fin : ∀ (hl : gl lb a.s = gl lb b.s), Tw (.call 86 [] [dI a.shape, dI b.shape] fun yy1 => .br (!((yy1.getD 0 D.nil).toBool)) (.ret [D.bool false]) (.call 124 [] [.sl (a.cells.map dC), .sl (b.cells.map dC), D.fn 125 [.ref 4] [D.ref (.bool lb)]] fun yy2 => .ret [D.bool ((yy2.getD 0 D.nil).toBool)])) [.bool (eqL lb a b)] := fun hl => by
      refine wp_call (slices_EqualI_sp a.shape b.shape (by have := h.1; omega)) ?_
      simp only [getD_c0, toBool_bool, not_dec]
      refine wp_decs (fun h => wp_ret ?_) (fun h1 => wp_call hcells (wp_ret ?_))
      · rw [bool_false (fun hh => h (eqL_iff'.1 hh).2.1)]
      · simp only [getD_c0, toBool_bool]
        congr 2
        rw [Bool.eq_iff_iff, eqL_iff', pd_iff]
        exact ⟨fun hh => ⟨hl, Classical.not_not.1 h1, hh⟩, fun hh => hh.2.2⟩
    refine sound_ 0 (array_equal_tree _ _ _ _) ?_
    simp only [dA_0, dA_1, dA_2, dC_0, dC_1, dC_2, dC_3, dC_4, dN_0, dN_1, dN_2, els_sl, els_dI, els_dL, List.length_map, Int.toNat_natCast, toInt_int, toInt_dB, toBool_bool, getD_c0, getD_c1, int_beq, int_bne, not_dec, dInt_dB, Int.toNat_zero]
    refine wp_br (fun hb => wp_decs (fun h => wp_ret ?_) (fun h1 => fin ?_)) (fun hb => fin ?_)
    · have hf : eqL lb a b = false := bool_false (fun hh => h (by
        have := (eqL_iff'.1 hh).1
        simp only [gl, hb, if_true] at this
        rw [this]))
      rw [hf]
    · simp only [gl, hb, if_true]; exact BitVec.eq_of_toNat_eq (by omega)
    · simp [gl, hb]
theorem array_Match_sp {d : Nat} (a b : Arr) (h : Sml d a) : Sp 55 [dA a, dA b] [.bool (matA a b)] := sound_ 0 (array_Match_tree _ _ _) (wp_call (array_equal_all false d a b h) (wp_ret rfl))
mutual
def depA : Arr → Nat
  | .mk s sh cs => if simpleA (.mk s sh cs) then 0 else depCs cs + 1
def depCs : List (CellF Arr) → Nat
  | [] => 0
  | c :: cs => max (depC c) (depCs cs)
def depC : CellF Arr → Nat
  | ⟨_, _, _, _, inn⟩ => depAs inn
def depAs : List Arr → Nat
  | [] => 0
  | a :: as_ => max (depA a) (depAs as_)
end
theorem depA_eq (a : Arr) : depA a = if simpleA a then 0 else depCs a.cells + 1 := by cases a; rw [depA]; rfl
theorem depC_eq (c : Cell) : depC c = depAs c.inn := by cases c; rw [depC]
theorem depCs_le {k : Nat} : ∀ {cs : List Cell}, (∀ c ∈ cs, depC c ≤ k) → depCs cs ≤ k
  | [], _ => by rw [depCs]; omega
  | c :: cs, h => by
    have h1 := h c (by simp)
    have h2 := depCs_le (fun x hx => h x (List.mem_cons_of_mem _ hx))
    rw [depCs]; omega
theorem depAs_le {k : Nat} : ∀ {as_ : List Arr}, (∀ a ∈ as_, depA a ≤ k) → depAs as_ ≤ k
  | [], _ => by rw [depAs]; omega
  | a :: as_, h => by
    have h1 := h a (by simp)
    have h2 := depAs_le (fun x hx => h x (List.mem_cons_of_mem _ hx))
    rw [depAs]; omega
theorem depC_mem : ∀ {cs : List Cell} {c : Cell}, c ∈ cs → depC c ≤ depCs cs
  | d :: cs, c, h => by
    rw [depCs]
    rcases List.mem_cons.1 h with rfl | h
    · omega
    · have := depC_mem h; omega
theorem depA_mem : ∀ {as_ : List Arr} {a : Arr}, a ∈ as_ → depA a ≤ depAs as_
  | d :: as_, a, h => by
    rw [depAs]
    rcases List.mem_cons.1 h with rfl | h
    · omega
    · have := depA_mem h; omega
theorem depA_sml : ∀ {d : Nat} {a : Arr}, Sml d a → depA a ≤ d
  | 0, _, h => h.elim
  | d + 1, a, h => by
    rw [depA_eq]
    have : depCs a.cells ≤ d := depCs_le (fun c hc => by rw [depC_eq]; exact depAs_le (fun x hx => depA_sml ((h.cell c hc).2.2.2 x hx)))
    split <;> omega
theorem array_Depth_sp : ∀ (d : Nat) (a : Arr), d ≤ 10000000 → Sml d a → Sp 17 [dA a] [.int (depA a : Int)]
  | 0, _, _, h => h.elim
  | d + 1, a, hd, h => by
    have hl := h.2.1
    refine sound_ 1048577 (array_Depth_tree _ _) (wp_call (array_Simple_sp a) ?_)
    rw [depA_eq]
    simp only [dA_0, dA_1, dA_2, dC_0, dC_1, dC_2, dC_3, dC_4, dN_0, dN_1, dN_2, els_sl, els_dI, els_dL, List.length_map, Int.toNat_natCast, toInt_int, toInt_dB, toBool_bool, getD_c0, getD_c1, int_beq, int_bne, not_dec, dInt_dB, Int.toNat_zero]
    refine wp_br (fun hs => wp_ret (by rw [if_pos hs]; rfl)) (fun hs => ?_)
    rw [if_neg (by simp [hs])]
    have hb : depCs a.cells ≤ d := depCs_le (fun c hc => by rw [depC_eq]; exact depAs_le (fun x hx => depA_sml ((h.cell c hc).2.2.2 x hx)))
    have key := loop_list (P := Try.prog) (md := md) a.cells (fun m k (o : Nat) => array_Depth_l5 1048577 m (o : Int) (.sl (a.cells.map dC)) (a.cells.length : Int) (k : Int)) (fun rest o => [.int ((max o (depCs rest) + 1 : Nat) : Int)]) (fun rest o => max o (depCs rest) ≤ d)
      (fun m k o hk hI => by
        simp only [array_Depth_l5_succ, dA_0, dA_1, dA_2, dC_0, dC_1, dC_2, dC_3, dC_4, dN_0, dN_1, dN_2, els_sl, els_dI, els_dL, List.length_map, Int.toNat_natCast, toInt_int, toInt_dB, toBool_bool, getD_c0, getD_c1, int_beq, int_bne, not_dec, dInt_dB, Int.toNat_zero]
        refine wp_ndec (by omega) (wp_ret ?_)
        rw [depCs] at hI ⊢
        rw [wrap64 (by omega) (by omega), show max o 0 = o by omega]; rfl)
      (fun m k o c rest hdr hI ih => by
        obtain ⟨h1, h2, h3⟩ := drop_cons hdr
        have hc := h.cell c (List.mem_of_getElem? h2)
        have hlc := hc.2.2.1
        simp only [array_Depth_l5_succ, dA_0, dA_1, dA_2, dC_0, dC_1, dC_2, dC_3, dC_4, dN_0, dN_1, dN_2, els_sl, els_dI, els_dL, List.length_map, Int.toNat_natCast, toInt_int, toInt_dB, toBool_bool, getD_c0, getD_c1, int_beq, int_bne, not_dec, dInt_dB, Int.toNat_zero, getD_map h2]
        repeat (refine wp_dec (by omega) ?_)
        rw [depCs, depC_eq] at hI ⊢
        have key := loop_list (P := Try.prog) (md := md) c.inn (fun m' j (o : Nat) => array_Depth_l8 1048577 m m' (o : Int) (.sl (a.cells.map dC)) (a.cells.length : Int) (k : Int) (.sl (c.inn.map dA)) (c.inn.length : Int) (j : Int)) (fun rest' o => [.int ((max o (max (depAs rest') (depCs rest)) + 1 : Nat) : Int)]) (fun rest' o => max o (max (depAs rest') (depCs rest)) ≤ d)
          (fun m' j o hj hI' => by
            simp only [array_Depth_l8_succ, dA_0, dA_1, dA_2, dC_0, dC_1, dC_2, dC_3, dC_4, dN_0, dN_1, dN_2, els_sl, els_dI, els_dL, List.length_map, Int.toNat_natCast, toInt_int, toInt_dB, toBool_bool, getD_c0, getD_c1, int_beq, int_bne, not_dec, dInt_dB, Int.toNat_zero, wrap_succ (show k < 9223372036854775807 by omega)]
            rw [depAs] at hI' ⊢
            refine wp_ndec (by omega) ?_
            have := ih o (by omega)
            rw [show max o (max 0 (depCs rest)) = max o (depCs rest) by omega]
            exact this)
          (fun m' j o x rest' hdr' hI' ih' => by
            obtain ⟨g1, g2, g3⟩ := drop_cons hdr'
            simp only [array_Depth_l8_succ, dA_0, dA_1, dA_2, dC_0, dC_1, dC_2, dC_3, dC_4, dN_0, dN_1, dN_2, els_sl, els_dI, els_dL, List.length_map, Int.toNat_natCast, toInt_int, toInt_dB, toBool_bool, getD_c0, getD_c1, int_beq, int_bne, not_dec, dInt_dB, Int.toNat_zero, getD_map g2, wrap_succ (show j < 9223372036854775807 by omega)]
            repeat (refine wp_dec (by omega) ?_)
            refine wp_call (array_Depth_sp d x (by omega) (hc.2.2.2 x (List.mem_of_getElem? g2))) ?_
            rw [depAs] at hI' ⊢
            have := ih' (max o (depA x)) (by omega)
            rw [show max o (max (max (depA x) (depAs rest')) (depCs rest)) = max (max o (depA x)) (max (depAs rest') (depCs rest)) by omega]
            rw [ite_max (x := depA x) (z := ([D.int (depA x : Int)].getD 0 D.nil).toInt) rfl]
            exact this)
          1048577 0 o (by omega) (by omega) hI
        exact key)
      1048577 0 0 (by omega) (by omega) (by simpa using hb)
    refine Tree.wp_mono key (fun ys hy => hy.trans ?_)
    simp
theorem ref08_Depth_sp : ∀ (d : Nat) (a : Arr), d ≤ 10000000 → Sml d a → Sp 18 [dA a] [.int (depA a : Int)]
  | 0, _, _, h => h.elim
  | d + 1, a, hd, h => by
    have hl := h.2.1
    refine sound_ 1048577 (ref08_Depth_tree _ _) (wp_call (ref08_Simple_sp a) ?_)
    rw [depA_eq]
    simp only [dA_0, dA_1, dA_2, dC_0, dC_1, dC_2, dC_3, dC_4, dN_0, dN_1, dN_2, els_sl, els_dI, els_dL, List.length_map, Int.toNat_natCast, toInt_int, toInt_dB, toBool_bool, getD_c0, getD_c1, int_beq, int_bne, not_dec, dInt_dB, Int.toNat_zero]
    refine wp_br (fun hs => wp_ret (by rw [if_pos hs]; rfl)) (fun hs => ?_)
    rw [if_neg (by simp [hs])]
    have hb : depCs a.cells ≤ d := depCs_le (fun c hc => by rw [depC_eq]; exact depAs_le (fun x hx => depA_sml ((h.cell c hc).2.2.2 x hx)))
    have key := loop_list (P := Try.prog) (md := md) a.cells (fun m k (o : Nat) => ref08_Depth_l5 1048577 m ((o + 1 : Nat) : Int) (k : Int) (dA a)) (fun rest o => [.int ((max o (depCs rest) + 1 : Nat) : Int)]) (fun rest o => max o (depCs rest) ≤ d)
      (fun m k o hk hI => by
        simp only [ref08_Depth_l5_succ, dA_0, dA_1, dA_2, dC_0, dC_1, dC_2, dC_3, dC_4, dN_0, dN_1, dN_2, els_sl, els_dI, els_dL, List.length_map, Int.toNat_natCast, toInt_int, toInt_dB, toBool_bool, getD_c0, getD_c1, int_beq, int_bne, not_dec, dInt_dB, Int.toNat_zero]
        refine wp_ndec (by omega) (wp_ret ?_)
        rw [depCs, show max o 0 = o by omega])
      (fun m k o c rest hdr hI ih => by
        obtain ⟨h1, h2, h3⟩ := drop_cons hdr
        have hc := h.cell c (List.mem_of_getElem? h2)
        have hlc := hc.2.2.1
        simp only [ref08_Depth_l5_succ, dA_0, dA_1, dA_2, dC_0, dC_1, dC_2, dC_3, dC_4, dN_0, dN_1, dN_2, els_sl, els_dI, els_dL, List.length_map, Int.toNat_natCast, toInt_int, toInt_dB, toBool_bool, getD_c0, getD_c1, int_beq, int_bne, not_dec, dInt_dB, Int.toNat_zero]
        repeat (refine wp_dec (by omega) ?_)
        rw [depCs, depC_eq] at hI ⊢
        have key := loop_list (P := Try.prog) (md := md) c.inn (fun m' j (o : Nat) => ref08_Depth_l8 1048577 m m' ((o + 1 : Nat) : Int) (k : Int) (j : Int) (dA a)) (fun rest' o => [.int ((max o (max (depAs rest') (depCs rest)) + 1 : Nat) : Int)]) (fun rest' o => max o (max (depAs rest') (depCs rest)) ≤ d)
          (fun m' j o hj hI' => by
            simp only [ref08_Depth_l8_succ, dA_0, dA_1, dA_2, dC_0, dC_1, dC_2, dC_3, dC_4, dN_0, dN_1, dN_2, els_sl, els_dI, els_dL, List.length_map, Int.toNat_natCast, toInt_int, toInt_dB, toBool_bool, getD_c0, getD_c1, int_beq, int_bne, not_dec, dInt_dB, Int.toNat_zero, getD_map h2, wrap_succ (show k < 9223372036854775807 by omega)]
            rw [depAs] at hI' ⊢
            refine wp_dec (by omega) (wp_dec (by omega) (wp_ndec (by omega) ?_))
            have := ih o (by omega)
            rw [show max o (max 0 (depCs rest)) = max o (depCs rest) by omega]
            exact this)
          (fun m' j o x rest' hdr' hI' ih' => by
            obtain ⟨g1, g2, g3⟩ := drop_cons hdr'
            simp only [ref08_Depth_l8_succ, dA_0, dA_1, dA_2, dC_0, dC_1, dC_2, dC_3, dC_4, dN_0, dN_1, dN_2, els_sl, els_dI, els_dL, List.length_map, Int.toNat_natCast, toInt_int, toInt_dB, toBool_bool, getD_c0, getD_c1, int_beq, int_bne, not_dec, dInt_dB, Int.toNat_zero, getD_map h2, getD_map g2, wrap_succ (show j < 9223372036854775807 by omega)]
            repeat (refine wp_dec (by omega) ?_)
            refine wp_call (ref08_Depth_sp d x (by omega) (hc.2.2.2 x (List.mem_of_getElem? g2))) ?_
            have hx := depA_sml (hc.2.2.2 x (List.mem_of_getElem? g2))
            simp only [getD_c0, toInt_int, wrap_succ (show depA x < 9223372036854775807 by omega)]
            rw [depAs] at hI' ⊢
            have := ih' (max o (depA x)) (by omega)
            rw [show max o (max (max (depA x) (depAs rest')) (depCs rest)) = max (max o (depA x)) (max (depAs rest') (depCs rest)) by omega]
            refine wp_decs (fun hlt => ?_) (fun hlt => ?_)
            · rw [show max o (depA x) = depA x by omega] at this ⊢; exact this
            · rw [show max o (depA x) = o by omega] at this ⊢; exact this)
          1048577 0 o (by omega) (by omega) hI
        exact key)
      1048577 0 0 (by omega) (by omega) (by simpa using hb)
    refine Tree.wp_mono key (fun ys hy => hy.trans ?_)
    simp
end Go.Proofs.Ytdkanalnpbllcaa
set_option maxRecDepth 100000
namespace Go.Proofs.Ytdkanalnpbllcaa

theorem wokL_map {α : Type} {f : α → D} {l : List α} (h : D.wokL (l.map f)) : ∀ x ∈ l, (f x).wok := fun x hx => wokL_iff.1 h _ (List.mem_map.2 ⟨x, hx, rfl⟩)
theorem wok_arr {a : Arr} (h : (dA a).wok) : a.shape.length ≤ 140737488351232 ∧ a.cells.length ≤ 140737488351232 ∧ ∀ c ∈ a.cells, (dC c).wok := by
  rw [dA_eq] at h
  simp only [D.wok, D.wokL, dI, List.length_map] at h
  exact ⟨h.2.1.1, h.2.2.1.1, wokL_map h.2.2.1.2⟩
theorem wok_cell {c : Cell} (h : (dC c).wok) : c.n.top.length ≤ 140737488351232 ∧ c.n.bot.length ≤ 140737488351232 ∧ c.inn.length ≤ 140737488351232 ∧ ∀ x ∈ c.inn, (dA x).wok := by
  rw [dC_eq] at h
  simp only [D.wok, D.wokL, dN, dL, List.length_map] at h
  exact ⟨h.2.2.1.2.1.1, h.2.2.1.2.2.1.1, h.2.2.2.2.1.1, wokL_map h.2.2.2.2.1.2⟩
theorem leftCs_pos' {r : Arr → Int → Int} : ∀ {cs : List Cell} {n : Int}, 0 ≤ leftCs r cs n → 0 ≤ n
  | [], n, h => h
  | c :: cs, n, h => by
    simp only [leftCs] at h
    split at h
    · assumption
    · exact h
theorem leftAs_pos' {r : Arr → Int → Int} : ∀ {as_ : List Arr} {n : Int}, 0 ≤ leftAs r as_ n → 0 ≤ n
  | [], n, h => h
  | a :: as_, n, h => by
    simp only [leftAs] at h
    split at h
    · assumption
    · exact h
theorem leftAs_sml {r : Arr → Int → Int} {e : Nat} : ∀ {as_ : List Arr} {n : Int}, (∀ a ∈ as_, ∀ m, 0 ≤ m → m ≤ 4000 → 0 ≤ r a m → r a m ≤ m - 1 ∧ Sml e a) → n ≤ 4000 → 0 ≤ leftAs r as_ n → leftAs r as_ n + (as_.length : Int) ≤ n ∧ ∀ a ∈ as_, Sml e a
  | [], n, _, _, _ => by simp [leftAs]
  | a :: as_, n, hr, hn, h => by
    have h0 := leftAs_pos' h
    simp only [leftAs] at h ⊢
    rw [if_pos h0] at h ⊢
    have h1 := leftAs_pos' h
    have h2 := hr a (by simp) n h0 hn h1
    have h3 := leftAs_sml (fun x hx => hr x (List.mem_cons_of_mem _ hx)) (by omega) h
    refine ⟨by simp only [List.length_cons]; omega, fun x hx => ?_⟩
    rcases List.mem_cons.1 hx with rfl | hx
    · exact h2.2
    · exact h3.2 x hx
theorem leftCs_sml {r : Arr → Int → Int} {e : Nat} : ∀ {cs : List Cell} {n : Int}, (∀ c ∈ cs, (dC c).wok) → (∀ c ∈ cs, ∀ a ∈ c.inn, ∀ m, 0 ≤ m → m ≤ 4000 → 0 ≤ r a m → r a m ≤ m - 1 ∧ Sml e a) → n ≤ 4000 → 0 ≤ leftCs r cs n → leftCs r cs n + (cs.length : Int) ≤ n ∧ ∀ c ∈ cs, SmlC e c
  | [], n, _, _, _, _ => by simp [leftCs]
  | c :: cs, n, hs, hr, hn, h => by
    have h0 := leftCs_pos' h
    obtain ⟨w1, w2, w3, _⟩ := wok_cell (hs c (by simp))
    have e1 : w64 (w64 (w64 (n - 1) - (c.n.top.length : Int)) - (c.n.bot.length : Int)) = n - 1 - (c.n.top.length : Int) - (c.n.bot.length : Int) := by
      unfold w64
      rw [wrap64 (x := n - 1) (by omega) (by omega), wrap64 (x := n - 1 - (c.n.top.length : Int)) (by omega) (by omega), wrap64 (by omega) (by omega)]
    simp only [leftCs] at h ⊢
    rw [if_pos h0, e1] at h ⊢
    have h1 := leftCs_pos' h
    have h1' := leftAs_pos' h1
    have h2 := leftAs_sml (hr c (by simp)) (by omega) h1
    have h3 := leftCs_sml (fun x hx => hs x (List.mem_cons_of_mem _ hx)) (fun x hx => hr x (List.mem_cons_of_mem _ hx)) (by omega) h
    refine ⟨by simp only [List.length_cons]; omega, fun x hx => ?_⟩
    rcases List.mem_cons.1 hx with rfl | hx
    · exact ⟨by omega, by omega, by omega, h2.2⟩
    · exact h3.2 x hx
theorem leftA_sml : ∀ {e : Nat} {a : Arr} {n : Int}, WFits a → 0 ≤ n → n ≤ 4000 → 0 ≤ leftA e a n → leftA e a n ≤ n - 1 ∧ Sml e a
  | 0, _, _, _, _, _, h => by simp [leftA] at h
  | e + 1, a, n, hf, h0, hn, h => by
    obtain ⟨w1, w2, w3⟩ := wok_arr hf.2
    rw [leftA] at h ⊢
    have e1 : w64 (w64 (n - 1) - (a.shape.length : Int)) = n - 1 - (a.shape.length : Int) := by
      unfold w64
      rw [wrap64 (x := n - 1) (by omega) (by omega), wrap64 (by omega) (by omega)]
    rw [e1] at h ⊢
    have hp := leftCs_pos' h
    have key : leftCs (leftA e) a.cells (n - 1 - (a.shape.length : Int)) + (a.cells.length : Int) ≤ n - 1 - (a.shape.length : Int) ∧ ∀ c ∈ a.cells, SmlC e c := leftCs_sml w3 (fun c hc x hx m hm0 hm h0 => leftA_sml ⟨(hf.1.cell c hc).2.2.2 x hx, (wok_cell (w3 c hc)).2.2.2 x hx⟩ hm0 hm h0) (by omega) h
    exact ⟨by omega, Sml.of (by omega) (by omega) hf.1.shR key.2⟩
theorem few_sml {a : Arr} (h : WFits a) (hf : fewA a = true) : Sml 12 a := (leftA_sml h (by omega) (by omega) (of_decide_eq_true hf)).2
mutual
def sizA : Arr → Int
  | .mk _ _ cs => sizCs (cs.length : Int) cs
def sizCs : Int → List (CellF Arr) → Int
  | n, [] => n
  | n, c :: cs => sizCs (sizC n c) cs
def sizC : Int → CellF Arr → Int
  | n, ⟨_, _, _, _, inn⟩ => sizAs n inn
def sizAs : Int → List Arr → Int
  | n, [] => n
  | n, a :: as_ => sizAs (w64 (n + sizA a)) as_
end
theorem sizA_eq (a : Arr) : sizA a = sizCs (a.cells.length : Int) a.cells := by cases a; rw [sizA]; rfl
theorem sizC_eq (n : Int) (c : Cell) : sizC n c = sizAs n c.inn := by cases c; rw [sizC]
theorem array_Size_sp (a : Arr) : Fits a → Sp 15 [dA a] [.int (sizA a)] := by
  induction a using Arr.ind with
  | h s sh cs IH =>
    intro ha
    have hl := ha.len
    have IH' : ∀ c ∈ (Arr.mk s sh cs).cells, ∀ x ∈ c.inn, Fits x → Sp 15 [dA x] [.int (sizA x)] := IH
    generalize Arr.mk s sh cs = a at *
    obtain ⟨N, hN⟩ := bigFuel
    refine sound_ N (array_Size_tree _ _) ?_
    rw [sizA_eq]
    simp only [dA_0, dA_1, dA_2, dC_0, dC_1, dC_2, dC_3, dC_4, dN_0, dN_1, dN_2, els_sl, els_dI, els_dL, List.length_map, Int.toNat_natCast, toInt_int, toInt_dB, toBool_bool, getD_c0, getD_c1, int_beq, int_bne, not_dec, dInt_dB, Int.toNat_zero]
    have key := loop_list (P := Try.prog) (md := md) a.cells (fun m k (n : Int) => array_Size_l3 N m n (.sl (a.cells.map dC)) (a.cells.length : Int) (k : Int)) (fun rest n => [.int (sizCs n rest)]) (fun _ _ => True)
      (fun m k n hk _ => by
        simp only [array_Size_l3_succ, dA_0, dA_1, dA_2, dC_0, dC_1, dC_2, dC_3, dC_4, dN_0, dN_1, dN_2, els_sl, els_dI, els_dL, List.length_map, Int.toNat_natCast, toInt_int, toInt_dB, toBool_bool, getD_c0, getD_c1, int_beq, int_bne, not_dec, dInt_dB, Int.toNat_zero]
        exact wp_ndec (by omega) (wp_ret (by rw [sizCs])))
      (fun m k n c rest hdr _ ih => by
        obtain ⟨h1, h2, h3⟩ := drop_cons hdr
        have hc := ha.cell c (List.mem_of_getElem? h2)
        have hlc := hc.2.2.1
        simp only [array_Size_l3_succ, dA_0, dA_1, dA_2, dC_0, dC_1, dC_2, dC_3, dC_4, dN_0, dN_1, dN_2, els_sl, els_dI, els_dL, List.length_map, Int.toNat_natCast, toInt_int, toInt_dB, toBool_bool, getD_c0, getD_c1, int_beq, int_bne, not_dec, dInt_dB, Int.toNat_zero, getD_map h2]
        repeat (refine wp_dec (by omega) ?_)
        rw [sizCs, sizC_eq]
        have key := loop_list (P := Try.prog) (md := md) c.inn (fun m' j (n : Int) => array_Size_l6 N m m' n (.sl (a.cells.map dC)) (a.cells.length : Int) (k : Int) (.sl (c.inn.map dA)) (c.inn.length : Int) (j : Int)) (fun rest' n => [.int (sizCs (sizAs n rest') rest)]) (fun _ _ => True)
          (fun m' j n hj _ => by
            simp only [array_Size_l6_succ, dA_0, dA_1, dA_2, dC_0, dC_1, dC_2, dC_3, dC_4, dN_0, dN_1, dN_2, els_sl, els_dI, els_dL, List.length_map, Int.toNat_natCast, toInt_int, toInt_dB, toBool_bool, getD_c0, getD_c1, int_beq, int_bne, not_dec, dInt_dB, Int.toNat_zero, wrap_succ (show k < 9223372036854775807 by omega)]
            rw [sizAs]
            exact wp_ndec (by omega) (ih _ trivial))
          (fun m' j n x rest' hdr' _ ih' => by
            obtain ⟨g1, g2, g3⟩ := drop_cons hdr'
            simp only [array_Size_l6_succ, dA_0, dA_1, dA_2, dC_0, dC_1, dC_2, dC_3, dC_4, dN_0, dN_1, dN_2, els_sl, els_dI, els_dL, List.length_map, Int.toNat_natCast, toInt_int, toInt_dB, toBool_bool, getD_c0, getD_c1, int_beq, int_bne, not_dec, dInt_dB, Int.toNat_zero, getD_map g2, wrap_succ (show j < 9223372036854775807 by omega)]
            repeat (refine wp_dec (by omega) ?_)
            rw [sizAs]
            exact wp_call (IH' c (List.mem_of_getElem? h2) x (List.mem_of_getElem? g2) (hc.2.2.2 x (List.mem_of_getElem? g2))) (ih' _ trivial))
          N 0 n (by omega) (by omega) trivial
        exact key)
      N 0 (a.cells.length : Int) (by omega) (by omega) trivial
    exact key
theorem ref08_Size_sp (a : Arr) : Fits a → Sp 16 [dA a] [.int (sizA a)] := by
  induction a using Arr.ind with
  | h s sh cs IH =>
    intro ha
    have hl := ha.len
    have IH' : ∀ c ∈ (Arr.mk s sh cs).cells, ∀ x ∈ c.inn, Fits x → Sp 16 [dA x] [.int (sizA x)] := IH
    generalize Arr.mk s sh cs = a at *
    obtain ⟨N, hN⟩ := bigFuel
    refine sound_ N (ref08_Size_tree _ _) ?_
    rw [sizA_eq]
    simp only [dA_0, dA_1, dA_2, dC_0, dC_1, dC_2, dC_3, dC_4, dN_0, dN_1, dN_2, els_sl, els_dI, els_dL, List.length_map, Int.toNat_natCast, toInt_int, toInt_dB, toBool_bool, getD_c0, getD_c1, int_beq, int_bne, not_dec, dInt_dB, Int.toNat_zero]
    have key := loop_list (P := Try.prog) (md := md) a.cells (fun m k (n : Int) => ref08_Size_l3 N m n (k : Int) (dA a)) (fun rest n => [.int (sizCs n rest)]) (fun _ _ => True)
      (fun m k n hk _ => by
        simp only [ref08_Size_l3_succ, dA_0, dA_1, dA_2, dC_0, dC_1, dC_2, dC_3, dC_4, dN_0, dN_1, dN_2, els_sl, els_dI, els_dL, List.length_map, Int.toNat_natCast, toInt_int, toInt_dB, toBool_bool, getD_c0, getD_c1, int_beq, int_bne, not_dec, dInt_dB, Int.toNat_zero]
        exact wp_ndec (by omega) (wp_ret (by rw [sizCs])))
      (fun m k n c rest hdr _ ih => by
        obtain ⟨h1, h2, h3⟩ := drop_cons hdr
        have hc := ha.cell c (List.mem_of_getElem? h2)
        have hlc := hc.2.2.1
        simp only [ref08_Size_l3_succ, dA_0, dA_1, dA_2, dC_0, dC_1, dC_2, dC_3, dC_4, dN_0, dN_1, dN_2, els_sl, els_dI, els_dL, List.length_map, Int.toNat_natCast, toInt_int, toInt_dB, toBool_bool, getD_c0, getD_c1, int_beq, int_bne, not_dec, dInt_dB, Int.toNat_zero]
        refine wp_dec (by omega) ?_
        rw [sizCs, sizC_eq]
        have key := loop_list (P := Try.prog) (md := md) c.inn (fun m' j (n : Int) => ref08_Size_l6 N m m' n (k : Int) (j : Int) (dA a)) (fun rest' n => [.int (sizCs (sizAs n rest') rest)]) (fun _ _ => True)
          (fun m' j n hj _ => by
            simp only [ref08_Size_l6_succ, dA_0, dA_1, dA_2, dC_0, dC_1, dC_2, dC_3, dC_4, dN_0, dN_1, dN_2, els_sl, els_dI, els_dL, List.length_map, Int.toNat_natCast, toInt_int, toInt_dB, toBool_bool, getD_c0, getD_c1, int_beq, int_bne, not_dec, dInt_dB, Int.toNat_zero, getD_map h2, wrap_succ (show k < 9223372036854775807 by omega)]
            rw [sizAs]
            exact wp_dec (by omega) (wp_dec (by omega) (wp_ndec (by omega) (ih _ trivial))))
          (fun m' j n x rest' hdr' _ ih' => by
            obtain ⟨g1, g2, g3⟩ := drop_cons hdr'
            simp only [ref08_Size_l6_succ, dA_0, dA_1, dA_2, dC_0, dC_1, dC_2, dC_3, dC_4, dN_0, dN_1, dN_2, els_sl, els_dI, els_dL, List.length_map, Int.toNat_natCast, toInt_int, toInt_dB, toBool_bool, getD_c0, getD_c1, int_beq, int_bne, not_dec, dInt_dB, Int.toNat_zero, getD_map h2, getD_map g2, wrap_succ (show j < 9223372036854775807 by omega)]
            repeat (refine wp_dec (by omega) ?_)
            rw [sizAs]
            exact wp_call (IH' c (List.mem_of_getElem? h2) x (List.mem_of_getElem? g2) (hc.2.2.2 x (List.mem_of_getElem? g2))) (ih' _ trivial))
          N 0 n (by omega) (by omega) trivial
        exact key)
      N 0 (a.cells.length : Int) (by omega) (by omega) trivial
    exact key
end Go.Proofs.Ytdkanalnpbllcaa
set_option maxRecDepth 100000
namespace Go.Proofs.Ytdkanalnpbllcaa
/-! scrim/scrimlaw08.ArrayRight -/
def law08_ArrayRight_orc : List (Nat × Orc) := []
theorem law08_ArrayRight_tree (n : Nat) (a0 : D) : evFun Try.prog md law08_ArrayRight_orc n 3 [] [a0] =
 .call 11 [] [a0] fun yy1 =>
 .br (!((yy1.getD 0 D.nil).toBool)) (.call 12 [] [] fun yy2 =>
 .ret [D.bool ((yy2.getD 0 D.nil).toBool)])
 (.call 13 [] [a0] fun yy3 =>
 .call 14 [] [a0, D.int 8] fun yy4 =>
 .br (((yy3.getD 0 D.nil).toBool) == ((yy4.getD 0 D.nil).toBool)) (.call 15 [] [a0] fun yy5 =>
 .call 16 [] [a0] fun yy6 =>
 .br (((yy5.getD 0 D.nil).toInt) == ((yy6.getD 0 D.nil).toInt)) (.call 17 [] [a0] fun yy7 =>
 .call 18 [] [a0] fun yy8 =>
 .br (((yy7.getD 0 D.nil).toInt) == ((yy8.getD 0 D.nil).toInt)) (.call 19 [] [a0] fun yy9 =>
 .call 20 [] [a0] fun yy10 =>
 .br (((yy9.getD 0 D.nil).toBool) == ((yy10.getD 0 D.nil).toBool)) (.call 12 [] [] fun yy11 =>
 .ret [D.bool ((yy11.getD 0 D.nil).toBool)])
 (.ret [D.bool false]))
 (.ret [D.bool false]))
 (.ret [D.bool false]))
 (.ret [D.bool false])) := by kernel_rfl

/-! scrim/scrimlaw08.awake -/
def law08_awake_orc : List (Nat × Orc) := []
theorem law08_awake_tree (n : Nat)  : evFun Try.prog md law08_awake_orc n 12 [] [] =
 .call 58 [] [D.int 1] fun yy1 =>
 .call 58 [] [D.int 3] fun yy2 =>
 .call 60 [] [D.int 65] fun yy3 =>
 .call 59 [] [D.sl [yy2.getD 0 D.nil, D.agg [D.int 4, D.int (((yy1.getD 0 D.nil).fld 1).toInt), (yy1.getD 0 D.nil).fld 2, D.int (((yy1.getD 0 D.nil).fld 3).toInt), (yy1.getD 0 D.nil).fld 4], yy3.getD 0 D.nil]] fun yy4 =>
 .call 17 [] [D.agg [D.int 2, (yy4.getD 0 D.nil).fld 1, (yy4.getD 0 D.nil).fld 2]] fun yy5 =>
 .br (((yy5.getD 0 D.nil).toInt) == 1) (.call 61 [] [D.agg [D.int 2, (yy4.getD 0 D.nil).fld 1, (yy4.getD 0 D.nil).fld 2]] fun yy6 =>
 .br (((yy6.getD 0 D.nil).toInt) == 6) (.call 13 [] [D.agg [D.int 2, (yy4.getD 0 D.nil).fld 1, (yy4.getD 0 D.nil).fld 2]] fun yy7 =>
 .br ((yy7.getD 0 D.nil).toBool) (.call 15 [] [D.agg [D.int 2, (yy4.getD 0 D.nil).fld 1, (yy4.getD 0 D.nil).fld 2]] fun yy8 =>
 .ret [D.bool (((yy8.getD 0 D.nil).toInt) == 3)])
 (.ret [D.bool false]))
 (.ret [D.bool false]))
 (.ret [D.bool false]) := by kernel_rfl

end Go.Proofs.Ytdkanalnpbllcaa
set_option maxRecDepth 100000
namespace Go.Proofs.Ytdkanalnpbllcaa

/-- No 0 on top, and not too many. -/
def trimD (l : List Limb) : Bool := decide (l.length ≤ 32) && (decide (l = []) || decide (lb (nv l) = l))
theorem can_iff (l : List Limb) (h : l ≠ []) : lb (nv l) = l ↔ (l.getLast h).toNat ≠ 0 := by
  constructor
  · intro he h0
    have hne : lb (nv l) ≠ [] := by rw [he]; exact h
    have := lb_last hne
    have e2 : (lb (nv l)).getLast hne = l.getLast h := by simp only [he]
    rw [e2] at this
    exact this (BitVec.eq_of_toNat_eq (by simpa using h0))
  · intro h0
    exact lb_can (fun hne hz => h0 (by rw [hz]; rfl))
theorem ratio_trimmed_sp (l : List Limb) : Sp 168 [dL l] [.bool (trimD l)] := by
  refine sound_ 0 (ratio_trimmed_tree _ _) ?_
  simp only [dA_0, dA_1, dA_2, dC_0, dC_1, dC_2, dC_3, dC_4, dN_0, dN_1, dN_2, els_sl, els_dI, els_dL, List.length_map, Int.toNat_natCast, toInt_int, toInt_dB, toBool_bool, getD_c0, getD_c1, int_beq, int_bne, not_dec, dInt_dB, Int.toNat_zero]
  unfold trimD
  refine wp_decs (fun h1 => ?_) (fun h1 => wp_ret (by rw [decide_eq_false (by omega)]; rfl))
  rw [show decide (l.length ≤ 32) = true from decide_eq_true (by omega), Bool.true_and]
  refine wp_decs (fun h2 => wp_ret ?_) (fun h2 => ?_)
  · rw [show decide (l = []) = true from decide_eq_true (List.length_eq_zero_iff.1 (by omega))]; rfl
  · have hne : l ≠ [] := fun h => h2 (by rw [h]; rfl)
    have hk : l.length - 1 < l.length := by omega
    have e1 : IntKind.wrap .i64 ((l.length : Int) - 1) = ((l.length - 1 : Nat) : Int) := by rw [wrap64 (by omega) (by omega)]; omega
    rw [e1]
    refine wp_dec (by omega) (wp_dec (by omega) (wp_ret ?_))
    rw [Int.toNat_natCast, getD_map (List.getElem?_eq_getElem hk), toInt_dB, ← List.getLast_eq_getElem hne]
    rw [show decide (l = []) = false from decide_eq_false hne, Bool.false_or]
    congr 2
    rw [decide_eq_decide, can_iff l hne]; omega
/-- Whether a number may be, is as the document says. -/
def RN (n : Num) : Prop := Sp 136 [dN n] [.bool (rightN n)]
theorem trimD_lb {n : Nat} (h : (lb n).length ≤ 32) : trimD (lb n) = true := by unfold trimD; rw [nv_lb]; simp [h]
theorem rn_ofZ {z : Int} (h : inR z) : RN (ofZ z) := by
  have hl := lb_inR h
  refine sound_ 0 (ratio_Right_tree _ _) ?_
  rw [rightN_ofZ h]
  have ht : trimD (ofZ z).top = true := trimD_lb (by omega)
  have hb : trimD (ofZ z).bot = true := by show trimD [1] = true; rw [← lb_one]; exact trimD_lb (by rw [lb_one]; decide)
  simp only [dA_0, dA_1, dA_2, dC_0, dC_1, dC_2, dC_3, dC_4, dN_0, dN_1, dN_2, els_sl, els_dI, els_dL, List.length_map, Int.toNat_natCast, toInt_int, toInt_dB, toBool_bool, getD_c0, getD_c1, int_beq, int_bne, not_dec, dInt_dB, Int.toNat_zero]
  have one := ratio_isOne_sp (ofZ z).bot
  rw [show decide ((ofZ z).bot = [1]) = true from decide_eq_true rfl] at one
  refine wp_call (ratio_trimmed_sp _) (wp_ff (by rw [getD_c0, ht]; rfl) (wp_call (ratio_trimmed_sp _) (wp_ff (by rw [getD_c0, hb]; rfl) (wp_ndec (by simp [ofZ]) ?_))))
  refine wp_decs (fun h0 => wp_ff ?_ (wp_call one (wp_tt rfl (wp_ret rfl)))) (fun h0 => wp_call one (wp_tt rfl (wp_ret rfl)))
  have : z.natAbs = 0 := lb_len0.1 (by simp only [ofZ] at h0; omega)
  simp only [ofZ]; rw [decide_eq_false (by omega)]
theorem array_rightCell_step (d : Nat) (hd : d ≤ 8) (c : Cell) (hc : FitsC c) (hn : c.kind = 0 → RN c.n) (ih : ∀ x ∈ c.inn, ∀ e, d = e + 1 → Sp 62 [dA x, .int (8 - (e : Int))] [.bool (rightA e x)]) : Sp 99 [dC c, .int (8 - (d : Int))] [.bool (rightC d c)] := by
  suffices key : ∀ (k : Bool) (r : Arr → Bool), (k = true ↔ 0 < d) → (∀ x ∈ c.inn, k = true → Sp 62 [dA x, .int (8 - (d : Int) + 1)] [.bool (r x)]) → Sp 99 [dC c, .int (8 - (d : Int))] [.bool (cellR k r c)] by
    cases d with
    | zero => exact key false (fun _ => false) (by simp) (fun x _ h => by cases h)
    | succ e => exact key true (rightA e) (by simp) (fun x hx _ => by have := ih x hx e rfl; rw [show 8 - ((e + 1 : Nat) : Int) + 1 = 8 - (e : Int) by omega]; exact this)
  intro k r hk hr
  refine sound_ 0 (array_rightCell_tree _ _ _) ?_
  simp only [dA_0, dA_1, dA_2, dC_0, dC_1, dC_2, dC_3, dC_4, dN_0, dN_1, dN_2, els_sl, els_dI, els_dL, List.length_map, Int.toNat_natCast, toInt_int, toInt_dB, toBool_bool, getD_c0, getD_c1, int_beq, int_bne, not_dec, dInt_dB, Int.toNat_zero, dN_zero]
  unfold cellR
  refine wp_decs (fun h0 => wp_call (hn h0) ?_) (fun h0 => ?_)
  · rw [if_pos h0]
    simp only [getD_c0, toBool_bool]
    refine wp_br (fun h1 => wp_decs (fun h2 => wp_ret ?_) (fun h2 => wp_ret ?_)) (fun h1 => wp_ret ?_)
    · rw [h1, Bool.and_true]; congr 2; rw [decide_eq_decide]; omega
    · rw [decide_eq_false (fun hh => h2 hh.1)]; rfl
    · rw [h1, Bool.and_false]
  rw [if_neg h0]
  refine wp_decs (fun h0 => wp_call (glyph_May_sp c.c) ?_) (fun h0 => ?_)
  · rw [if_pos h0]
    simp only [getD_c0, toBool_bool]
    refine wp_br (fun h1 => wp_call (ratio_Same_sp c.n .zero hc.1 hc.2.1) ?_) (fun h1 => wp_ret (by rw [h1, Bool.and_false]))
    simp only [getD_c0, toBool_bool]
    refine wp_decs (fun h2 => wp_ret ?_) (fun h2 => wp_ret ?_)
    · rw [h1, Bool.and_true]; congr 2; rw [decide_eq_decide]; exact ⟨fun hh => ⟨h2, by omega⟩, fun hh => by omega⟩
    · rw [decide_eq_false (fun hh => h2 hh.1)]; rfl
  rw [if_neg h0]
  refine wp_decs (fun h0 => ?_) (fun h0 => wp_ret (by rw [decide_eq_false (fun hh => h0 hh.1)]; rfl))
  refine wp_decs (fun h1 => wp_decs (fun h2 => wp_decs (fun h3 => wp_call (ratio_Same_sp c.n .zero hc.1 hc.2.1) ?_) (fun h3 => wp_ret (by rw [decide_eq_false (fun hh => h3 hh.2.2)]; rfl))) (fun h2 => wp_ret ?_)) (fun h1 => wp_ret ?_)
  · simp only [getD_c0, toBool_bool]
    refine wp_decs (fun h4 => ?_) (fun h4 => wp_ret (by rw [decide_eq_false (fun hh => h4 hh.2.1)]; rfl))
    have hkt := hk.2 (by omega)
    rw [show decide (c.kind = 2 ∧ c.n = .zero ∧ c.c = 0) = true from decide_eq_true ⟨h0, h4, h3⟩, hkt, Bool.true_and, Bool.true_and]
    obtain ⟨x, hx⟩ := len_one (show c.inn.length = 1 by omega)
    unfold boxOK
    rw [hx]
    simp only [hx, List.map_cons, List.map_nil, List.length_cons, List.length_nil, getD_c0]
    refine wp_dec (by omega) (wp_dec (by omega) (wp_call (array_Simple_sp x) ?_))
    simp only [getD_c0, toBool_bool]
    refine wp_br (fun h5 => wp_dec (by omega) (wp_dec (by omega) ?_)) (fun h5 => wp_ret (by rw [h5]; rfl))
    rw [wrap64 (by omega) (by omega)]
    refine wp_call (hr x (by rw [hx]; simp) hkt) (wp_ret ?_)
    rw [h5]; rfl
  · have : boxOK c r = false := by
      unfold boxOK
      match hi : c.inn with
      | [] => rfl
      | x :: y :: xs => rfl
      | [x] => rw [hi] at h2; simp at h2
    rw [this, Bool.and_false, Bool.and_false]
  · have : k = false := bool_false (fun h => by have := hk.1 h; omega)
    rw [this, Bool.false_and, Bool.and_false]
theorem array_right_step (d : Nat) (hd : d ≤ 8) (a : Arr) (ha : Fits a) (hn : ∀ c ∈ a.cells, c.kind = 0 → RN c.n) (ih : ∀ c ∈ a.cells, ∀ x ∈ c.inn, ∀ e, d = e + 1 → Sp 62 [dA x, .int (8 - (e : Int))] [.bool (rightA e x)]) : Sp 62 [dA a, .int (8 - (d : Int))] [.bool (rightA d a)] := by
  have hl := ha.len
  refine sound_ (a.cells.length + 1) (array_right_tree _ _ _) (wp_call (ys := [.int (countS a.shape).1, .int (countS a.shape).2]) (by rw [dA_1]; exact shape_Count_sp a.shape) ?_)
  rw [rightA_eq]
  simp only [dA_0, dA_1, dA_2, dC_0, dC_1, dC_2, dC_3, dC_4, dN_0, dN_1, dN_2, els_sl, els_dI, els_dL, List.length_map, Int.toNat_natCast, toInt_int, toInt_dB, toBool_bool, getD_c0, getD_c1, int_beq, int_bne, not_dec, dInt_dB, Int.toNat_zero]
  refine wp_decs (fun h => wp_ret ?_) (fun h => wp_decs (fun h' => wp_ret ?_) (fun h' => ?_))
  · rw [decide_eq_false]; rfl
    intro hh; rw [hh] at h; exact h rfl
  · rw [decide_eq_false]; rfl
    intro hh; rw [hh] at h'; exact h' rfl
  · have hc : countS a.shape = ((a.cells.length : Int), 0) := Prod.ext (by simpa using h') (by simpa using h)
    rw [hc, decide_eq_true rfl, Bool.true_and]
    have key := loop_list (P := Try.prog) (md := md) a.cells (fun m k (_ : Unit) => array_right_l5 (a.cells.length + 1) m (8 - (d : Int)) (.sl (a.cells.map dC)) (a.cells.length : Int) (k : Int)) (fun rest _ => [.bool (rest.all (rightC d))]) (fun _ _ => True)
      (fun m k s hk _ => by
        simp only [array_right_l5_succ]
        exact wp_ndec (by omega) (wp_ret rfl))
      (fun m k s x rest hd' _ ih' => by
        obtain ⟨h1, h2, h3⟩ := drop_cons hd'
        have hm := List.mem_of_getElem? h2
        simp only [array_right_l5_succ, dA_0, dA_1, dA_2, dC_0, dC_1, dC_2, dC_3, dC_4, dN_0, dN_1, dN_2, els_sl, els_dI, els_dL, List.length_map, Int.toNat_natCast, toInt_int, toInt_dB, toBool_bool, getD_c0, getD_c1, int_beq, int_bne, not_dec, dInt_dB, Int.toNat_zero, getD_map h2, wrap_succ (show k < 9223372036854775807 by omega)]
        repeat (refine wp_dec (by omega) ?_)
        refine wp_call (array_rightCell_step d hd x (ha.cell x hm) (hn x hm) (ih x hm)) ?_
        simp only [getD_c0, toBool_bool, List.all_cons]
        refine wp_br (fun h4 => wp_ret ?_) (fun h4 => ?_)
        · simp at h4; rw [h4]; rfl
        · simp at h4; rw [h4, Bool.true_and]; exact ih' () trivial)
      (a.cells.length + 1) 0 () (by omega) (by omega) trivial
    exact key
theorem smlC_int' {z : Int} (h : inR z) {d : Nat} : SmlC d (intC z) := by
  have := lb_inR h
  refine ⟨?_, ?_, ?_, ?_⟩
  · simp only [intC, ofZ]; omega
  · simp [intC, ofZ]
  · simp [intC]
  · simp [intC]
def aw08c : Cell := ⟨4, 0, ofZ 1, 0, []⟩
def aw08 : Arr := .mk 2 [3] [intC 3, aw08c, chrC 65]
theorem aw08_in (z : Int) (h1 : -100000 ≤ z := by decide) (h2 : z ≤ 100000 := by decide) : inR z := inR_small h1 h2
theorem aw08_smlC : ∀ c ∈ [intC 3, aw08c, chrC 65], SmlC 0 c := by
  intro c hc
  have s3 := smlC_int' (aw08_in 3) (d := 0)
  have s1 := smlC_int' (aw08_in 1) (d := 0)
  simp only [List.mem_cons, List.not_mem_nil, or_false] at hc
  rcases hc with rfl | rfl | rfl
  · exact s3
  · exact s1
  · exact ⟨by simp [chrC, Num.zero], by simp [chrC, Num.zero], by simp [chrC], by simp [chrC]⟩
theorem aw08_sml : Sml 1 aw08 := ⟨by simp [aw08], by simp [aw08], by simp only [aw08, Arr.shape_mk, List.mem_singleton]; rintro x rfl; exact aw08_in 3, aw08_smlC⟩
theorem aw08_right : rightA 8 aw08 = true := by
  refine rightA_of (by decide) (fun c hc => ?_)
  simp only [aw08, Arr.cells_mk, List.mem_cons, List.not_mem_nil, or_false] at hc
  rcases hc with rfl | rfl | rfl
  · exact rightC_int 8 (aw08_in 3)
  · exact rightC_int 8 (aw08_in 1)
  · decide
theorem law08_awake_sp : Sp 12 [] [.bool true] := by
  refine sound_ 0 (law08_awake_tree _) (wp_call (array_Int_sp 1 (aw08_in 1)) (wp_call (array_Int_sp 3 (aw08_in 3)) (wp_call (array_Chr_sp 65) ?_)))
  have e1 : D.sl [dC (intC 3), D.agg [D.int 4, D.int (((dC (intC 1)).fld 1).toInt), (dC (intC 1)).fld 2, D.int (((dC (intC 1)).fld 3).toInt), (dC (intC 1)).fld 4], dC (chrC 65)] = D.sl ([intC 3, aw08c, chrC 65].map dC) := by
    simp only [dA_0, dA_1, dA_2, dC_0, dC_1, dC_2, dC_3, dC_4, dN_0, dN_1, dN_2, els_sl, els_dI, els_dL, List.length_map, Int.toNat_natCast, toInt_int, toInt_dB, toBool_bool, getD_c0, getD_c1, int_beq, int_bne, not_dec, dInt_dB, Int.toNat_zero, List.map_cons, List.map_nil]
    rw [dC_eq aw08c]; rfl
  simp only [getD_c0]
  rw [e1]
  refine wp_call (array_Vector_sp _ aw08_smlC (by decide)) ?_
  have e2 : D.agg [D.int 2, (dA (vectA [intC 3, aw08c, chrC 65])).fld 1, (dA (vectA [intC 3, aw08c, chrC 65])).fld 2] = dA aw08 := by
    rw [dA_1, dA_2, dA_eq]; rfl
  simp only [getD_c0]
  rw [e2]
  have d1 : depA aw08 = 1 := by rw [depA_eq]; rfl
  have t1 : totA aw08 = 6 := by rw [totA_eq]; simp [aw08, aw08c, totC_eq, intC, chrC]
  have z1 : sizA aw08 = 3 := by rw [sizA_eq]; simp [aw08, sizCs, sizC_eq, sizAs, intC, chrC, aw08c]
  refine wp_call (array_Depth_sp 1 aw08 (by decide) aw08_sml) (wp_tt (by rw [d1]; rfl) (wp_call (array_Total_sp aw08 aw08_sml.fits) (wp_tt (by rw [t1]; rfl) ?_)))
  have hr : Sp 62 [dA aw08, .int (8 - ((8 : Nat) : Int))] [.bool (rightA 8 aw08)] := array_right_step 8 (by decide) aw08 aw08_sml.fits (fun c hc hk => by
      simp only [aw08, Arr.cells_mk, List.mem_cons, List.not_mem_nil, or_false] at hc
      rcases hc with rfl | rfl | rfl
      · exact rn_ofZ (aw08_in 3)
      · exact rn_ofZ (aw08_in 1)
      · cases hk) (fun c hc x hx => by
      simp only [aw08, Arr.cells_mk, List.mem_cons, List.not_mem_nil, or_false] at hc
      rcases hc with rfl | rfl | rfl <;> simp [intC, chrC, aw08c] at hx)
  rw [aw08_right] at hr
  refine wp_call (ys := [.bool true]) (sound_ 0 (array_Right_tree _ _) (wp_call (ys := [.bool true]) hr (wp_ret rfl))) (wp_tt rfl (wp_call (array_Size_sp aw08 aw08_sml.fits) (wp_ret ?_)))
  rw [z1]; rfl
theorem awake08 : Tw (.call 12 [] [] fun y => .ret [D.bool ((y.getD 0 D.nil).toBool)]) [.bool true] := wp_call law08_awake_sp (wp_ret rfl)
end Go.Proofs.Ytdkanalnpbllcaa
set_option maxRecDepth 100000
namespace Go.Proofs.Ytdkanalnpbllcaa

theorem can_len {x k : Nat} (h : (lb x).length = k + 1) : B ^ k ≤ x := by
  rcases Nat.lt_or_ge x (B ^ k) with h1 | h1
  · have := lb_len.2 h1; omega
  · exact h1
theorem lb_of {r : List Limb} (h : ∀ k, r.length = k + 1 → B ^ k ≤ nv r) : lb (nv r) = r := by
  refine lb_can (fun hne hz => ?_)
  have hd := List.dropLast_concat_getLast hne
  have hl : 0 < r.length := List.length_pos_iff.2 hne
  have h1 := h (r.length - 1) (by omega)
  have e : nv r = nv r.dropLast := by
    have e2 := nv_snoc r.dropLast (r.getLast hne)
    rw [hd, hz, show (0 : Limb).toNat = 0 from rfl, Nat.mul_zero, Nat.add_zero] at e2
    exact e2
  have h2 := nv_lt r.dropLast
  rw [List.length_dropLast] at h2
  omega
theorem pre_get {α : Type} {pre l : List α} {k : Nat} (hp : pre.length = k) (hk : k < l.length) : (pre ++ l.drop k)[k]? = some l[k] := by
  rw [List.getElem?_append_right (by omega), hp, Nat.sub_self, List.getElem?_drop, Nat.add_zero, List.getElem?_eq_getElem hk]
theorem pre_set {α : Type} {pre l : List α} {k : Nat} (v : α) (hp : pre.length = k) (hk : k < l.length) : (pre ++ l.drop k).set k v = (pre ++ [v]) ++ l.drop (k + 1) := by
  rw [List.set_append_right _ _ (by omega), hp, Nat.sub_self, List.drop_eq_getElem_cons hk, List.set_cons_zero]; simp
theorem map_set {α : Type} {f : α → D} {l : List α} {k : Nat} {v : α} : (l.map f).set k (f v) = (l.set k v).map f := by rw [List.map_set]
theorem nv_set (l : List Limb) (i : Nat) (hi : i < l.length) (v : Limb) : nv (l.set i v) + B ^ i * (l[i]).toNat = nv l + B ^ i * v.toNat := by
  induction l generalizing i with
  | nil => simp at hi
  | cons y l ih =>
    cases i with
    | zero => simp [nv]; omega
    | succ i =>
      have hi' : i < l.length := by simpa using hi
      have := ih i hi'
      simp only [List.set_cons_succ, nv, List.getElem_cons_succ, Nat.pow_succ]
      have h2 := congrArg (fun n => B * n) this
      simp only [Nat.mul_add] at h2
      rw [show B ^ i * B * (l[i]).toNat = B * (B ^ i * (l[i]).toNat) by rw [Nat.mul_comm (B ^ i) B, Nat.mul_assoc], show B ^ i * B * v.toNat = B * (B ^ i * v.toNat) by rw [Nat.mul_comm (B ^ i) B, Nat.mul_assoc]]
      omega
theorem bits32 {X Y : Nat} (hX : X < 4294967296) (hY : Y < 4294967296) : bits_ .xor .u32 (X : Int) (Y : Int) = ((X ^^^ Y : Nat) : Int) ∧ bits_ .and .u32 (X : Int) (Y : Int) = ((X &&& Y : Nat) : Int) ∧ bits_ .or .u32 (X : Int) (Y : Int) = ((X ||| Y : Nat) : Int) := by
  have b : IntKind.bits .u32 = 32 := rfl
  have e1 : (X ^^^ Y) < 2 ^ 32 := Nat.xor_lt_two_pow (by omega) (by omega)
  have e2 : (X &&& Y) < 2 ^ 32 := Nat.and_lt_two_pow _ (by omega)
  have e3 : (X ||| Y) < 2 ^ 32 := Nat.or_lt_two_pow (by omega) (by omega)
  simp only [bits_, b, BitVec.ofInt_natCast, BitVec.toNat_xor, BitVec.toNat_and, BitVec.toNat_or, BitVec.toNat_ofNat, Nat.mod_eq_of_lt (show X < 2 ^ 32 by omega), Nat.mod_eq_of_lt (show Y < 2 ^ 32 by omega)]
  exact ⟨wrapU32 (by omega) (by omega), wrapU32 (by omega) (by omega), wrapU32 (by omega) (by omega)⟩
theorem top_bit (n : Nat) (h : n < 4294967296) : n.testBit 31 = decide (2147483648 ≤ n) := by
  rw [Nat.testBit_eq_decide_div_mod_eq]
  have : n / 2 ^ 31 % 2 = 1 ↔ 2147483648 ≤ n := by omega
  simp only [this]
theorem sub_nat (X Y D c : Nat) (hX : X < 4294967296) (hY : Y < 4294967296) (hc : c ≤ 1) (hD : (D : Int) = ((X : Int) - Y - c) % 4294967296) :
    ((((4294967295 ^^^ X) &&& Y) ||| ((4294967295 ^^^ (X ^^^ Y)) &&& D) : Nat) : Int) / 2147483648 = if X < Y + c then 1 else 0 := by
  have hDl : D < 4294967296 := by omega
  have hN : (((4294967295 ^^^ X) &&& Y) ||| ((4294967295 ^^^ (X ^^^ Y)) &&& D)) < 2 ^ 32 :=
    Nat.or_lt_two_pow (Nat.and_lt_two_pow _ (by omega)) (Nat.and_lt_two_pow _ (by omega))
  have ht := top_bit _ (show _ < 4294967296 from hN)
  rw [Nat.testBit_or, Nat.testBit_and, Nat.testBit_and, Nat.testBit_xor, Nat.testBit_xor, Nat.testBit_xor, top_bit X hX, top_bit Y hY, top_bit D hDl, show Nat.testBit 4294967295 31 = true by decide] at ht
  generalize (((4294967295 ^^^ X) &&& Y) ||| ((4294967295 ^^^ (X ^^^ Y)) &&& D)) = N at *
  by_cases h1 : 2147483648 ≤ X <;> by_cases h2 : 2147483648 ≤ Y <;> by_cases h3 : 2147483648 ≤ D <;> simp [h1, h2, h3] at ht <;> split <;> omega
theorem bits_Add32_sp (x y c : Nat) (hx : x < B) (hy : y < B) (hc : c ≤ 1) : Sp 200 [.int (x : Int), .int (y : Int), .int (c : Int)] [.int (((x + y + c) % B : Nat) : Int), .int (((x + y + c) / B : Nat) : Int)] := by
  rw [B_eq] at *
  refine sound_ 0 (bits_Add32_tree _ _ _ _) (wp_tt (by decide) (wp_ret ?_))
  simp only [toInt_int]
  have t1 : IntKind.wrap .u64 (IntKind.wrap .u64 (IntKind.wrap .u64 (x : Int) + IntKind.wrap .u64 (y : Int)) + IntKind.wrap .u64 (c : Int)) = ((x + y + c : Nat) : Int) := by
    rw [wrapU64 (x := (x : Int)) (by omega) (by omega), wrapU64 (x := (y : Int)) (by omega) (by omega), wrapU64 (x := (c : Int)) (by omega) (by omega), wrapU64 (x := (x : Int) + y) (by omega) (by omega), wrapU64 (by omega) (by omega)]; omega
  rw [t1, fdiv32, wrapU32 (x := (((x + y + c) / 4294967296 : Nat) : Int)) (by omega) (by omega)]
  have t2 : IntKind.wrap .u32 ((x + y + c : Nat) : Int) = (((x + y + c) % 4294967296 : Nat) : Int) := by rw [IntKind.wrap_u32]; omega
  rw [t2]
theorem bits_Sub32_sp (x y c : Nat) (hx : x < B) (hy : y < B) (hc : c ≤ 1) (z c' : Nat) (hz : z < B) (hc' : c' ≤ 1) (e : x + B * c' = z + y + c) : Sp 199 [.int (x : Int), .int (y : Int), .int (c : Int)] [.int (z : Int), .int (c' : Int)] := by
  rw [B_eq] at *
  refine sound_ 0 (bits_Sub32_tree _ _ _ _) (wp_tt (by decide) (wp_ret ?_))
  simp only [toInt_int]
  have t1 : IntKind.wrap .u32 (IntKind.wrap .u32 ((x : Int) - (y : Int)) - (c : Int)) = (z : Int) := by rw [IntKind.wrap_u32, IntKind.wrap_u32]; omega
  have hm : IntKind.max .u32 = ((4294967295 : Nat) : Int) := by decide
  have e1 : (4294967295 ^^^ x) < 2 ^ 32 := Nat.xor_lt_two_pow (by omega) (by omega)
  have e2 : (x ^^^ y) < 2 ^ 32 := Nat.xor_lt_two_pow (by omega) (by omega)
  have e3 : (4294967295 ^^^ (x ^^^ y)) < 2 ^ 32 := Nat.xor_lt_two_pow (by omega) e2
  have e4 : ((4294967295 ^^^ x) &&& y) < 2 ^ 32 := Nat.and_lt_two_pow _ (by omega)
  have e5 : ((4294967295 ^^^ (x ^^^ y)) &&& z) < 2 ^ 32 := Nat.and_lt_two_pow _ (by omega)
  have hs := sub_nat x y z c (by omega) (by omega) hc (by omega)
  rw [t1, hm, (bits32 (X := 4294967295) (Y := x) (by omega) (by omega)).1, (bits32 (X := x) (Y := y) (by omega) (by omega)).1, (bits32 (X := 4294967295) (Y := x ^^^ y) (by omega) (by omega)).1, (bits32 (X := 4294967295 ^^^ x) (Y := y) (by omega) (by omega)).2.1, (bits32 (X := 4294967295 ^^^ (x ^^^ y)) (Y := z) (by omega) (by omega)).2.1, (bits32 (by omega) (by omega)).2.2]
  have t3 : ∀ q : Nat, Int.fdiv (q : Int) (2 ^ (min (Int.toNat 31) (IntKind.bits .u32))) = (q : Int) / 2147483648 := fun q => by
    rw [show (2 : Int) ^ (min (Int.toNat 31) (IntKind.bits .u32)) = 2147483648 by decide, Int.fdiv_eq_ediv_of_nonneg _ (by omega)]
  rw [t3, hs]
  congr 2
  split <;> congr 1 <;> omega
theorem nat_Cmp_sp (a b : List Limb) (ha : a.length ≤ 1000000) (hb : b.length ≤ 1000000) : Sp 174 [dL a, dL b] [.int (cmpN (nv a) (nv b))] := by
  refine sound_ (a.length + 1) (nat_Cmp_tree _ _ _) (wp_call (nat_trim_sp a (by omega)) (wp_call (nat_trim_sp b (by omega)) ?_))
  have la : (lb (nv a)).length ≤ a.length := lb_len.2 (nv_lt a)
  have lb_ : (lb (nv b)).length ≤ b.length := lb_len.2 (nv_lt b)
  simp only [getD_c0, els_dL, List.length_map]
  refine wp_decs (fun h => wp_ret ?_) (fun h => wp_decs (fun h' => wp_ret ?_) (fun h' => ?_))
  · have h1 : nv a < nv b := by
      have e1 : nv a < B ^ (lb (nv a)).length := lb_len.1 (Nat.le_refl _)
      rcases Nat.lt_or_ge (nv b) (B ^ (lb (nv a)).length) with h2 | h2
      · have := lb_len.2 h2; omega
      · omega
    rw [cmpN, if_pos h1]
  · have h1 : nv b < nv a := by
      have e1 : nv b < B ^ (lb (nv b)).length := lb_len.1 (Nat.le_refl _)
      rcases Nat.lt_or_ge (nv a) (B ^ (lb (nv b)).length) with h2 | h2
      · have := lb_len.2 h2; omega
      · omega
    rw [cmpN, if_neg (by omega), if_neg (by omega)]
  · have hl : (lb (nv b)).length = (lb (nv a)).length := by omega
    have key := loop_down (P := Try.prog) (md := md) (fun m k (_ : Unit) => nat_Cmp_l7 (a.length + 1) m (dL (lb (nv a))) (dL (lb (nv b))) ((k : Int) - 1)) (fun _ _ => [.int (cmpN (nv a) (nv b))]) (fun k _ => k ≤ (lb (nv a)).length ∧ nv a / B ^ k = nv b / B ^ k)
      (fun m s ⟨_, h⟩ => by
        simp only [nat_Cmp_l7_succ]
        refine wp_ndec (by omega) (wp_ret ?_)
        simp at h
        simp [cmpN, h])
      (fun m k s ⟨h0, h⟩ ih => by
        have g1 := nv_limb (lb (nv a)) k (by omega)
        have g2 := nv_limb (lb (nv b)) k (by omega)
        rw [nv_lb] at g1 g2
        have ga : ((lb (nv a)).map dB).getD k D.nil = D.int ((nv a / B ^ k % B : Nat) : Int) := by rw [getD_map (List.getElem?_eq_getElem (show k < (lb (nv a)).length by omega)), ← g1]; rfl
        have gb : ((lb (nv b)).map dB).getD k D.nil = D.int ((nv b / B ^ k % B : Nat) : Int) := by rw [getD_map (List.getElem?_eq_getElem (show k < (lb (nv b)).length by omega)), ← g2]; rfl
        simp only [nat_Cmp_l7_succ, show ((k + 1 : Nat) : Int) - 1 = (k : Int) by omega, dA_0, dA_1, dA_2, dC_0, dC_1, dC_2, dC_3, dC_4, dN_0, dN_1, dN_2, els_sl, els_dI, els_dL, List.length_map, Int.toNat_natCast, toInt_int, toInt_dB, toBool_bool, getD_c0, getD_c1, int_beq, int_bne, not_dec, dInt_dB, Int.toNat_zero, ga, gb]
        have ea := Nat.div_add_mod (nv a / B ^ k) B
        have eb := Nat.div_add_mod (nv b / B ^ k) B
        rw [Nat.div_div_eq_div_mul, ← Nat.pow_succ] at ea eb
        rw [h] at ea
        generalize B * (nv b / B ^ (k + 1)) = q at ea eb
        refine wp_dec (by omega) (wp_dec (by omega) (wp_dec (by omega) (wp_dec (by omega) (wp_dec (by omega) (wp_decs (fun h' => wp_ret ?_) (fun h' => wp_dec (by omega) (wp_dec (by omega) (wp_dec (by omega) (wp_dec (by omega) (wp_decs (fun h2 => wp_ret ?_) (fun h2 => ?_)))))))))))
        · have hlt := lt_of_div (show nv a / B ^ k < nv b / B ^ k by omega)
          simp only [cmpN]; rw [if_pos hlt]
        · have hlt := lt_of_div (show nv b / B ^ k < nv a / B ^ k by omega)
          simp only [cmpN]; rw [if_neg (by omega), if_neg (by omega)]
        · rw [wrap64 (by omega) (by omega)]
          exact ih () ⟨by omega, by omega⟩)
      (a.length + 1) (lb (nv a)).length () (by omega) ⟨by omega, by
        rw [Nat.div_eq_of_lt (lb_len.1 (Nat.le_refl _)), Nat.div_eq_of_lt (lb_len.1 (by omega))]⟩
    rw [wrap64 (by omega) (by omega)]
    exact key
end Go.Proofs.Ytdkanalnpbllcaa
set_option maxRecDepth 100000
namespace Go.Proofs.Ytdkanalnpbllcaa

theorem mul_bound {x y o c : Nat} (hx : x < B) (hy : y < B) (ho : o < B) (hc : c < B) : x * y + o + c < 18446744073709551616 ∧ x * y < 18446744073709551616 ∧ x * y + o < 18446744073709551616 := by
  have h1 : x * y ≤ (B - 1) * (B - 1) := Nat.mul_le_mul (by omega) (by omega)
  rw [B_eq] at *
  omega
theorem nat_Mul_sp (a b : List Limb) (ha : a.length ≤ 100000) (hb : b.length ≤ 100000) : Sp 175 [dL a, dL b] [dL (lb (nv a * nv b))] := by
  refine sound_ 100001 (nat_Mul_tree _ _ _) (wp_call (nat_trim_sp a (by omega)) (wp_call (nat_trim_sp b (by omega)) ?_))
  have la : (lb (nv a)).length ≤ a.length := lb_len.2 (nv_lt a)
  have lb_ : (lb (nv b)).length ≤ b.length := lb_len.2 (nv_lt b)
  simp only [getD_c0, els_dL, List.length_map, int_beq]
  generalize nv a = x at *
  generalize nv b = y at *
  refine wp_decs (fun h => wp_ret ?_) (fun h => wp_decs (fun h' => wp_ret ?_) (fun h' => ?_))
  · have : x = 0 := lb_len0.1 (by omega)
    rw [this, Nat.zero_mul, lb_zero]; rfl
  · have : y = 0 := lb_len0.1 (by omega)
    rw [this, Nat.mul_zero, lb_zero]; rfl
  have hm : (lb y).length = (lb y).length := rfl
  generalize hmm : (lb y).length = mm at *
  rw [wrap64 (by omega) (by omega)]
  refine wp_dec (by omega) (wp_dec (by omega) (wp_dec (by simp only [bigN]; omega) ?_))
  have hyB : y < B ^ mm := lb_len.1 (by omega)
  have hxB : x < B ^ (lb x).length := lb_len.1 (Nat.le_refl _)
  rw [show ((lb x).length : Int) + (mm : Int) = (((lb x).length + mm : Nat) : Int) by omega, Int.toNat_natCast]
  have key := loop_up (P := Try.prog) (md := md) (lb x).length (fun m i (lo : List Limb) => nat_Mul_l6 100001 m (dL (lb y)) ((lo ++ List.replicate ((lb x).length - i) 0).map dB) (dL (lb x)) ((lb x).length : Int) (i : Int)) (fun _ _ => [dL (lb (x * y))])
    (fun i lo => lo.length = i + mm ∧ nv lo = (x % B ^ i) * y)
    (fun m lo ⟨h1, h2⟩ => by
      simp only [nat_Mul_l6_succ, Nat.sub_self, List.replicate_zero, List.append_nil, dA_0, dA_1, dA_2, dC_0, dC_1, dC_2, dC_3, dC_4, dN_0, dN_1, dN_2, els_sl, els_dI, els_dL, List.length_map, Int.toNat_natCast, toInt_int, toInt_dB, toBool_bool, getD_c0, getD_c1, int_beq, int_bne, not_dec, dInt_dB, Int.toNat_zero]
      refine wp_ndec (by omega) (wp_call (nat_trim_sp lo (by omega)) (wp_ret ?_))
      rw [h2, Nat.mod_eq_of_lt hxB]; rfl)
    (fun m i lo hi ⟨h1, h2⟩ ih => by
      have gx := nv_limb (lb x) i hi
      rw [nv_lb] at gx
      have xl : x / B ^ i % B < B := Nat.mod_lt _ B_pos
      have gX : ((lb x).map dB).getD i D.nil = D.int ((x / B ^ i % B : Nat) : Int) := by rw [getD_map (List.getElem?_eq_getElem hi), ← gx]; rfl
      simp only [nat_Mul_l6_succ, dA_0, dA_1, dA_2, dC_0, dC_1, dC_2, dC_3, dC_4, dN_0, dN_1, dN_2, els_sl, els_dI, els_dL, List.length_map, Int.toNat_natCast, toInt_int, toInt_dB, toBool_bool, getD_c0, getD_c1, int_beq, int_bne, not_dec, dInt_dB, Int.toNat_zero, gX, hmm]
      refine wp_dec (by omega) (wp_dec (by omega) (wp_dec (by omega) ?_))
      have hxs : x % B ^ (i + 1) = x % B ^ i + B ^ i * (x / B ^ i % B) := Nat.mod_pow_succ
      generalize x / B ^ i % B = xi at *
      have key := loop_up (P := Try.prog) (md := md) mm (fun m' j (s : List Limb × Nat) => nat_Mul_l10 100001 m m' (dL (lb y)) ((s.1 ++ List.replicate ((lb x).length - i) 0).map dB) (i : Int) (xi : Int) (s.2 : Int) (dL (lb x)) ((lb x).length : Int) (i : Int) (dL (lb y)) (mm : Int) (j : Int)) (fun _ _ => [dL (lb (x * y))])
        (fun j s => s.1.length = i + mm ∧ s.2 < B ∧ nv s.1 + B ^ (i + j) * s.2 = nv lo + B ^ i * (xi * (y % B ^ j)))
        (fun m' s ⟨g1, g2, g3⟩ => by
          have ew : IntKind.wrap .i64 ((i : Int) + (mm : Int)) = ((i + mm : Nat) : Int) := by rw [wrap64 (by omega) (by omega)]; omega
          have hB := B_eq
          have ec : IntKind.wrap .u32 (s.2 : Int) = (s.2 : Int) := wrapU32 (by omega) (by omega)
          have hlen : (s.1 ++ List.replicate ((lb x).length - i) (0 : Limb)).length = (lb x).length + mm := by simp [g1]; omega
          simp only [nat_Mul_l10_succ, dA_0, dA_1, dA_2, dC_0, dC_1, dC_2, dC_3, dC_4, dN_0, dN_1, dN_2, els_sl, els_dI, els_dL, List.length_map, Int.toNat_natCast, toInt_int, toInt_dB, toBool_bool, getD_c0, getD_c1, int_beq, int_bne, not_dec, dInt_dB, Int.toNat_zero, hmm, ew, ec, hlen, wrap_succ (show i < 9223372036854775807 by omega)]
          refine wp_ndec (by omega) (wp_dec (by omega) (wp_dec (by omega) ?_))
          have hset : ((s.1 ++ List.replicate ((lb x).length - i) 0).map dB).set (i + mm) (D.int (s.2 : Int)) = ((s.1 ++ [BitVec.ofNat 32 s.2]) ++ List.replicate ((lb x).length - (i + 1)) 0).map dB := by
            rw [dB_ofNat g2, map_set, List.set_append_right _ _ (by omega), g1, Nat.sub_self, show (lb x).length - i = ((lb x).length - (i + 1)) + 1 by omega, List.replicate_succ, List.set_cons_zero]; simp
          rw [hset]
          refine ih _ ⟨by simp [g1]; omega, ?_⟩
          rw [nv_snoc, g1, ofNat_lt g2, g3, h2, Nat.mod_eq_of_lt hyB, hxs, Nat.add_mul, Nat.mul_assoc])
        (fun m' j s hj ⟨g1, g2, g3⟩ ih' => by
          have gy := nv_limb (lb y) j (by omega)
          rw [nv_lb] at gy
          have yl : y / B ^ j % B < B := Nat.mod_lt _ B_pos
          have gY : ((lb y).map dB).getD j D.nil = D.int ((y / B ^ j % B : Nat) : Int) := by rw [getD_map (List.getElem?_eq_getElem (by omega)), ← gy]; rfl
          have hys : y % B ^ (j + 1) = y % B ^ j + B ^ j * (y / B ^ j % B) := Nat.mod_pow_succ
          have hij : i + j < s.1.length := by omega
          have ew : IntKind.wrap .i64 ((i : Int) + (j : Int)) = ((i + j : Nat) : Int) := by rw [wrap64 (by omega) (by omega)]; omega
          have hlen : (s.1 ++ List.replicate ((lb x).length - i) (0 : Limb)).length = (lb x).length + mm := by simp [g1]; omega
          have gO : ((s.1 ++ List.replicate ((lb x).length - i) 0).map dB).getD (i + j) D.nil = D.int ((s.1[i + j]).toNat : Int) := by rw [getD_map (x := s.1[i + j]) (by rw [List.getElem?_append_left hij, List.getElem?_eq_getElem hij])]; rfl
          simp only [nat_Mul_l10_succ, dA_0, dA_1, dA_2, dC_0, dC_1, dC_2, dC_3, dC_4, dN_0, dN_1, dN_2, els_sl, els_dI, els_dL, List.length_map, Int.toNat_natCast, toInt_int, toInt_dB, toBool_bool, getD_c0, getD_c1, int_beq, int_bne, not_dec, dInt_dB, Int.toNat_zero, ew, gO, gY, hlen, wrap_succ (show j < 9223372036854775807 by omega)]
          generalize y / B ^ j % B = yj at *
          have ol := limb_lt (s.1[i + j])
          have hns := nv_set s.1 (i + j) hij (BitVec.ofNat 32 ((xi * yj + (s.1[i + j]).toNat + s.2) % B))
          have hmd := Nat.mod_lt (xi * yj + (s.1[i + j]).toNat + s.2) B_pos
          rw [ofNat_lt hmd] at hns
          generalize hoo : (s.1[i + j]).toNat = o at *
          have hbd := mul_bound xl yl ol g2
          have hB := B_eq
          have t0 : IntKind.wrap .u64 (xi : Int) = (xi : Int) := wrapU64 (by omega) (by omega)
          have t0' : IntKind.wrap .u64 (yj : Int) = (yj : Int) := wrapU64 (by omega) (by omega)
          have t0'' : IntKind.wrap .u64 (o : Int) = (o : Int) := wrapU64 (by omega) (by omega)
          have t1 : IntKind.wrap .u64 ((xi : Int) * (yj : Int)) = ((xi * yj : Nat) : Int) := by rw [← Int.natCast_mul]; exact wrapU64 (by omega) (by omega)
          have t2 : IntKind.wrap .u64 (((xi * yj : Nat) : Int) + (o : Int)) = ((xi * yj + o : Nat) : Int) := by rw [wrapU64 (by omega) (by omega)]; omega
          have t3 : IntKind.wrap .u64 (((xi * yj + o : Nat) : Int) + (s.2 : Int)) = ((xi * yj + o + s.2 : Nat) : Int) := by rw [wrapU64 (by omega) (by omega)]; omega
          simp only [t0, t0', t0'', t1, t2, t3, fdiv32]
          have t4 : IntKind.wrap .u32 ((xi * yj + o + s.2 : Nat) : Int) = (((xi * yj + o + s.2) % B : Nat) : Int) := by rw [IntKind.wrap_u32, B_eq]; omega
          have hset : ((s.1 ++ List.replicate ((lb x).length - i) 0).map dB).set (i + j) (D.int (((xi * yj + o + s.2) % B : Nat) : Int)) = ((s.1.set (i + j) (BitVec.ofNat 32 ((xi * yj + o + s.2) % B))) ++ List.replicate ((lb x).length - i) 0).map dB := by
            rw [dB_ofNat hmd, map_set, List.set_append_left _ _ hij]
          rw [t4, hset]
          refine wp_dec (by omega) (wp_dec (by omega) (wp_dec (by omega) (wp_dec (by omega) (wp_dec (by omega) (wp_dec (by omega) (wp_dec (by omega) (wp_tt (by decide) ?_)))))))
          have hcl : (xi * yj + o + s.2) / 4294967296 < B := by rw [B_eq]; omega
          refine ih' (s.1.set (i + j) (BitVec.ofNat 32 ((xi * yj + o + s.2) % B)), (xi * yj + o + s.2) / 4294967296) ⟨by simp [g1], hcl, ?_⟩
          show nv (s.1.set (i + j) _) + B ^ (i + (j + 1)) * ((xi * yj + o + s.2) / B) = _
          have q1 : B ^ (i + (j + 1)) * ((xi * yj + o + s.2) / B) = B ^ (i + j) * (B * ((xi * yj + o + s.2) / B)) := by rw [← Nat.add_assoc, Nat.pow_succ, Nat.mul_assoc]
          have q2 : B ^ (i + j) * ((xi * yj + o + s.2) % B) + B ^ (i + j) * (B * ((xi * yj + o + s.2) / B)) = B ^ (i + j) * (xi * yj + o + s.2) := by rw [← Nat.mul_add, Nat.mod_add_div]
          have q3 : B ^ (i + j) * (xi * yj + o + s.2) = B ^ (i + j) * (xi * yj) + B ^ (i + j) * o + B ^ (i + j) * s.2 := by rw [Nat.mul_add, Nat.mul_add]
          have q4 : B ^ i * (xi * (y % B ^ (j + 1))) = B ^ i * (xi * (y % B ^ j)) + B ^ (i + j) * (xi * yj) := by
            rw [hys, Nat.mul_add, Nat.mul_add, Nat.pow_add, Nat.mul_left_comm xi, Nat.mul_assoc]
          rw [q1, q4]
          omega)
        100001 0 (lo, 0) (by omega) (by omega) ⟨h1, B_pos, by simp [Nat.mod_one]⟩
      exact key)
    100001 0 (List.replicate mm 0) (by omega) (by omega) ⟨by simp, by rw [nv_zeros]; simp [Nat.mod_one]⟩
  have e0 : (List.replicate mm (0 : Limb) ++ List.replicate ((lb x).length - 0) 0).map dB = List.replicate ((lb x).length + mm) (D.int 0) := by
    rw [List.replicate_append_replicate, List.map_replicate, show mm + ((lb x).length - 0) = (lb x).length + mm by omega]; rfl
  rw [e0] at key
  exact key
theorem lb_two (z : Nat) : (lb (2 * z)).length ≤ (lb z).length + 1 := by
  refine lb_len.2 ?_
  have h : z < B ^ (lb z).length := lb_len.1 (Nat.le_refl _)
  rw [Nat.pow_succ]
  generalize B ^ (lb z).length = q at *
  rw [B_eq]; omega
theorem ref02_Mul_sp (a b : List Limb) (ha : a.length ≤ 10000) (hb : b.length ≤ 10000) : Sp 162 [dL a, dL b] [dL (lb (nv a * nv b))] := by
  refine sound_ (32 * a.length + 1) (ref02_Mul_tree _ _ _) ?_
  simp only [dA_0, dA_1, dA_2, dC_0, dC_1, dC_2, dC_3, dC_4, dN_0, dN_1, dN_2, els_sl, els_dI, els_dL, List.length_map, Int.toNat_natCast, toInt_int, toInt_dB, toBool_bool, getD_c0, getD_c1, int_beq, int_bne, not_dec, dInt_dB, Int.toNat_zero]
  have key := loop_down (P := Try.prog) (md := md) (fun m k (out : Nat) => ref02_Mul_l3 (32 * a.length + 1) m (dL a) (dL b) (dL (lb out)) ((k : Int) - 1)) (fun _ _ => [dL (lb (nv a * nv b))]) (fun k out => k ≤ 32 * a.length ∧ out = nv a / 2 ^ k * nv b)
    (fun m out ⟨_, h⟩ => by
      simp only [ref02_Mul_l3_succ]
      refine wp_ndec (by omega) (wp_ret ?_)
      simp at h; rw [h])
    (fun m k out ⟨h0, h⟩ ih => by
      simp only [ref02_Mul_l3_succ, show ((k + 1 : Nat) : Int) - 1 = (k : Int) by omega]
      have hl1 : (lb out).length ≤ a.length + b.length := by
        rw [h]
        refine lb_len.2 ?_
        have h1 : nv a / 2 ^ (k + 1) * nv b ≤ nv a * nv b := Nat.mul_le_mul_right _ (Nat.div_le_self _ _)
        have h2 : nv a * nv b < B ^ a.length * B ^ b.length := Nat.mul_lt_mul'' (nv_lt a) (nv_lt b)
        rw [← Nat.pow_add] at h2
        exact Nat.lt_of_le_of_lt h1 h2
      have hbit : nv a / 2 ^ k = 2 * (nv a / 2 ^ (k + 1)) + nv a / 2 ^ k % 2 := by
        have := Nat.div_add_mod (nv a / 2 ^ k) 2
        rw [Nat.div_div_eq_div_mul, ← Nat.pow_succ] at this
        exact this.symm
      have tw := ref02_twice_sp (lb out) 0 (by omega) (by omega)
      rw [nv_lb, Nat.add_zero] at tw
      refine wp_dec (by omega) (wp_call tw (wp_call (ref02_Bit_sp a k (by omega)) ?_))
      simp only [getD_c0, toInt_int]
      rw [wrap64 (by omega) (by omega)]
      refine wp_decs (fun h1 => ?_) (fun h1 => ?_)
      · have ad := ref02_Add_sp (lb (2 * out)) b (by have := lb_two out; omega) (by omega)
        rw [nv_lb] at ad
        refine wp_call ad ?_
        refine ih (2 * out + nv b) ⟨by omega, ?_⟩
        rw [hbit, show nv a / 2 ^ k % 2 = 1 by omega, Nat.add_mul, Nat.one_mul, Nat.mul_assoc, ← h]
      · refine ih (2 * out) ⟨by omega, ?_⟩
        have h2 := Nat.mod_lt (nv a / 2 ^ k) (show 0 < 2 by decide)
        rw [hbit, show nv a / 2 ^ k % 2 = 0 by omega, Nat.add_zero, Nat.mul_assoc, ← h])
    (32 * a.length + 1) (32 * a.length) 0 (by omega) ⟨by omega, by
      rw [Nat.div_eq_of_lt (by rw [← B_two]; exact nv_lt a), Nat.zero_mul]⟩
  rw [lb_zero] at key
  have e1 : IntKind.wrap .i64 (IntKind.wrap .i64 (32 * (a.length : Int)) - 1) = ((32 * a.length : Nat) : Int) - 1 := by rw [wrap64 (x := 32 * (a.length : Int)) (by omega) (by omega), wrap64 (by omega) (by omega)]; omega
  rw [e1]
  exact key
theorem or_limb' {r d : Nat} (hr : r < 4294967296) (hd : d < 4294967296) : bits_ .or .u64 ((r * 4294967296 : Nat) : Int) (d : Int) = ((r * 4294967296 + d : Nat) : Int) := by
  have h := or_limb hd hr
  have hc : bits_ .or .u64 ((r * 4294967296 : Nat) : Int) (d : Int) = bits_ .or .u64 (d : Int) ((r * 4294967296 : Nat) : Int) := by unfold bits_; simp only; rw [BitVec.or_comm]
  rw [hc, h, Nat.add_comm]
theorem nat_shorten_ex (l : List Limb) (y : Nat) (hy : 0 < y) (hyB : y < B) (hl : l.length ≤ 1000000) : ∃ q : List Limb, q.length = l.length ∧ nv q = nv l / y ∧ Sp 190 [.sl (l.map dB), .int (y : Int)] [.int ((nv l % y : Nat) : Int), .sl (q.map dB)] := by
  have hq : ∃ q : List Limb, q.length = l.length ∧ nv q = nv l / y := by
    have h1 : nv l / y < B ^ l.length := Nat.lt_of_le_of_lt (Nat.div_le_self _ _) (nv_lt l)
    have h2 := lb_len.2 h1
    refine ⟨lb (nv l / y) ++ List.replicate (l.length - (lb (nv l / y)).length) 0, by simp; omega, ?_⟩
    rw [nv_append, nv_zeros, nv_lb]; simp
  obtain ⟨q0, hq1, hq2⟩ := hq
  refine ⟨q0, hq1, hq2, sound_ (l.length + 1) (nat_shorten_tree _ _ _) ?_⟩
  simp only [els_sl, toInt_int, List.length_map]
  have uniq : ∀ q : List Limb, q.length = l.length → nv q = nv l / y → q = q0 := by
    intro q h1 h2
    apply List.ext_getElem (by omega)
    intro i g1 g2
    apply BitVec.eq_of_toNat_eq
    rw [nv_limb q i g1, nv_limb q0 i g2, h2, hq2]
  have key := loop_down (P := Try.prog) (md := md) (fun m k (s : List Limb × Nat) => nat_shorten_l3 (l.length + 1) m ((l.take k ++ s.1).map dB) (y : Int) (s.2 : Int) ((k : Int) - 1)) (fun _ _ => [.int ((nv l % y : Nat) : Int), .sl (q0.map dB)])
    (fun k s => k ≤ l.length ∧ s.1.length = l.length - k ∧ nv s.1 = nv l / B ^ k / y ∧ s.2 = nv l / B ^ k % y)
    (fun m s ⟨h0, h1, h2, h3⟩ => by
      simp only [nat_shorten_l3_succ, List.take_zero, List.nil_append]
      refine wp_ndec (by omega) (wp_ret ?_)
      simp at h2 h3
      rw [uniq s.1 (by omega) h2, h3]
      have := Nat.mod_lt (nv l) hy
      rw [B_eq] at hyB
      rw [wrapU32 (by omega) (by omega)])
    (fun m k s ⟨h0, h1, h2, h3⟩ ih => by
      have hk : k < l.length := by omega
      have hlen : ((l.take (k + 1) ++ s.1).map dB).length = l.length := by simp; omega
      have gd := nv_limb l k hk
      have hget : ((l.take (k + 1) ++ s.1).map dB).getD k D.nil = D.int ((l[k]).toNat : Int) := by rw [getD_map (x := l[k]) (by rw [List.getElem?_append_left (by simp; omega), List.getElem?_take, if_pos (by omega), List.getElem?_eq_getElem hk])]; rfl
      have hs2 : s.2 < y := by rw [h3]; exact Nat.mod_lt _ hy
      have dl := limb_lt l[k]
      have hQ : nv l / B ^ k = B * (nv l / B ^ (k + 1)) + (l[k]).toNat := by
        rw [gd, Nat.pow_succ, ← Nat.div_div_eq_div_mul]; exact (Nat.div_add_mod _ _).symm
      generalize hdd : (l[k]).toNat = d at *
      have e1 := Nat.div_add_mod (nv l / B ^ (k + 1)) y
      rw [← h2, ← h3] at e1
      have hQ2 : nv l / B ^ k = y * (B * nv s.1) + (s.2 * B + d) := by
        rw [hQ, ← e1, Nat.mul_add, Nat.mul_left_comm, Nat.mul_comm B s.2]; omega
      have hd1 : nv l / B ^ k / y = B * nv s.1 + (s.2 * B + d) / y := by rw [hQ2, Nat.mul_add_div hy]
      have hd2 : nv l / B ^ k % y = (s.2 * B + d) % y := by rw [hQ2, Nat.mul_add_mod]
      have hlt : (s.2 * B + d) / y < B := by
        rw [Nat.div_lt_iff_lt_mul hy]
        have : (s.2 + 1) * B ≤ y * B := Nat.mul_le_mul_right _ hs2
        rw [Nat.add_mul, Nat.one_mul] at this
        rw [Nat.mul_comm B y]; omega
      rw [B_eq] at hyB dl hlt
      have b64 : (2 : Int) ^ (min (Int.toNat 32) (IntKind.bits .u64)) = 4294967296 := by decide
      have t1 : IntKind.wrap .u64 ((s.2 : Int) * 4294967296) = ((s.2 * 4294967296 : Nat) : Int) := by rw [wrapU64 (by omega) (by omega)]; omega
      have t2 : IntKind.wrap .u64 (d : Int) = (d : Int) := wrapU64 (by omega) (by omega)
      have t3 : IntKind.wrap .u64 (y : Int) = (y : Int) := wrapU64 (by omega) (by omega)
      have t4 : IntKind.wrap .u64 (Int.tdiv ((s.2 * 4294967296 + d : Nat) : Int) (y : Int)) = (((s.2 * 4294967296 + d) / y : Nat) : Int) := by
        rw [show Int.tdiv ((s.2 * 4294967296 + d : Nat) : Int) (y : Int) = (((s.2 * 4294967296 + d) / y : Nat) : Int) from rfl]
        generalize (s.2 * 4294967296 + d) / y = qq at hlt ⊢
        exact wrapU64 (by omega) (by omega)
      have t5 : Int.tmod ((s.2 * 4294967296 + d : Nat) : Int) (y : Int) = (((s.2 * 4294967296 + d) % y : Nat) : Int) := rfl
      have t6 : IntKind.wrap .u32 (((s.2 * 4294967296 + d) / y : Nat) : Int) = (((s.2 * 4294967296 + d) / y : Nat) : Int) := by
        generalize (s.2 * 4294967296 + d) / y = qq at hlt ⊢
        exact wrapU32 (by omega) (by omega)
      simp only [nat_shorten_l3_succ, show ((k + 1 : Nat) : Int) - 1 = (k : Int) by omega, Int.toNat_natCast, hget, hlen, toInt_int, b64, t1, t2, t3, or_limb' (show s.2 < 4294967296 by omega) dl, t4, t5, t6]
      have hset : ((l.take (k + 1) ++ s.1).map dB).set k (D.int (((s.2 * 4294967296 + d) / y : Nat) : Int)) = (l.take k ++ (BitVec.ofNat 32 ((s.2 * 4294967296 + d) / y) :: s.1)).map dB := by
        rw [dB_ofNat hlt, map_set, List.take_succ_eq_append_getElem hk, List.append_assoc, List.set_append_right _ _ (by rw [List.length_take]; omega), List.length_take, Nat.min_eq_left (by omega), Nat.sub_self]; rfl
      rw [hset, wrap64 (by omega) (by omega)]
      have hne : (!((y : Int) == 0)) = true := by simp; omega
      refine wp_dec (by omega) (wp_tt (by decide) (wp_dec (by omega) (wp_dec (by omega) (wp_tt hne (wp_dec (by omega) (wp_dec (by omega) (wp_tt hne ?_)))))))
      refine ih (BitVec.ofNat 32 ((s.2 * 4294967296 + d) / y) :: s.1, (s.2 * 4294967296 + d) % y) ⟨by omega, by simp; omega, ?_, hd2.symm⟩
      rw [nv, ofNat_lt hlt]
      show (s.2 * B + d) / y + B * nv s.1 = _
      rw [hd1, Nat.add_comm])
    (l.length + 1) l.length ([], 0) (by omega) ⟨by omega, by simp, by rw [Nat.div_eq_of_lt (nv_lt l)]; simp, by rw [Nat.div_eq_of_lt (nv_lt l)]; simp⟩
  rw [List.take_length, List.append_nil] at key
  rw [wrap64 (by omega) (by omega)]
  exact key
/-- What the long division has to tell. -/
def LongOk (x y : Nat) : Prop := 1 < (lb y).length → y ≤ x → Sp 191 [dL (lb x), dL (lb y)] [dL (lb (x / y)), dL (lb (x % y))]
theorem nat_DivMod_sp (a b : List Limb) (ha : a.length ≤ 100000) (hb : b.length ≤ 100000) (hL : LongOk (nv a) (nv b)) : Sp 187 [dL a, dL b] [dL (lb (nv a / nv b)), dL (lb (if nv b = 0 then 0 else nv a % nv b)), .bool (decide (nv b ≠ 0))] := by
  refine sound_ 0 (nat_DivMod_tree _ _ _) (wp_call (nat_trim_sp a (by omega)) (wp_call (nat_trim_sp b (by omega)) ?_))
  have la : (lb (nv a)).length ≤ a.length := lb_len.2 (nv_lt a)
  have lb_ : (lb (nv b)).length ≤ b.length := lb_len.2 (nv_lt b)
  simp only [getD_c0, els_dL, List.length_map, int_beq]
  refine wp_decs (fun h => wp_ret ?_) (fun h => ?_)
  · have h0 : nv b = 0 := lb_len0.1 (by omega)
    rw [h0, Nat.div_zero, if_pos rfl, lb_zero]; rfl
  have h0 : nv b ≠ 0 := fun hh => h (by rw [hh, lb_zero]; rfl)
  rw [if_neg h0, decide_eq_true h0]
  have cm := nat_Cmp_sp (lb (nv a)) (lb (nv b)) (by omega) (by omega)
  rw [nv_lb, nv_lb] at cm
  refine wp_call cm ?_
  simp only [getD_c0, toInt_int]
  refine wp_decs (fun h1 => ?_) (fun h1 => ?_)
  · have hlt : nv a < nv b := by
      unfold cmpN at h1
      rcases Nat.lt_or_ge (nv a) (nv b) with h2 | h2
      · exact h2
      · rw [if_neg (by omega)] at h1; split at h1 <;> omega
    have nm := nat_Norm_sp (lb (nv a)) (by omega)
    rw [nv_lb] at nm
    refine wp_call nm (wp_ret ?_)
    rw [Nat.div_eq_of_lt hlt, Nat.mod_eq_of_lt hlt, lb_zero]; rfl
  have hge : nv b ≤ nv a := by
    unfold cmpN at h1
    rcases Nat.lt_or_ge (nv a) (nv b) with h2 | h2
    · rw [if_pos h2] at h1; omega
    · exact h2
  refine wp_decs (fun h2 => ?_) (fun h2 => ?_)
  · obtain ⟨d, hd⟩ : ∃ d, lb (nv b) = [d] := by
      match hh : lb (nv b) with
      | [d] => exact ⟨d, rfl⟩
      | [] => rw [hh] at h2; simp at h2
      | _ :: _ :: _ => rw [hh] at h2; simp at h2; omega
    have hbv : nv b = d.toNat := by rw [← nv_lb (nv b), hd]; simp [nv]
    have nm := nat_Norm_sp (lb (nv a)) (by omega)
    rw [nv_lb] at nm
    refine wp_call nm ?_
    simp only [hd, List.map_cons, List.map_nil, List.length_cons, List.length_nil, Int.toNat_zero, getD_c0, els_dL, toInt_dB]
    rw [← hbv]
    have hdB : nv b < B := by rw [hbv]; exact limb_lt d
    obtain ⟨q, q1, q2, q3⟩ := nat_shorten_ex (lb (nv a)) (nv b) (by omega) hdB (by omega)
    rw [nv_lb] at q2 q3
    refine wp_dec (by omega) (wp_dec (by omega) (wp_call q3 ?_))
    have hr : nv a % nv b < B := Nat.lt_of_lt_of_le (Nat.mod_lt _ (by omega)) (by omega)
    simp only [getD_c0, getD_c1, els_sl, toInt_int]
    refine wp_call (nat_trim_sp q (by omega)) ?_
    rw [dB_ofNat hr]
    refine wp_call (nat_Norm_sp [BitVec.ofNat 32 (nv a % nv b)] (by simp)) (wp_ret ?_)
    have e : nv [BitVec.ofNat 32 (nv a % nv b)] = nv a % nv b := by simp only [nv]; rw [ofNat_lt hr]; omega
    rw [e, q2]; rfl
  · exact wp_call (hL (by omega) hge) (wp_ret rfl)
theorem longOk_one (x y : Nat) (h : y < B) : LongOk x y := fun h1 => by
  have : (lb y).length ≤ 1 := lb_len.2 (by simpa using h)
  omega
end Go.Proofs.Ytdkanalnpbllcaa
set_option maxRecDepth 100000
namespace Go.Proofs.Ytdkanalnpbllcaa

theorem zv_mk (b : Bool) (l : List Limb) : zv ⟨b, l⟩ = if b then -(nv l : Int) else (nv l : Int) := rfl
theorem sgn_cases (z : Int) : (sgnZ z = -1 ∧ z < 0) ∨ (sgnZ z = 0 ∧ z = 0) ∨ (sgnZ z = 1 ∧ 0 < z) := by
  unfold sgnZ
  by_cases h1 : z < 0
  · exact .inl ⟨if_pos h1, h1⟩
  · by_cases h2 : z = 0
    · exact .inr (.inl ⟨by rw [if_neg h1, if_pos h2], h2⟩)
    · exact .inr (.inr ⟨by rw [if_neg h1, if_neg h2], by omega⟩)
theorem whole_Sign_sp (a : Wh) (h : a.mag.length ≤ 1000000) : Sp 173 [dW a] [.int (sgnZ (zv a))] := by
  refine sound_ 0 (whole_Sign_tree _ _) ?_
  have cm := nat_Cmp_sp a.mag [] h (by simp)
  simp only [dW_0, dW_1, toBool_bool]
  refine wp_call cm ?_
  simp only [getD_c0, toInt_int, int_beq, nv_nil]
  unfold sgnZ zv cmpN
  refine wp_decs (fun h0 => wp_ret ?_) (fun h0 => wp_br (fun h1 => wp_ret ?_) (fun h1 => wp_ret ?_))
  · have : nv a.mag = 0 := by
      rw [if_neg (by omega)] at h0
      split at h0
      · assumption
      · omega
    rw [this]; cases a.neg <;> simp
  · have : nv a.mag ≠ 0 := fun hh => h0 (by rw [hh]; simp)
    rw [if_pos (by rw [if_pos h1]; omega)]
  · have : nv a.mag ≠ 0 := fun hh => h0 (by rw [hh]; simp)
    rw [if_neg (by rw [if_neg (by simp [h1])]; omega), if_neg (by rw [if_neg (by simp [h1])]; omega)]
theorem whole_Cmp_sp (a b : Wh) (ha : a.mag.length ≤ 1000000) (hb : b.mag.length ≤ 1000000) : Sp 143 [dW a, dW b] [.int (cmpZ (zv a) (zv b))] := by
  refine sound_ 0 (whole_Cmp_tree _ _ _) (wp_call (whole_Sign_sp a ha) (wp_call (whole_Sign_sp b hb) ?_))
  simp only [getD_c0, toInt_int, dW_1]
  have za := zv_abs a
  have zb := zv_abs b
  refine wp_decs (fun h => wp_ret ?_) (fun h => wp_decs (fun h' => wp_ret ?_) (fun h' => wp_decs (fun h2 => wp_call (nat_Cmp_sp b.mag a.mag hb ha) (wp_ret ?_)) (fun h2 => wp_call (nat_Cmp_sp a.mag b.mag ha hb) (wp_ret ?_))))
  · have : zv a < zv b := by rcases sgn_cases (zv a) with h1 | h1 | h1 <;> rcases sgn_cases (zv b) with h2 | h2 | h2 <;> omega
    rw [cmpZ, if_pos this]
  · have : zv b < zv a := by rcases sgn_cases (zv a) with h1 | h1 | h1 <;> rcases sgn_cases (zv b) with h2 | h2 | h2 <;> omega
    rw [cmpZ, if_neg (by omega), if_neg (by omega)]
  · have h3 : zv a < 0 ∧ zv b < 0 := by rcases sgn_cases (zv a) with h1 | h1 | h1 <;> rcases sgn_cases (zv b) with h2 | h2 | h2 <;> omega
    simp only [getD_c0, toInt_int]
    have : cmpN (nv b.mag) (nv a.mag) = cmpZ (zv a) (zv b) := by
      unfold cmpN cmpZ
      by_cases g1 : nv b.mag < nv a.mag
      · rw [if_pos g1, if_pos (show zv a < zv b by omega)]
      · rw [if_neg g1, if_neg (show ¬ zv a < zv b by omega)]
        by_cases g2 : nv b.mag = nv a.mag
        · rw [if_pos g2, if_pos (show zv a = zv b by omega)]
        · rw [if_neg g2, if_neg (show ¬ zv a = zv b by omega)]
    rw [this]
  · have h3 : 0 ≤ zv a ∧ 0 ≤ zv b := by rcases sgn_cases (zv a) with h1 | h1 | h1 <;> rcases sgn_cases (zv b) with h2 | h2 | h2 <;> omega
    simp only [getD_c0, toInt_int]
    have : cmpN (nv a.mag) (nv b.mag) = cmpZ (zv a) (zv b) := by
      unfold cmpN cmpZ
      by_cases g1 : nv a.mag < nv b.mag
      · rw [if_pos g1, if_pos (show zv a < zv b by omega)]
      · rw [if_neg g1, if_neg (show ¬ zv a < zv b by omega)]
        by_cases g2 : nv a.mag = nv b.mag
        · rw [if_pos g2, if_pos (show zv a = zv b by omega)]
        · rw [if_neg g2, if_neg (show ¬ zv a = zv b by omega)]
    rw [this]
theorem zv_flip (b : Wh) : zv ⟨!b.neg, b.mag⟩ = -zv b := by unfold zv; cases b.neg <;> simp
theorem zv_mul (a b : Wh) : (if (!(a.neg == b.neg)) = true then -((nv a.mag * nv b.mag : Nat) : Int) else ((nv a.mag * nv b.mag : Nat) : Int)) = zv a * zv b := by
  unfold zv; cases a.neg <;> cases b.neg <;> simp [Int.neg_mul, Int.mul_neg, Int.natCast_mul]
theorem whole_Mul_sp (a b : Wh) (ha : a.mag.length ≤ 100000) (hb : b.mag.length ≤ 100000) : Sp 145 [dW a, dW b] [dW (wz (zv a * zv b))] := by
  refine sound_ 0 (whole_Mul_tree _ _ _) ?_
  simp only [dW_0, dW_1, toBool_bool]
  refine wp_call (nat_Mul_sp a.mag b.mag ha hb) (wp_call (whole_signed_sp (!(a.neg == b.neg)) _) (wp_ret ?_))
  rw [zv_mul]; rfl
theorem ref03_Mul_sp (a b : Wh) (ha : a.mag.length ≤ 10000) (hb : b.mag.length ≤ 10000) : Sp 121 [dW a, dW b] [dW (wz (zv a * zv b))] := by
  have la : (lb (nv a.mag)).length ≤ a.mag.length := lb_len.2 (nv_lt _)
  have lb_ : (lb (nv b.mag)).length ≤ b.mag.length := lb_len.2 (nv_lt _)
  have ml := ref02_Mul_sp (lb (nv a.mag)) (lb (nv b.mag)) (by omega) (by omega)
  rw [nv_lb, nv_lb] at ml
  have hlen : (lb (nv a.mag * nv b.mag)).length ≤ a.mag.length + b.mag.length := lb_len.2 (by
    rw [Nat.pow_add]; exact Nat.mul_lt_mul'' (nv_lt _) (nv_lt _))
  refine sound_ 0 (ref03_Mul_tree _ _ _) (wp_call (ref03_Norm_sp a (by omega)) (wp_call (ref03_Norm_sp b (by omega)) ?_))
  simp only [dW_1]
  refine wp_call (ref02_Norm_sp a.mag (by omega)) (wp_call (ref02_Norm_sp b.mag (by omega)) (wp_call ml ?_))
  simp only [getD_c0, dW_0, toBool_bool]
  refine wp_call (ref03_Norm_sp ⟨!((wz (zv a)).neg == (wz (zv b)).neg), lb (nv a.mag * nv b.mag)⟩ (by show (lb _).length ≤ _; omega)) (wp_ret ?_)
  rw [getD_c0]
  congr 3
  have h1 : ∀ w : Wh, nv w.mag ≠ 0 → (wz (zv w)).neg = w.neg := fun w hw => by rw [wz_zv, if_neg hw]
  by_cases ha0 : nv a.mag = 0
  · have : zv a = 0 := by unfold zv; rw [ha0]; simp
    rw [this, Int.zero_mul, zv_lb, ha0, Nat.zero_mul]; simp
  · by_cases hb0 : nv b.mag = 0
    · have : zv b = 0 := by unfold zv; rw [hb0]; simp
      rw [this, Int.mul_zero, zv_lb, hb0, Nat.mul_zero]; simp
    · rw [h1 a ha0, h1 b hb0, zv_lb]
      exact zv_mul a b
/-- A quotient, rounded down, and the rest. -/
def dmZ (x y : Int) : Int × Int :=
  if (x < 0) = (y < 0) then (((x.natAbs / y.natAbs : Nat) : Int), if x < 0 then -((x.natAbs % y.natAbs : Nat) : Int) else ((x.natAbs % y.natAbs : Nat) : Int))
  else if x.natAbs % y.natAbs = 0 then (-((x.natAbs / y.natAbs : Nat) : Int), 0)
  else (-((x.natAbs / y.natAbs : Nat) : Int) - 1, (if x < 0 then -((x.natAbs % y.natAbs : Nat) : Int) else ((x.natAbs % y.natAbs : Nat) : Int)) + y)
def dmD (x y : Int) : List D := if y = 0 then [dW (wz 0), dW (wz 0), .bool false] else [dW (wz (dmZ x y).1), dW (wz (dmZ x y).2), .bool true]
theorem zv_neg {w : Wh} (h : nv w.mag ≠ 0) : (zv w < 0) ↔ w.neg = true := by unfold zv; cases w.neg <;> simp <;> omega
theorem zv_zero {w : Wh} : zv w = 0 ↔ nv w.mag = 0 := by unfold zv; cases w.neg <;> simp
theorem dmZ_neg {a b : Wh} (hb : nv b.mag ≠ 0) (hr : nv a.mag % nv b.mag ≠ 0) (hs : a.neg ≠ b.neg) : dmZ (zv a) (zv b) = ((if (!(a.neg == b.neg)) = true then -((nv a.mag / nv b.mag : Nat) : Int) else ((nv a.mag / nv b.mag : Nat) : Int)) - 1, (if a.neg = true then -((nv a.mag % nv b.mag : Nat) : Int) else ((nv a.mag % nv b.mag : Nat) : Int)) + zv b) := by
  have ha : nv a.mag ≠ 0 := fun h => hr (by rw [h]; simp)
  have h1 := zv_neg ha
  have h2 := zv_neg hb
  unfold dmZ
  rw [zv_abs, zv_abs, if_neg (by rw [eq_iff_iff, h1, h2]; cases ea : a.neg <;> cases eb : b.neg <;> simp [ea, eb] at hs ⊢), if_neg hr]
  have e1 : (!(a.neg == b.neg)) = true := by cases ea : a.neg <;> cases eb : b.neg <;> simp [ea, eb] at hs ⊢
  rw [if_pos e1]
  by_cases h : a.neg = true
  · rw [if_pos (h1.2 h), if_pos h]
  · rw [if_neg (fun hh => h (h1.1 hh)), if_neg h]
theorem dmZ_same {a b : Wh} (hb : nv b.mag ≠ 0) (hr : a.neg = b.neg ∨ nv a.mag % nv b.mag = 0) : dmZ (zv a) (zv b) = (if (!(a.neg == b.neg)) = true then -((nv a.mag / nv b.mag : Nat) : Int) else ((nv a.mag / nv b.mag : Nat) : Int), if a.neg = true then -((nv a.mag % nv b.mag : Nat) : Int) else ((nv a.mag % nv b.mag : Nat) : Int)) := by
  have h2 := zv_neg hb
  unfold dmZ
  rw [zv_abs, zv_abs]
  by_cases ha : nv a.mag = 0
  · have h0 : zv a = 0 := zv_zero.2 ha
    rw [h0, ha]
    simp
  · have h1 := zv_neg ha
    by_cases hs : a.neg = b.neg
    · rw [if_pos (by rw [eq_iff_iff, h1, h2, hs])]
      have e1 : (!(a.neg == b.neg)) = false := by rw [hs]; simp
      rw [e1]
      by_cases h : a.neg = true
      · rw [if_pos (h1.2 h), if_pos h]; simp
      · rw [if_neg (fun hh => h (h1.1 hh)), if_neg h]; simp
    · have h3 := hr.resolve_left hs
      rw [if_neg (by rw [eq_iff_iff, h1, h2]; cases ea : a.neg <;> cases eb : b.neg <;> simp [ea, eb] at hs ⊢), if_pos h3, h3]
      have e1 : (!(a.neg == b.neg)) = true := by cases ea : a.neg <;> cases eb : b.neg <;> simp [ea, eb] at hs ⊢
      rw [if_pos e1]
      cases a.neg <;> simp
theorem wz_len_le {n : Nat} {z : Int} (h : z.natAbs < B ^ n) : (wz z).mag.length ≤ n := lb_len.2 h
def lenZ (z : Int) : Nat := (lb z.natAbs).length
/-- A power by squares; an error. -/
def powR : Nat → Nat → Int → Int → Int × Int
  | 0, _, out, _ => (out, 0)
  | k + 1, n, out, base => if n = 0 then (out, 0) else if 32 < lenZ base then (0, 7) else
    if 32 < lenZ (if n % 2 = 1 then out * base else out) then (0, 7) else
    if n / 2 = 0 then (if n % 2 = 1 then out * base else out, 0) else powR k (n / 2) (if n % 2 = 1 then out * base else out) (base * base)
def powD (r : Int × Int) : List D := [dW (wz r.1), .int r.2]
theorem lenZ_mul (x y : Int) : lenZ (x * y) ≤ lenZ x + lenZ y := by
  unfold lenZ
  refine lb_len.2 ?_
  rw [Int.natAbs_mul, Nat.pow_add]
  exact Nat.mul_lt_mul'' (lb_len.1 (Nat.le_refl _)) (lb_len.1 (Nat.le_refl _))
theorem and_one (n : Nat) (h : n ≤ 9223372036854775807) : bits_ .and .i64 (n : Int) 1 = ((n % 2 : Nat) : Int) := by
  have b : IntKind.bits .i64 = 64 := rfl
  have h1 : n % 2 < 2 := Nat.mod_lt _ (by decide)
  have e : (BitVec.ofInt 64 (n : Int) &&& BitVec.ofInt 64 1).toNat = n % 2 := by
    rw [BitVec.ofInt_natCast, show BitVec.ofInt 64 1 = BitVec.ofNat 64 1 from rfl, BitVec.toNat_and, BitVec.toNat_ofNat, BitVec.toNat_ofNat, Nat.mod_eq_of_lt (show n < 2 ^ 64 by omega)]
    exact Nat.and_one_is_mod n
  show IntKind.wrap .i64 ((BitVec.ofInt 64 (n : Int) &&& BitVec.ofInt 64 1).toNat : Int) = _
  rw [e]
  exact wrap64 (x := ((n % 2 : Nat) : Int)) (by omega) (by omega)
theorem fdiv_two (n : Nat) : Int.fdiv (n : Int) (2 ^ (min (Int.toNat 1) (IntKind.bits .i64))) = ((n / 2 : Nat) : Int) := by
  rw [show (2 : Int) ^ (min (Int.toNat 1) (IntKind.bits .i64)) = 2 by decide, Int.fdiv_eq_ediv_of_nonneg _ (by omega)]; omega
def powZ (x n : Int) : Int × Int := if n < 0 then (0, 3) else powR 20 n.toNat 1 x
end Go.Proofs.Ytdkanalnpbllcaa
set_option maxRecDepth 100000
namespace Go.Proofs.Ytdkanalnpbllcaa

theorem inr (z : Int) (h1 : -100000 ≤ z := by decide) (h2 : z ≤ 100000 := by decide) : inR z := by unfold inR; omega
theorem lenZ_le {z : Int} {k : Nat} (h : z.natAbs < B ^ k) : lenZ z ≤ k := lb_len.2 h
theorem lenZ_lt (z : Int) : z.natAbs < B ^ lenZ z := lb_len.1 (Nat.le_refl _)
theorem lenZ_add (x y : Int) : lenZ (x + y) ≤ max (lenZ x) (lenZ y) + 1 := by
  refine lenZ_le ?_
  have h1 : x.natAbs < B ^ max (lenZ x) (lenZ y) := Nat.lt_of_lt_of_le (lenZ_lt x) (Nat.pow_le_pow_right B_pos (Nat.le_max_left _ _))
  have h2 : y.natAbs < B ^ max (lenZ x) (lenZ y) := Nat.lt_of_lt_of_le (lenZ_lt y) (Nat.pow_le_pow_right B_pos (Nat.le_max_right _ _))
  have h3 := Int.natAbs_add_le x y
  rw [Nat.pow_succ]
  generalize B ^ max (lenZ x) (lenZ y) = q at *
  rw [B_eq]; omega
theorem lenZ_neg (x : Int) : lenZ (-x) = lenZ x := by unfold lenZ; rw [Int.natAbs_neg]
theorem lenZ_zv (w : Wh) : lenZ (zv w) ≤ w.mag.length := wz_len w
theorem wzl (z : Int) : (wz z).mag.length = lenZ z := rfl
theorem powR_len : ∀ (k n : Nat) (out base : Int), lenZ out ≤ 100 → lenZ (powR k n out base).1 ≤ 100
  | 0, _, out, base, h => h
  | k + 1, n, out, base, h => by
    have z0 : lenZ 0 ≤ 100 := by unfold lenZ; rw [show Int.natAbs 0 = 0 from rfl, lb_zero]; simp
    rw [powR]
    generalize (if n % 2 = 1 then out * base else out) = o
    split
    · exact h
    split
    · exact z0
    split
    · exact z0
    rename_i h3
    split
    · show lenZ o ≤ 100; omega
    · exact powR_len k _ o _ (by omega)
theorem dmZ_spec (x y : Int) (hy : y ≠ 0) : (dmZ x y).1 * y + (dmZ x y).2 = x ∧ (dmZ x y).1.natAbs ≤ x.natAbs + 1 ∧ (dmZ x y).2.natAbs < y.natAbs ∧ (0 < y → 0 ≤ (dmZ x y).2) ∧ (y < 0 → (dmZ x y).2 ≤ 0) := by
  have hdm := Nat.div_add_mod x.natAbs y.natAbs
  have hml := Nat.mod_lt x.natAbs (show 0 < y.natAbs by omega)
  have hdl := Nat.div_le_self x.natAbs y.natAbs
  unfold dmZ
  generalize x.natAbs / y.natAbs = q at *
  generalize x.natAbs % y.natAbs = r at *
  generalize hX : x.natAbs = X at *
  generalize hY : y.natAbs = Y at *
  have hdm' : (Y : Int) * (q : Int) + (r : Int) = (X : Int) := by rw [← hdm]; simp
  by_cases hx0 : x < 0 <;> by_cases hy0 : y < 0
  · obtain rfl : x = -(X : Int) := by omega
    obtain rfl : y = -(Y : Int) := by omega
    simp only [hx0, hy0, if_true]
    refine ⟨by rw [Int.mul_neg, Int.mul_comm]; omega, by omega, by omega, fun h => by first | omega | exact False.elim h, fun h => by first | omega | exact False.elim h⟩
  · obtain rfl : x = -(X : Int) := by omega
    obtain rfl : y = (Y : Int) := by omega
    simp only [hx0, hy0, if_true]
    rw [if_neg (by simp)]
    split
    · rename_i h0
      subst h0
      refine ⟨by rw [Int.neg_mul, Int.mul_comm]; omega, by omega, by omega, fun h => by first | omega | exact False.elim h, fun h => by first | omega | exact False.elim h⟩
    · refine ⟨by rw [Int.sub_mul, Int.neg_mul, Int.mul_comm (q : Int)]; omega, by omega, by omega, fun h => by first | omega | exact False.elim h, fun h => by first | omega | exact False.elim h⟩
  · obtain rfl : x = (X : Int) := by omega
    obtain rfl : y = -(Y : Int) := by omega
    simp only [hx0, hy0, if_false]
    rw [if_neg (by simp)]
    split
    · rename_i h0
      subst h0
      refine ⟨by rw [Int.neg_mul_neg, Int.mul_comm]; omega, by omega, by omega, fun h => by first | omega | exact False.elim h, fun h => by first | omega | exact False.elim h⟩
    · refine ⟨by rw [Int.sub_mul, Int.neg_mul_neg, Int.mul_comm (q : Int)]; omega, by omega, by omega, fun h => by first | omega | exact False.elim h, fun h => by first | omega | exact False.elim h⟩
  · obtain rfl : x = (X : Int) := by omega
    obtain rfl : y = (Y : Int) := by omega
    simp only [hx0, hy0, if_false, if_true]
    refine ⟨by rw [Int.mul_comm]; omega, by omega, by omega, fun h => by first | omega | exact False.elim h, fun h => by first | omega | exact False.elim h⟩
theorem lenZ_dm (x y : Int) (hy : y ≠ 0) : lenZ (dmZ x y).1 ≤ lenZ x + 1 ∧ lenZ (dmZ x y).2 ≤ lenZ y := by
  obtain ⟨_, h1, h2, _⟩ := dmZ_spec x y hy
  have a := lenZ_lt x
  have b := lenZ_lt y
  refine ⟨lenZ_le ?_, lenZ_le (Nat.lt_trans h2 b)⟩
  rw [Nat.pow_succ]
  have := Bp (lenZ x)
  have hB := B_eq
  generalize B ^ lenZ x = P at *
  rw [hB]; omega
end Go.Proofs.Ytdkanalnpbllcaa
