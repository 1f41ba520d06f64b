/- Proved: lemmas for the law of this folder, part 5. No condition. -/
import Derived.Test.YtcdjifdllibolaaGreatRows
import Derived.WalkKit
import Derived.WalkSpells
import Derived.WalkLawsBesides
import Derived.Lib.Hide
import Derived.Laws.CopyOwn
import Derived.Deep.QuietTactic
import Derived.BigQuiet
import Derived.Orders
import Derived.Defers
import Derived.ProofKit
import Derived.OpenShut
import Derived.Recover
import Derived.Test.YtcdjifdllibolaaGreatProg
import Derived.KernelRfl
import Derived.Test.YtcdjifdllibolaaGreatZ84bfb4a6
set_option linter.unusedSimpArgs false
set_option linter.unusedVariables false
set_option maxRecDepth 100000
namespace Go.Proofs.YtcdjifdllibolaaGreat

def len8tab : ByteArray := (⟨#[0, 1, 2, 2, 3, 3, 3, 3, 4, 4, 4, 4, 4, 4, 4, 4, 5, 5, 5, 5, 5, 5, 5, 5, 5, 5, 5, 5, 5, 5, 5, 5, 6, 6, 6, 6, 6, 6, 6, 6, 6, 6, 6, 6, 6, 6, 6, 6, 6, 6, 6, 6, 6, 6, 6, 6, 6, 6, 6, 6, 6, 6, 6, 6, 7, 7, 7, 7, 7, 7, 7, 7, 7, 7, 7, 7, 7, 7, 7, 7, 7, 7, 7, 7, 7, 7, 7, 7, 7, 7, 7, 7, 7, 7, 7, 7, 7, 7, 7, 7, 7, 7, 7, 7, 7, 7, 7, 7, 7, 7, 7, 7, 7, 7, 7, 7, 7, 7, 7, 7, 7, 7, 7, 7, 7, 7, 7, 7, 8, 8, 8, 8, 8, 8, 8, 8, 8, 8, 8, 8, 8, 8, 8, 8, 8, 8, 8, 8, 8, 8, 8, 8, 8, 8, 8, 8, 8, 8, 8, 8, 8, 8, 8, 8, 8, 8, 8, 8, 8, 8, 8, 8, 8, 8, 8, 8, 8, 8, 8, 8, 8, 8, 8, 8, 8, 8, 8, 8, 8, 8, 8, 8, 8, 8, 8, 8, 8, 8, 8, 8, 8, 8, 8, 8, 8, 8, 8, 8, 8, 8, 8, 8, 8, 8, 8, 8, 8, 8, 8, 8, 8, 8, 8, 8, 8, 8, 8, 8, 8, 8, 8, 8, 8, 8, 8, 8, 8, 8, 8, 8, 8, 8, 8, 8, 8, 8, 8, 8, 8, 8, 8, 8, 8, 8, 8, 8]⟩ : ByteArray)
def len8 (i : Nat) : Nat := (len8tab.data.toList.getD i 0).toNat
theorem len8_ok : ((List.range 256).all fun i => decide (i < 2 ^ len8 i) && (i == 0 || decide (2 ^ len8 i ≤ 2 * i)) && decide (len8 i ≤ 8)) = true := by kernel_rfl
theorem len8_is {i : Nat} (h : i < 256) : i < 2 ^ len8 i ∧ (0 < i → 2 ^ len8 i ≤ 2 * i) ∧ len8 i ≤ 8 := by
  have := List.all_eq_true.1 len8_ok i (List.mem_range.2 h)
  simp only [Bool.and_eq_true, decide_eq_true_eq, Bool.or_eq_true, beq_iff_eq] at this
  exact ⟨this.1.1, fun h0 => by rcases this.1.2 with h | h <;> omega, this.2⟩
theorem wrapU8 {x : Int} (h1 : 0 ≤ x) (h2 : x < 256) : IntKind.wrap .u8 x = x := by rw [IntKind.wrap_u8]; omega
theorem fdivN (x y : Nat) : Int.fdiv (x : Int) (y : Int) = ((x / y : Nat) : Int) := by
  rw [Int.fdiv_eq_ediv_of_nonneg _ (Int.natCast_nonneg _)]; rfl
theorem bits_Len32_ex (x : Nat) (hx : x < B) : ∃ k : Nat, Sp 104 [.int (x : Int)] [.int (k : Int)] ∧ k ≤ 32 ∧ x < 2 ^ k ∧ (0 < x → 2 ^ k ≤ 2 * x) := by
  have e16 : (2 : Int) ^ (min (Int.toNat 16) (IntKind.bits .u32)) = ((65536 : Nat) : Int) := by decide
  have e8 : (2 : Int) ^ (min (Int.toNat 8) (IntKind.bits .u32)) = ((256 : Nat) : Int) := by decide
  have hsz : (len8tab.size : Int) = 256 := by have : len8tab.size = 256 := by kernel_rfl
                                              omega
  rw [B_eq] at hx
  have tr := bits_Len32_tree 0 (.int (x : Int))
  rw [show (⟨#[0, 1, 2, 2, 3, 3, 3, 3, 4, 4, 4, 4, 4, 4, 4, 4, 5, 5, 5, 5, 5, 5, 5, 5, 5, 5, 5, 5, 5, 5, 5, 5, 6, 6, 6, 6, 6, 6, 6, 6, 6, 6, 6, 6, 6, 6, 6, 6, 6, 6, 6, 6, 6, 6, 6, 6, 6, 6, 6, 6, 6, 6, 6, 6, 7, 7, 7, 7, 7, 7, 7, 7, 7, 7, 7, 7, 7, 7, 7, 7, 7, 7, 7, 7, 7, 7, 7, 7, 7, 7, 7, 7, 7, 7, 7, 7, 7, 7, 7, 7, 7, 7, 7, 7, 7, 7, 7, 7, 7, 7, 7, 7, 7, 7, 7, 7, 7, 7, 7, 7, 7, 7, 7, 7, 7, 7, 7, 7, 8, 8, 8, 8, 8, 8, 8, 8, 8, 8, 8, 8, 8, 8, 8, 8, 8, 8, 8, 8, 8, 8, 8, 8, 8, 8, 8, 8, 8, 8, 8, 8, 8, 8, 8, 8, 8, 8, 8, 8, 8, 8, 8, 8, 8, 8, 8, 8, 8, 8, 8, 8, 8, 8, 8, 8, 8, 8, 8, 8, 8, 8, 8, 8, 8, 8, 8, 8, 8, 8, 8, 8, 8, 8, 8, 8, 8, 8, 8, 8, 8, 8, 8, 8, 8, 8, 8, 8, 8, 8, 8, 8, 8, 8, 8, 8, 8, 8, 8, 8, 8, 8, 8, 8, 8, 8, 8, 8, 8, 8, 8, 8, 8, 8, 8, 8, 8, 8, 8, 8, 8, 8, 8, 8, 8, 8, 8, 8]⟩ : ByteArray) = len8tab from rfl] at tr
  simp only [toInt_int, e16, e8, fdivN, hsz] at tr
  have fin : ∀ i c : Nat, i < 256 → c ≤ 24 → IntKind.wrap .i64 ((c : Int) + IntKind.wrap .i64 (((len8tab.data.toList.getD (Int.toNat (IntKind.wrap .u8 (i : Int))) 0).toNat : Nat) : Int)) = ((c + len8 i : Nat) : Int) := by
    intro i c hi hc
    have h8 := (len8_is hi).2.2
    rw [wrapU8 (by omega) (by omega), Int.toNat_natCast]
    show IntKind.wrap .i64 ((c : Int) + IntKind.wrap .i64 ((len8 i : Nat) : Int)) = _
    rw [wrap64 (x := ((len8 i : Nat) : Int)) (by omega) (by omega), wrap64 (by omega) (by omega)]; omega
  have up : ∀ i c : Nat, i < 256 → 0 < i → i = x / 2 ^ c → x < 2 ^ (c + len8 i) ∧ 2 ^ (c + len8 i) ≤ 2 * x := by
    intro i c hi h0 he
    obtain ⟨h1, h2, _⟩ := len8_is hi
    have h3 := h2 h0
    rw [Nat.pow_add]
    have hp : 0 < 2 ^ c := Nat.pow_pos (by decide)
    constructor
    · have : x / 2 ^ c < 2 ^ len8 i := by omega
      rw [Nat.div_lt_iff_lt_mul hp] at this
      rwa [Nat.mul_comm]
    · have h4 : i * 2 ^ c ≤ x := by rw [he]; exact Nat.div_mul_le_self _ _
      calc 2 ^ c * 2 ^ len8 i ≤ 2 ^ c * (2 * i) := Nat.mul_le_mul_left _ h3
        _ = 2 * (i * 2 ^ c) := by rw [Nat.mul_left_comm, Nat.mul_comm (2 ^ c) i]
        _ ≤ 2 * x := Nat.mul_le_mul_left _ h4
  by_cases h1 : 65536 ≤ x
  · by_cases h2 : 256 ≤ x / 65536
    · have hi : x / 65536 / 256 < 256 := by omega
      obtain ⟨u1, u2⟩ := up _ 24 hi (by omega) (by rw [Nat.div_div_eq_div_mul])
      have f1 := fin _ 24 hi (by omega)
      refine ⟨24 + len8 (x / 65536 / 256), sound_ 0 tr ?_, by have := (len8_is hi).2.2; omega, u1, fun _ => u2⟩
      refine wp_dec (by omega) (wp_tt (by decide) (wp_dec (by omega) (wp_tt (by decide) (wp_dec (by rw [wrapU8 (by omega) (by omega)]; omega) (wp_dec (by rw [wrapU8 (by omega) (by omega)]; omega) (wp_ret ?_))))))
      rw [show IntKind.wrap .i64 (16 + 8) = ((24 : Nat) : Int) by decide, f1]
    · have hi : x / 65536 < 256 := by omega
      obtain ⟨u1, u2⟩ := up _ 16 hi (by omega) (by rfl)
      have f1 := fin _ 16 hi (by omega)
      refine ⟨16 + len8 (x / 65536), sound_ 0 tr ?_, by have := (len8_is hi).2.2; omega, u1, fun _ => u2⟩
      refine wp_dec (by omega) (wp_tt (by decide) (wp_ndec (by omega) (wp_dec (by rw [wrapU8 (by omega) (by omega)]; omega) (wp_dec (by rw [wrapU8 (by omega) (by omega)]; omega) (wp_ret ?_)))))
      rw [show (16 : Int) = ((16 : Nat) : Int) from rfl, f1]
  · by_cases h2 : 256 ≤ x
    · have hi : x / 256 < 256 := by omega
      obtain ⟨u1, u2⟩ := up _ 8 hi (by omega) (by rfl)
      have f1 := fin _ 8 hi (by omega)
      refine ⟨8 + len8 (x / 256), sound_ 0 tr ?_, by have := (len8_is hi).2.2; omega, u1, fun _ => u2⟩
      refine wp_ndec (by omega) (wp_dec (by omega) (wp_tt (by decide) (wp_dec (by rw [wrapU8 (by omega) (by omega)]; omega) (wp_dec (by rw [wrapU8 (by omega) (by omega)]; omega) (wp_ret ?_)))))
      rw [show IntKind.wrap .i64 (0 + 8) = ((8 : Nat) : Int) by decide, f1]
    · have hi : x < 256 := by omega
      have f1 := fin _ 0 hi (by omega)
      have h8 := len8_is hi
      refine ⟨0 + len8 x, sound_ 0 tr ?_, by omega, by rw [Nat.zero_add]; exact h8.1, fun h0 => by rw [Nat.zero_add]; exact h8.2.1 h0⟩
      refine wp_ndec (by omega) (wp_ndec (by omega) (wp_dec (by rw [wrapU8 (by omega) (by omega)]; omega) (wp_dec (by rw [wrapU8 (by omega) (by omega)]; omega) (wp_ret ?_))))
      rw [show (0 : Int) = ((0 : Nat) : Int) from rfl, f1]
/-- How far a limb is to be shifted. -/
theorem bits_Lz_ex (x : Nat) (hx : x < B) (h0 : 0 < x) : ∃ s : Nat, Sp 95 [.int (x : Int)] [.int (s : Int)] ∧ s < 32 ∧ x * 2 ^ s < B ∧ B ≤ 2 * (x * 2 ^ s) := by
  obtain ⟨k, h1, h2, h3, h4⟩ := bits_Len32_ex x hx
  have h5 := h4 h0
  have hk : 0 < k := by
    rcases Nat.eq_zero_or_pos k with e | e
    · subst e; simp at h3; omega
    · exact e
  have hb : B = 2 ^ k * 2 ^ (32 - k) := by rw [← Nat.pow_add, show k + (32 - k) = 32 by omega]; rfl
  have hp : 0 < 2 ^ (32 - k) := Nat.pow_pos (by decide)
  refine ⟨32 - k, sound_ 0 (bits_LeadingZeros32_tree _ _) (wp_call h1 (wp_ret ?_)), by omega, ?_, ?_⟩
  · simp only [getD_c0, toInt_int]
    rw [wrap64 (by omega) (by omega)]; congr 2; omega
  · rw [hb]; exact Nat.mul_lt_mul_of_pos_right h3 hp
  · rw [hb, ← Nat.mul_assoc]; exact Nat.mul_le_mul_right _ h5
theorem nv_inj {l m : List Limb} (hl : l.length = m.length) (h : nv l = nv m) : l = m := by
  apply List.ext_getElem hl
  intro i g1 g2
  apply BitVec.eq_of_toNat_eq
  rw [nv_limb l i g1, nv_limb m i g2, h]
/-- A number as so many limbs. -/
theorem nv_pad {v k : Nat} (h : v < B ^ k) : ∃ q : List Limb, q.length = k ∧ nv q = v := by
  have h2 := lb_len.2 h
  refine ⟨lb v ++ List.replicate (k - (lb v).length) 0, by simp; omega, ?_⟩
  rw [nv_append, nv_zeros, nv_lb]; simp
theorem or64 {X Y : Nat} (hX : X < 18446744073709551616) (hY : Y < 18446744073709551616) : bits_ .or .u64 (X : Int) (Y : Int) = ((X ||| Y : Nat) : Int) := by
  have h : bits_ .or .u64 (X : Int) (Y : Int) = bits .or .u64 (X : Int) (Y : Int) := by unfold bits_ bits; simp
  rw [h, u64_or_nat X Y hX hY]
theorem or_shl {x c s : Nat} (hx : x < B) (hs : s < 32) (hc : c < 2 ^ s) : bits_ .or .u64 ((x * 2 ^ s : Nat) : Int) (c : Int) = ((x * 2 ^ s + c : Nat) : Int) ∧ x * 2 ^ s + c < 9223372036854775808 := by
  have h2 : 2 ^ s ≤ 2 ^ 31 := Nat.pow_le_pow_right (by decide) (by omega)
  have h3 : x * 2 ^ s ≤ (B - 1) * 2 ^ 31 := Nat.mul_le_mul (by omega) h2
  rw [B_eq] at *
  refine ⟨?_, by omega⟩
  rw [or64 (by omega) (by omega)]
  congr 1
  have := Nat.shiftLeft_add_eq_or_of_lt (i := s) (b := c) hc x
  rw [Nat.shiftLeft_eq] at this
  exact this.symm
theorem pw_s {s : Nat} (hs : s < 32) : (2 : Int) ^ (min (Int.toNat (IntKind.wrap .u64 (s : Int))) (IntKind.bits .u64)) = ((2 ^ s : Nat) : Int) := by
  rw [wrapU64 (by omega) (by omega), Int.toNat_natCast, show IntKind.bits .u64 = 64 from rfl, Nat.min_eq_left (by omega)]; simp
theorem nat_up_ex (l : List Limb) (s : Nat) (hs : s < 32) (hl : l.length ≤ 1000000) : ∃ q : List Limb, q.length = l.length + 1 ∧ nv q = nv l * 2 ^ s ∧ Sp 96 [dL l, .int (s : Int)] [dL q] := by
  have hps : 2 ^ s ≤ 2 ^ 31 := Nat.pow_le_pow_right (by decide) (by omega)
  have hs0 : 0 < 2 ^ s := Nat.pow_pos (by decide)
  have hv : nv l * 2 ^ s < B ^ (l.length + 1) := by
    rw [Nat.pow_succ]
    exact Nat.mul_lt_mul'' (nv_lt l) (by rw [B_eq]; omega)
  obtain ⟨q, hq1, hq2⟩ := nv_pad hv
  refine ⟨q, hq1, hq2, sound_ (l.length + 2) (nat_up_tree _ _ _) ?_⟩
  simp only [dA_0, dA_1, dA_2, dC_0, dC_1, dC_2, dC_3, dC_4, dN_0, dN_1, dN_2, els_sl, els_dI, els_dL, List.length_map, Int.toNat_natCast, toInt_int, toInt_dB, toBool_bool, getD_c0, getD_c1, int_beq, int_bne, not_dec, dInt_dB, Int.toNat_zero]
  rw [wrap64 (by omega) (by omega)]
  refine wp_dec (by omega) (wp_dec (by omega) (wp_dec (by simp only [bigN]; omega) ?_))
  rw [show (l.length : Int) + 1 = ((l.length + 1 : Nat) : Int) by omega, Int.toNat_natCast]
  have key := loop_up (P := Tryz.prog) (md := md) l.length (fun m i (t : List Limb × Nat) => nat_up_l4 (l.length + 2) m (dL l) (s : Int) ((t.1 ++ List.replicate (l.length + 1 - i) 0).map dB) (t.2 : Int) (dL l) (l.length : Int) (i : Int)) (fun _ _ => [dL q])
    (fun i t => t.1.length = i ∧ t.2 < 2 ^ s ∧ nv t.1 + B ^ i * t.2 = (nv l % B ^ i) * 2 ^ s)
    (fun m t ⟨h1, h2, h3⟩ => by
      have hlen : (t.1 ++ List.replicate (l.length + 1 - l.length) (0 : Limb)).length = l.length + 1 := by simp [h1]
      have hc : t.2 < B := by rw [B_eq]; omega
      rw [Nat.mod_eq_of_lt (nv_lt l)] at h3
      simp only [nat_up_l4_succ, dA_0, dA_1, dA_2, dC_0, dC_1, dC_2, dC_3, dC_4, dN_0, dN_1, dN_2, els_sl, els_dI, els_dL, List.length_map, Int.toNat_natCast, toInt_int, toInt_dB, toBool_bool, getD_c0, getD_c1, int_beq, int_bne, not_dec, dInt_dB, Int.toNat_zero, hlen]
      rw [B_eq] at hc
      rw [wrapU32 (x := (t.2 : Int)) (by omega) (by omega)]
      rw [← B_eq] at hc
      refine wp_ndec (by omega) (wp_dec (by omega) (wp_dec (by omega) (wp_ret ?_)))
      rw [dB_ofNat hc, map_set, List.set_append_right _ _ (by omega), h1, Nat.sub_self, show l.length + 1 - l.length = 1 by omega]
      have : t.1 ++ [BitVec.ofNat 32 t.2] = q := nv_inj (by simp [h1, hq1]) (by rw [nv_snoc, h1, ofNat_lt hc, h3, hq2])
      rw [← this]; rfl)
    (fun m i t hi ⟨h1, h2, h3⟩ ih => by
      have gx := nv_limb l i hi
      have xl : nv l / B ^ i % B < B := Nat.mod_lt _ B_pos
      have hms : nv l % B ^ (i + 1) = nv l % B ^ i + B ^ i * (nv l / B ^ i % B) := Nat.mod_pow_succ
      have hlen : (t.1 ++ List.replicate (l.length + 1 - i) (0 : Limb)).length = l.length + 1 := by simp [h1]; omega
      have gX : (l.map dB).getD i D.nil = D.int ((nv l / B ^ i % B : Nat) : Int) := by rw [getD_map (List.getElem?_eq_getElem hi), ← gx]; rfl
      simp only [nat_up_l4_succ, dA_0, dA_1, dA_2, dC_0, dC_1, dC_2, dC_3, dC_4, dN_0, dN_1, dN_2, els_sl, els_dI, els_dL, List.length_map, Int.toNat_natCast, toInt_int, toInt_dB, toBool_bool, getD_c0, getD_c1, int_beq, int_bne, not_dec, dInt_dB, Int.toNat_zero, gX, hlen, pw_s hs, wrap_succ (show i < 9223372036854775807 by omega)]
      generalize nv l / B ^ i % B = x at *
      obtain ⟨ho, hT⟩ := or_shl xl hs h2
      have hxB := xl
      rw [B_eq] at hxB
      rw [wrapU64 (x := (x : Int)) (by omega) (by omega), ← Int.natCast_mul, wrapU64 (x := ((x * 2 ^ s : Nat) : Int)) (by omega) (by omega), ho]
      generalize hTT : x * 2 ^ s + t.2 = T at *
      have hTl := Nat.mod_lt T B_pos
      have t4 : IntKind.wrap .u32 (T : Int) = ((T % B : Nat) : Int) := by rw [IntKind.wrap_u32, B_eq]; omega
      have hset : ((t.1 ++ List.replicate (l.length + 1 - i) 0).map dB).set i (D.int ((T % B : Nat) : Int)) = ((t.1 ++ [BitVec.ofNat 32 (T % B)]) ++ List.replicate (l.length + 1 - (i + 1)) 0).map dB := by
        rw [dB_ofNat hTl, map_set, List.set_append_right _ _ (by omega), h1, Nat.sub_self, show l.length + 1 - i = (l.length + 1 - (i + 1)) + 1 by omega, List.replicate_succ, List.set_cons_zero]; simp
      rw [t4, hset, fdiv32]
      refine wp_dec (by omega) (wp_dec (by omega) (wp_dec (by omega) (wp_dec (by rw [wrapU64 (by omega) (by omega)]; omega) (wp_dec (by omega) (wp_dec (by omega) (wp_tt (by decide) ?_))))))
      refine ih (t.1 ++ [BitVec.ofNat 32 (T % B)], T / 4294967296) ⟨by simp [h1], ?_, ?_⟩
      · show T / B < 2 ^ s
        rw [Nat.div_lt_iff_lt_mul B_pos, ← hTT]
        have : x * 2 ^ s + 2 ^ s ≤ B * 2 ^ s := by rw [← Nat.succ_mul]; exact Nat.mul_le_mul_right _ xl
        rw [Nat.mul_comm (2 ^ s) B]; omega
      · show nv (t.1 ++ [BitVec.ofNat 32 (T % B)]) + B ^ (i + 1) * (T / B) = _
        rw [nv_snoc, h1, ofNat_lt hTl, hms, Nat.add_mul, ← h3, Nat.pow_succ, Nat.mul_assoc, Nat.mul_assoc (B ^ i) x, Nat.add_assoc, ← Nat.mul_add, Nat.mod_add_div, ← hTT, Nat.mul_add]
        omega)
    (l.length + 2) 0 ([], 0) (by omega) (by omega) ⟨rfl, hs0, by simp [Nat.mod_one, nv]⟩
  have e0 : (([] : List Limb) ++ List.replicate (l.length + 1 - 0) 0).map dB = List.replicate (l.length + 1) (D.int 0) := by simp [List.map_replicate]; rfl
  rw [e0] at key
  exact key
theorem down_limb (V s k : Nat) (hs : s < 32) : V / 2 ^ s / B ^ k % B = ((V / B ^ (k + 1) % B) * B + V / B ^ k % B) / 2 ^ s % B := by
  have hs0 : 0 < 2 ^ s := Nat.pow_pos (by decide)
  have hB : B = 2 ^ s * 2 ^ (32 - s) := by rw [← Nat.pow_add, show s + (32 - s) = 32 by omega]; rfl
  rw [Nat.div_div_eq_div_mul, Nat.mul_comm (2 ^ s), ← Nat.div_div_eq_div_mul, Nat.pow_succ, ← Nat.div_div_eq_div_mul]
  generalize V / B ^ k = W
  have h1 : W = (W / B % B * B + W % B) + 2 ^ s * (B * (2 ^ (32 - s) * (W / B / B))) := by
    have e1 := Nat.div_add_mod W B
    have e2 := Nat.div_add_mod (W / B) B
    have e3 : 2 ^ s * (B * (2 ^ (32 - s) * (W / B / B))) = B * (B * (W / B / B)) := by
      rw [Nat.mul_left_comm, ← Nat.mul_assoc (2 ^ s), ← hB]
    rw [e3, Nat.mul_comm (W / B % B) B]
    have e4 : B * (W / B) = B * (B * (W / B / B)) + B * (W / B % B) := by rw [← Nat.mul_add, e2]
    omega
  have h2 : W / 2 ^ s = (W / B % B * B + W % B) / 2 ^ s + B * (2 ^ (32 - s) * (W / B / B)) := by
    have : W / 2 ^ s = ((W / B % B * B + W % B) + 2 ^ s * (B * (2 ^ (32 - s) * (W / B / B)))) / 2 ^ s := by rw [← h1]
    rw [this, Nat.add_mul_div_left _ _ hs0]
  rw [h2, Nat.add_mul_mod_self_left]
theorem nat_down_sp (l : List Limb) (s : Nat) (hs : s < 32) (hl : l.length ≤ 1000000) : Sp 100 [dL l, .int (s : Int)] [dL (lb (nv l / 2 ^ s))] := by
  refine sound_ (l.length + 1) (nat_down_tree _ _ _) ?_
  simp only [dA_0, dA_1, dA_2, dC_0, dC_1, dC_2, dC_3, dC_4, dN_0, dN_1, dN_2, els_sl, els_dI, els_dL, List.length_map, Int.toNat_natCast, toInt_int, toInt_dB, toBool_bool, getD_c0, getD_c1, int_beq, int_bne, not_dec, dInt_dB, Int.toNat_zero]
  refine wp_dec (by omega) (wp_dec (by omega) (wp_dec (by simp only [bigN]; omega) ?_))
  have key := loop_down (P := Tryz.prog) (md := md) (fun m k (hi : List Limb) => nat_down_l4 (l.length + 1) m (dL l) (s : Int) ((List.replicate k 0 ++ hi).map dB) ((nv l / B ^ k % B : Nat) : Int) ((k : Int) - 1)) (fun _ _ => [dL (lb (nv l / 2 ^ s))])
    (fun k hi => k ≤ l.length ∧ hi.length = l.length - k ∧ nv hi = nv l / 2 ^ s / B ^ k)
    (fun m hi ⟨h0, h1, h2⟩ => by
      simp only [nat_down_l4_succ, List.replicate_zero, List.nil_append, dA_0, dA_1, dA_2, dC_0, dC_1, dC_2, dC_3, dC_4, dN_0, dN_1, dN_2, els_sl, els_dI, els_dL, List.length_map, Int.toNat_natCast, toInt_int, toInt_dB, toBool_bool, getD_c0, getD_c1, int_beq, int_bne, not_dec, dInt_dB, Int.toNat_zero]
      refine wp_ndec (by omega) (wp_call (nat_trim_sp hi (by omega)) (wp_ret ?_))
      rw [h2, Nat.pow_zero, Nat.div_one]; rfl)
    (fun m k hi ⟨h0, h1, h2⟩ ih => by
      have hk : k < l.length := by omega
      have gx := nv_limb l k hk
      have xl : nv l / B ^ k % B < B := Nat.mod_lt _ B_pos
      have yl : nv l / B ^ (k + 1) % B < B := Nat.mod_lt _ B_pos
      have hd := down_limb (nv l) s k hs
      have hlen : (List.replicate (k + 1) (0 : Limb) ++ hi).length = l.length := by simp [h1]; omega
      have gX : (l.map dB).getD k D.nil = D.int ((nv l / B ^ k % B : Nat) : Int) := by rw [getD_map (List.getElem?_eq_getElem hk), ← gx]; rfl
      have b64 : (2 : Int) ^ (min (Int.toNat 32) (IntKind.bits .u64)) = 4294967296 := by decide
      have rc := ih (BitVec.ofNat 32 (((nv l / B ^ (k + 1) % B) * B + nv l / B ^ k % B) / 2 ^ s % B) :: hi) ⟨by omega, by simp [h1]; omega, by
        rw [nv, ofNat_lt (Nat.mod_lt _ B_pos), h2, ← hd, Nat.pow_succ, ← Nat.div_div_eq_div_mul]
        exact Nat.mod_add_div _ _⟩
      simp only [nat_down_l4_succ, show ((k + 1 : Nat) : Int) - 1 = (k : Int) by omega, dA_0, dA_1, dA_2, dC_0, dC_1, dC_2, dC_3, dC_4, dN_0, dN_1, dN_2, els_sl, els_dI, els_dL, List.length_map, Int.toNat_natCast, toInt_int, toInt_dB, toBool_bool, getD_c0, getD_c1, int_beq, int_bne, not_dec, dInt_dB, Int.toNat_zero, gX, hlen, pw_s hs, b64]
      generalize nv l / B ^ k % B = x at *
      generalize nv l / B ^ (k + 1) % B = y at *
      have hxB := xl
      have hyB := yl
      rw [B_eq] at hxB hyB
      have t1 : IntKind.wrap .u64 ((y : Int) * 4294967296) = ((y * 4294967296 : Nat) : Int) := by rw [wrapU64 (by omega) (by omega)]; omega
      rw [t1, wrapU64 (x := (x : Int)) (by omega) (by omega), or_limb' hyB hxB, fdivN]
      have t4 : IntKind.wrap .u32 (((y * 4294967296 + x) / 2 ^ s : Nat) : Int) = (((y * B + x) / 2 ^ s % B : Nat) : Int) := by
        rw [show y * 4294967296 + x = y * B + x from rfl]
        generalize (y * B + x) / 2 ^ s = T
        rw [IntKind.wrap_u32, B_eq]; omega
      have hTl := Nat.mod_lt ((y * B + x) / 2 ^ s) B_pos
      have hset : ((List.replicate (k + 1) 0 ++ hi).map dB).set k (D.int (((y * B + x) / 2 ^ s % B : Nat) : Int)) = (List.replicate k 0 ++ (BitVec.ofNat 32 ((y * B + x) / 2 ^ s % B) :: hi)).map dB := by
        rw [dB_ofNat hTl, map_set, List.replicate_succ', List.append_assoc, List.set_append_right _ _ (by simp)]; simp
      rw [t4, hset, wrap64 (by omega) (by omega)]
      refine wp_dec (by omega) (wp_tt (by decide) (wp_dec (by omega) (wp_dec (by omega) (wp_dec (by rw [wrapU64 (by omega) (by omega)]; omega) (wp_dec (by omega) (wp_dec (by omega) (wp_dec (by omega) (wp_dec (by omega) ?_))))))))
      exact rc)
    (l.length + 1) l.length [] (by omega) ⟨by omega, by simp, by
      rw [Nat.div_eq_of_lt (Nat.lt_of_le_of_lt (Nat.div_le_self _ _) (nv_lt l))]; rfl⟩
  rw [List.append_nil, Nat.div_eq_of_lt (nv_lt l), Nat.zero_mod] at key
  have e0 : (List.replicate l.length (0 : Limb)).map dB = List.replicate l.length (D.int 0) := by rw [List.map_replicate]; rfl
  rw [e0] at key
  rw [wrap64 (by omega) (by omega)]
  exact key
theorem est_upper {U D D2 U3 p g : Nat} (hD : D < (D2 + 1) * p) (hU : U3 * p ≤ U) (hg : g * D2 ≤ U3) (hg1 : g ≤ D2 + 1) (hD0 : 0 < D) : g ≤ U / D + 1 := by
  rcases Nat.eq_zero_or_pos g with h0 | h0
  · rw [h0]; exact Nat.zero_le _
  obtain ⟨h, rfl⟩ : ∃ h, g = h + 1 := ⟨g - 1, by omega⟩
  refine Nat.succ_le_succ ((Nat.le_div_iff_mul_le hD0).2 ?_)
  have h1 : h * D ≤ h * ((D2 + 1) * p) := Nat.mul_le_mul_left _ (Nat.le_of_lt hD)
  have h2 : h * (D2 + 1) ≤ (h + 1) * D2 := by rw [Nat.mul_add, Nat.add_mul]; omega
  calc h * D ≤ h * ((D2 + 1) * p) := h1
    _ = h * (D2 + 1) * p := by rw [Nat.mul_assoc]
    _ ≤ (h + 1) * D2 * p := Nat.mul_le_mul_right _ h2
    _ ≤ U3 * p := Nat.mul_le_mul_right _ hg
    _ ≤ U := hU
theorem est_lower {U D D2 U3 p g : Nat} (hD : D2 * p ≤ D) (hU : U < (U3 + 1) * p) (hgt : U3 < g * D2) (hD0 : 0 < D) : U / D < g := by
  rw [Nat.div_lt_iff_lt_mul hD0]
  calc U < (U3 + 1) * p := hU
    _ ≤ g * D2 * p := Nat.mul_le_mul_right _ hgt
    _ = g * (D2 * p) := Nat.mul_assoc _ _ _
    _ ≤ g * D := Nat.mul_le_mul_left _ hD
/-- The guess is the quotient, or one more. -/
theorem nat_estimate_ex (xs ds : List Limb) (n : Nat) (hd : ds.length = n + 2) (hx : xs.length = n + 3) (hn : n ≤ 1000000) (htop : B ^ (n + 2) ≤ 2 * nv ds) (hU : nv xs < B * nv ds) :
    ∃ g : Nat, Sp 97 [dL xs, dL ds] [.int (g : Int)] ∧ nv xs / nv ds ≤ g ∧ g ≤ nv xs / nv ds + 1 ∧ g < B := by
  have xl := nv_lt xs
  have dl := nv_lt ds
  rw [hx] at xl
  rw [hd] at dl
  have hp := Bp n
  have a0 := nv_limb xs n (by omega)
  have a1 := nv_limb xs (n + 1) (by omega)
  have a2 := nv_limb xs (n + 2) (by omega)
  have d0 := nv_limb ds n (by omega)
  have d1 := nv_limb ds (n + 1) (by omega)
  have gx0 : (xs.map dB).getD n D.nil = D.int ((nv xs / B ^ n % B : Nat) : Int) := by rw [getD_map (List.getElem?_eq_getElem (show n < xs.length by omega)), ← a0]; rfl
  have gx1 : (xs.map dB).getD (n + 1) D.nil = D.int ((nv xs / B ^ (n + 1) % B : Nat) : Int) := by rw [getD_map (List.getElem?_eq_getElem (show n + 1 < xs.length by omega)), ← a1]; rfl
  have gx2 : (xs.map dB).getD (n + 2) D.nil = D.int ((nv xs / B ^ (n + 2) % B : Nat) : Int) := by rw [getD_map (List.getElem?_eq_getElem (show n + 2 < xs.length by omega)), ← a2]; rfl
  have gd0 : (ds.map dB).getD n D.nil = D.int ((nv ds / B ^ n % B : Nat) : Int) := by rw [getD_map (List.getElem?_eq_getElem (show n < ds.length by omega)), ← d0]; rfl
  have gd1 : (ds.map dB).getD (n + 1) D.nil = D.int ((nv ds / B ^ (n + 1) % B : Nat) : Int) := by rw [getD_map (List.getElem?_eq_getElem (show n + 1 < ds.length by omega)), ← d1]; rfl
  clear a0 a1 a2 d0 d1
  generalize nv xs = U at *
  generalize nv ds = D at *
  have eB2 : B ^ (n + 2) = B ^ n * (B * B) := by rw [Nat.pow_add]; rfl
  have eB3 : B ^ (n + 3) = B ^ n * (B * B * B) := by rw [Nat.pow_add]; rfl
  have e1U : U / B ^ (n + 1) = U / B ^ n / B := by rw [Nat.pow_succ, Nat.div_div_eq_div_mul]
  have e2U : U / B ^ (n + 2) = U / B ^ n / B / B := by rw [eB2, Nat.div_div_eq_div_mul, Nat.div_div_eq_div_mul]
  have e1D : D / B ^ (n + 1) = D / B ^ n / B := by rw [Nat.pow_succ, Nat.div_div_eq_div_mul]
  rw [e1U] at gx1
  rw [e2U] at gx2
  rw [e1D] at gd1
  have hD1 : D / B ^ n * B ^ n ≤ D := Nat.div_mul_le_self _ _
  have hD2 : D < (D / B ^ n + 1) * B ^ n := by have := Nat.lt_mul_div_succ D hp; rwa [Nat.mul_comm] at this
  have hU1 : U / B ^ n * B ^ n ≤ U := Nat.div_mul_le_self _ _
  have hU2 : U < (U / B ^ n + 1) * B ^ n := by have := Nat.lt_mul_div_succ U hp; rwa [Nat.mul_comm] at this
  have hU3 : U / B ^ n < B * B * B := by rw [Nat.div_lt_iff_lt_mul hp, Nat.mul_comm]; rwa [eB3] at xl
  have hDs : D / B ^ n < B * B := by rw [Nat.div_lt_iff_lt_mul hp, Nat.mul_comm]; rwa [eB2] at dl
  have hDt : B * B ≤ 2 * (D / B ^ n) + 1 := by
    have h1 : B ^ n * (B * B) < B ^ n * (2 * (D / B ^ n) + 2) := by
      rw [← eB2, Nat.mul_add]
      have : B ^ n * (2 * (D / B ^ n)) = 2 * (D / B ^ n * B ^ n) := by rw [Nat.mul_left_comm, Nat.mul_comm (B ^ n)]
      rw [this]
      have h3 : D < D / B ^ n * B ^ n + B ^ n := by rwa [Nat.add_mul, Nat.one_mul] at hD2
      omega
    have := Nat.lt_of_mul_lt_mul_left h1
    omega
  have hD0 : 0 < D := by
    rcases Nat.eq_zero_or_pos D with h | h
    · rw [h] at hU; omega
    · exact h
  have hUD : U / B ^ n < B * (D / B ^ n + 1) := by
    rw [Nat.div_lt_iff_lt_mul hp, Nat.mul_assoc]
    exact Nat.lt_trans hU (Nat.mul_lt_mul_of_pos_left hD2 B_pos)
  have hqB : U / D < B := by rw [Nat.div_lt_iff_lt_mul hD0]; exact hU
  generalize hU3e : U / B ^ n = U3 at *
  generalize hD2e : D / B ^ n = D2 at *
  have x0l := Nat.mod_lt U3 B_pos
  have x1l := Nat.mod_lt (U3 / B) B_pos
  have x2l : U3 / B / B < B := by rw [Nat.div_div_eq_div_mul, Nat.div_lt_iff_lt_mul (by decide)]; rwa [← Nat.mul_assoc]
  have y0l := Nat.mod_lt D2 B_pos
  have y1l : D2 / B < B := by rw [Nat.div_lt_iff_lt_mul B_pos]; exact hDs
  rw [Nat.mod_eq_of_lt x2l] at gx2
  rw [Nat.mod_eq_of_lt y1l] at gd1
  have eU : U3 = U3 % B + B * (U3 / B % B + B * (U3 / B / B)) := by
    rw [Nat.mod_add_div, Nat.mod_add_div]
  have eD : D2 = D2 % B + B * (D2 / B) := (Nat.mod_add_div _ _).symm
  generalize U3 % B = x0 at *
  generalize U3 / B % B = x1 at *
  generalize U3 / B / B = x2 at *
  generalize D2 % B = y0 at *
  generalize D2 / B = y1 at *
  have y1g : 2147483648 ≤ y1 := by rw [B_eq] at *; omega
  have x2y : x2 ≤ y1 := by rw [B_eq] at *; omega
  have fin : ∀ g : Nat, g < B → U / D ≤ g → g * D2 ≤ U3 → U / D ≤ g ∧ g ≤ U / D + 1 ∧ g < B := fun g h1 h2 h3 =>
    ⟨h2, est_upper hD2 hU1 h3 (by rw [B_eq] at *; omega) hD0, h1⟩
  have eH : U3 = (x2 * B + x1) * B + x0 := by rw [eU, Nat.add_mul, Nat.mul_add, Nat.mul_comm B (B * x2), Nat.mul_comm B x2, Nat.mul_comm B x1]; omega
  have b64 : (2 : Int) ^ (min (Int.toNat 32) (IntKind.bits .u64)) = 4294967296 := by decide
  have wy1 : IntKind.wrap .u64 (y1 : Int) = (y1 : Int) := by rw [B_eq] at *; exact wrapU64 (by omega) (by omega)
  have wy0 : IntKind.wrap .u64 (y0 : Int) = (y0 : Int) := by rw [B_eq] at *; exact wrapU64 (by omega) (by omega)
  have wx0 : IntKind.wrap .u64 (x0 : Int) = (x0 : Int) := by rw [B_eq] at *; exact wrapU64 (by omega) (by omega)
  have wx1 : IntKind.wrap .u64 (x1 : Int) = (x1 : Int) := by rw [B_eq] at *; exact wrapU64 (by omega) (by omega)
  have wx2 : IntKind.wrap .u64 (x2 : Int) = (x2 : Int) := by rw [B_eq] at *; exact wrapU64 (by omega) (by omega)
  have i1 : IntKind.wrap .i64 (((n + 2 : Nat) : Int) - 1) = ((n + 1 : Nat) : Int) := by rw [wrap64 (by omega) (by omega)]; omega
  have i2 : IntKind.wrap .i64 (((n + 2 : Nat) : Int) - 2) = ((n : Nat) : Int) := by rw [wrap64 (by omega) (by omega)]; omega
  have loop : ∀ (m N g r : Nat), g < m → g * y1 + r = x2 * B + x1 → U / D ≤ g → r < B →
      ∃ y : Nat, Tw (nat_estimate_l4 N m (dL xs) (dL ds) ((n + 2 : Nat) : Int) (g : Int) (r : Int)) [.int (y : Int)] ∧ U / D ≤ y ∧ y ≤ U / D + 1 ∧ y < B := by
    intro m
    induction m with
    | zero => intro N g r h; omega
    | succ m ih =>
      intro N g r hm he hq hr
      have gl : g < 18446744073709551616 := by
        have : g * 1 ≤ g * y1 := Nat.mul_le_mul_left _ (by omega)
        rw [B_eq] at *; omega
      have e1 : IntKind.wrap .u64 ((r : Int) + (y1 : Int)) = ((r + y1 : Nat) : Int) := by rw [B_eq] at *; rw [wrapU64 (by omega) (by omega)]; omega
      -- one step further
      have stp : 0 < g → U / D ≤ g - 1 → ∃ y : Nat, Tw (.br (decide (0 ≤ ((n + 1 : Nat) : Int))) (.br (decide (((n + 1 : Nat) : Int) < ((n + 2 : Nat) : Int))) (.br (decide ((0 : Int) ≤ 32)) (.br (decide (¬ (((r + y1) / 4294967296 : Nat) : Int) = 0)) (.ret [.int (IntKind.wrap .u64 ((g : Int) - 1))]) (nat_estimate_l4 N m (dL xs) (dL ds) ((n + 2 : Nat) : Int) (IntKind.wrap .u64 ((g : Int) - 1)) ((r + y1 : Nat) : Int))) .fail) .fail) .fail) [.int (y : Int)] ∧ U / D ≤ y ∧ y ≤ U / D + 1 ∧ y < B := by
        intro h0 hq'
        obtain ⟨h, rfl⟩ : ∃ h, g = h + 1 := ⟨g - 1, by omega⟩
        simp only [Nat.add_sub_cancel] at hq'
        have ew : IntKind.wrap .u64 (((h + 1 : Nat) : Int) - 1) = (h : Int) := by rw [wrapU64 (by omega) (by omega)]; omega
        rw [ew]
        have he' : h * y1 + (r + y1) = x2 * B + x1 := by rw [← he, Nat.add_mul]; omega
        by_cases hb : r + y1 < B
        · obtain ⟨y, t1, t2⟩ := ih N h (r + y1) (by omega) he' hq' hb
          refine ⟨y, wp_dec (by omega) (wp_dec (by omega) (wp_tt (by decide) (wp_ndec ?_ t1))), t2⟩
          rw [B_eq] at hb; omega
        · have hlt : h < B := by
            have h3 : x2 * B ≤ y1 * B := Nat.mul_le_mul_right _ x2y
            have h4 : h * y1 < B * y1 := by rw [Nat.mul_comm B y1]; omega
            exact Nat.lt_of_mul_lt_mul_right h4
          refine ⟨h, wp_dec (by omega) (wp_dec (by omega) (wp_tt (by decide) (wp_dec ?_ (wp_ret rfl)))), fin h hlt hq' ?_⟩
          · rw [B_eq] at hb; omega
          · have h5 : h * y0 ≤ B * B := Nat.mul_le_mul (by omega) (by omega)
            have h6 : B * B ≤ (r + y1) * B := Nat.mul_le_mul_right _ (by omega)
            rw [eH, ← he', eD, Nat.mul_add, Nat.add_mul, Nat.mul_left_comm h B y1, Nat.mul_comm B (h * y1)]
            omega
      simp only [nat_estimate_l4_succ, dA_0, dA_1, dA_2, dC_0, dC_1, dC_2, dC_3, dC_4, dN_0, dN_1, dN_2, els_sl, els_dI, els_dL, List.length_map, Int.toNat_natCast, toInt_int, toInt_dB, toBool_bool, getD_c0, getD_c1, int_beq, int_bne, not_dec, dInt_dB, Int.toNat_zero, hd, hx, i1, i2, gx0, gd0, gd1, wy1, wy0, wx0, e1, fdiv32]
      by_cases hgB : g < B
      · have c0 : ((g / 4294967296 : Nat) : Int) = 0 := by rw [B_eq] at hgB; omega
        have hrB := hr
        have x0B := x0l
        rw [B_eq] at hrB x0B
        have t1 : IntKind.wrap .u64 ((r : Int) * 4294967296) = ((r * 4294967296 : Nat) : Int) := by rw [wrapU64 (by omega) (by omega)]; omega
        have gy : g * y0 ≤ (B - 1) * (B - 1) := Nat.mul_le_mul (by omega) (by omega)
        have t2 : IntKind.wrap .u64 ((g : Int) * (y0 : Int)) = ((g * y0 : Nat) : Int) := by rw [← Int.natCast_mul]; rw [B_eq] at gy; exact wrapU64 (by omega) (by omega)
        rw [b64, t1, or_limb' hrB x0B, t2, c0]
        by_cases ht : r * B + x0 < g * y0
        · have hlow : U / D < g := est_lower hD1 hU2 (by
            rw [eH, ← he, eD, Nat.mul_add, Nat.add_mul, Nat.mul_left_comm g B y1, Nat.mul_comm B (g * y1)]; omega) hD0
          obtain ⟨y, s1, s2⟩ := stp (Nat.lt_of_le_of_lt (Nat.zero_le _) hlow) (Nat.le_sub_one_of_lt hlow)
          refine ⟨y, wp_tt (by decide) (wp_ndec (by omega) (wp_dec (by omega) (wp_dec (by omega) (wp_tt (by decide) (wp_dec (by omega) (wp_dec (by omega) (wp_dec ?_ s1))))))), s2⟩
          rw [B_eq] at ht; omega
        · refine ⟨g, wp_tt (by decide) (wp_ndec (by omega) (wp_dec (by omega) (wp_dec (by omega) (wp_tt (by decide) (wp_dec (by omega) (wp_dec (by omega) (wp_ndec ?_ (wp_ret rfl)))))))), fin g hgB hq ?_⟩
          · rw [B_eq] at ht; omega
          · rw [eH, ← he, eD, Nat.mul_add, Nat.add_mul, Nat.mul_left_comm g B y1, Nat.mul_comm B (g * y1)]; omega
      · obtain ⟨y, s1, s2⟩ := stp (by rw [B_eq] at hgB; omega) (by omega)
        refine ⟨y, wp_tt (by decide) (wp_dec ?_ s1), s2⟩
        rw [B_eq] at hgB; omega
  have hH : (x2 * B + x1) / y1 * y1 + (x2 * B + x1) % y1 = x2 * B + x1 := by rw [Nat.mul_comm]; exact Nat.div_add_mod _ _
  have hr0 : (x2 * B + x1) % y1 < B := Nat.lt_trans (Nat.mod_lt _ (by omega)) y1l
  have hq0 : U / D ≤ (x2 * B + x1) / y1 := by
    rw [Nat.le_div_iff_mul_le (by omega)]
    have h1 : U / D * D ≤ U := Nat.div_mul_le_self _ _
    have h2 : U / D * (D2 * B ^ n) < (U3 + 1) * B ^ n := Nat.lt_of_le_of_lt (Nat.le_trans (Nat.mul_le_mul_left _ hD1) h1) hU2
    rw [← Nat.mul_assoc] at h2
    have h3 := Nat.lt_of_mul_lt_mul_right h2
    have h4 : U / D * (B * y1) ≤ U / D * D2 := Nat.mul_le_mul_left _ (by omega)
    have h5 : U / D * y1 * B < (x2 * B + x1 + 1) * B := by
      have : U / D * (B * y1) = U / D * y1 * B := by rw [Nat.mul_comm B y1, Nat.mul_assoc]
      rw [← this, Nat.add_mul, Nat.one_mul]
      omega
    have := Nat.lt_of_mul_lt_mul_right h5
    omega
  obtain ⟨g, l1, l2⟩ := loop ((x2 * B + x1) / y1 + 1) ((x2 * B + x1) / y1 + 1) ((x2 * B + x1) / y1) ((x2 * B + x1) % y1) (by omega) hH hq0 hr0
  refine ⟨g, sound_ ((x2 * B + x1) / y1 + 1) (nat_estimate_tree _ _ _) ?_, l2⟩
  have x1B := x1l
  have x2B := x2l
  rw [B_eq] at x1B x2B
  have t1 : IntKind.wrap .u64 ((x2 : Int) * 4294967296) = ((x2 * 4294967296 : Nat) : Int) := by rw [wrapU64 (by omega) (by omega)]; omega
  have hne : decide ¬ (y1 : Int) = 0 = true := by simp; omega
  have eq1 : IntKind.wrap .u64 (Int.tdiv ((x2 * 4294967296 + x1 : Nat) : Int) (y1 : Int)) = (((x2 * B + x1) / y1 : Nat) : Int) := by
    rw [show Int.tdiv ((x2 * 4294967296 + x1 : Nat) : Int) (y1 : Int) = (((x2 * B + x1) / y1 : Nat) : Int) from rfl]
    have h1 : (x2 * B + x1) / y1 ≤ x2 * B + x1 := Nat.div_le_self _ _
    generalize (x2 * B + x1) / y1 = Q at h1 ⊢
    rw [B_eq] at h1
    exact wrapU64 (by omega) (by omega)
  have eq2 : Int.tmod ((x2 * 4294967296 + x1 : Nat) : Int) (y1 : Int) = (((x2 * B + x1) % y1 : Nat) : Int) := rfl
  simp only [dA_0, dA_1, dA_2, dC_0, dC_1, dC_2, dC_3, dC_4, dN_0, dN_1, dN_2, els_sl, els_dI, els_dL, List.length_map, Int.toNat_natCast, toInt_int, toInt_dB, toBool_bool, getD_c0, getD_c1, int_beq, int_bne, not_dec, dInt_dB, Int.toNat_zero, hd, hx, i1, gx1, gx2, gd1, wy1, wx1, wx2, b64, t1, or_limb' x2B x1B, eq1, eq2]
  exact wp_dec (by omega) (wp_dec (by omega) (wp_tt (by decide) (wp_dec (by omega) (wp_dec (by omega) (wp_dec (by omega) (wp_dec (by omega) (wp_dec (by omega) (wp_dec (by omega) (wp_dec (by omega) (wp_dec (by omega) l1))))))))))
end Go.Proofs.YtcdjifdllibolaaGreat

set_option maxRecDepth 100000
namespace Go.Proofs.YtcdjifdllibolaaGreat
open Go.RowKit

/-- Is there a borrow? -/
def bor (x y c : Int) : Int := if x < y + c then 1 else 0
theorem sub_bits (x y c : Int) (hx1 : 0 ≤ x) (hx2 : x < 4294967296) (hy1 : 0 ≤ y) (hy2 : y < 4294967296) (hc1 : 0 ≤ c) (hc2 : c ≤ 1) :
    bits BinOp.or IntKind.u32 (bits BinOp.and IntKind.u32 (bits BinOp.xor IntKind.u32 IntKind.u32.max x) y) (bits BinOp.and IntKind.u32 (bits BinOp.xor IntKind.u32 IntKind.u32.max (bits BinOp.xor IntKind.u32 x y)) ((x - y - c) % 4294967296)) / 2147483648 = bor x y c := by
  obtain ⟨X, rfl⟩ := Int.eq_ofNat_of_zero_le hx1
  obtain ⟨Y, rfl⟩ := Int.eq_ofNat_of_zero_le hy1
  obtain ⟨C, rfl⟩ := Int.eq_ofNat_of_zero_le hc1
  have hD0 : 0 ≤ ((X : Int) - Y - C) % 4294967296 := by omega
  obtain ⟨D, hD⟩ := Int.eq_ofNat_of_zero_le hD0
  have hm : IntKind.u32.max = ((4294967295 : Nat) : Int) := by decide
  have e1 : (4294967295 ^^^ X) < 2 ^ 32 := Nat.xor_lt_two_pow (by omega) (by omega)
  have e2 : (X ^^^ Y) < 2 ^ 32 := Nat.xor_lt_two_pow (by omega) (by omega)
  have e3 : (4294967295 ^^^ (X ^^^ Y)) < 2 ^ 32 := Nat.xor_lt_two_pow (by omega) e2
  have e4 : ((4294967295 ^^^ X) &&& Y) < 2 ^ 32 := Nat.and_lt_two_pow _ (by omega)
  have e5 : ((4294967295 ^^^ (X ^^^ Y)) &&& D) < 2 ^ 32 := Nat.and_lt_two_pow _ (by omega)
  rw [hD, hm, u32_xor_nat 4294967295 X (by omega) (by omega), u32_xor_nat X Y (by omega) (by omega), u32_xor_nat 4294967295 _ (by omega) (by omega), u32_and_nat _ Y (by omega) (by omega), u32_and_nat _ D (by omega) (by omega), u32_or_nat _ _ (by omega) (by omega)]
  have := sub_nat X Y D C (by omega) (by omega) (by omega) (by rw [← hD])
  rw [this]; unfold bor
  by_cases h : X < Y + C
  · rw [if_pos h, if_pos (by omega)]
  · rw [if_neg h, if_neg (by omega)]
set_option maxHeartbeats 400000 in
theorem add32_any (x y c : Int) (w : World) (hx : 0 ≤ x ∧ x < 4294967296) (hy : 0 ≤ y ∧ y < 4294967296) (hc : 0 ≤ c ∧ c ≤ 1) :
    Calls Tryz.prog 106 #[.int .u32 x, .int .u32 y, .int .u32 c] w fun e w' => e = .returned (.tuple #[.int .u32 ((x + y + c) % 4294967296), .int .u32 ((x + y + c) / 4294967296)]) ∧ w = w' := by
  obtain ⟨hx1, hx2⟩ := hx
  obtain ⟨hy1, hy2⟩ := hy
  obtain ⟨hc1, hc2⟩ := hc
  go_enter Tryz.func106, Tryz.ntmps106
  go_wp2
  go_ret2
  exact ⟨rfl, rfl⟩
set_option maxHeartbeats 400000 in
theorem sub32_any (x y c : Int) (w : World) (hx : 0 ≤ x ∧ x < 4294967296) (hy : 0 ≤ y ∧ y < 4294967296) (hc : 0 ≤ c ∧ c ≤ 1) :
    Calls Tryz.prog 105 #[.int .u32 x, .int .u32 y, .int .u32 c] w fun e w' => e = .returned (.tuple #[.int .u32 ((x - y - c) % 4294967296), .int .u32 (bor x y c)]) ∧ w = w' := by
  obtain ⟨hx1, hx2⟩ := hx
  obtain ⟨hy1, hy2⟩ := hy
  obtain ⟨hc1, hc2⟩ := hc
  go_enter Tryz.func105, Tryz.ntmps105
  go_wp2
  go_ret2
  exact ⟨by rw [← sub_bits x y c hx1 hx2 hy1 hy2 hc1 hc2]; rfl, rfl⟩

def iB (b : Limb) : Int := (b.toNat : Int)
/-- A slice value reads as limbs. -/
def SlL (w : World) (v : Value) (l : List Limb) : Prop := SlI w v .u32 (l.map iB)
/-- A row of limbs of the call's own. -/
def OwL (w0 w : World) (G cap : Nat) (l : List Limb) : Prop := Own w0 w 41 1 l.length (.slice (some ⟨G, 0, none⟩) l.length cap) ((l.map iB).map (.int .u32))
theorem OwL.cell {w0 w : World} {G cap : Nat} {l : List Limb} (h : OwL w0 w G cap l) (i : Nat) (hi : i < l.length) : w.cell? ⟨G, i, none⟩ = some (.int .u32 ((l[i]).toNat : Int)) ∧ w.frozen? ⟨G, i, none⟩ = false ∧ w0.heap.size ≤ G ∧ G < w.heap.size := by
  obtain ⟨g, cap', hv, h1, h2, h3, h4, h5, h6⟩ := h.at_ (by omega)
  injection hv with hA _ hc
  cases hA
  exact ⟨h4 i _ (by simp [hi, iB]), h5 i, h1, h2⟩
theorem OwL.set {w0 w : World} {G cap : Nat} {l : List Limb} (h : OwL w0 w G cap l) (i : Nat) (hi : i < l.length) (x : Limb) : OwL w0 (w.setCell ⟨G, i, none⟩ (.int .u32 (x.toNat : Int))) G cap (l.set i x) := by
  obtain ⟨g, cap', hv, h1, h2, h3, h4, h5, h6⟩ := h.at_ (by omega)
  injection hv with hA _ hc
  cases hA
  have := h6 i (.int .u32 (x.toNat : Int))
  unfold OwL
  rw [List.length_set, List.map_set, List.map_set]
  exact this
theorem grown_refl (w : World) (G : Nat) : w.grownBy w (some G) := World.grownBy.refl w _

/-- What is told: the window is less so many times the divisor; was it too much? -/
def RetTO (w0 w : World) (lo xs hi ds : List Limb) (G cap g : Nat) (e : Ending) (w' : World) : Prop :=
  ∃ (out : List Limb) (b : Nat), b ≤ 1 ∧ e = .returned (.bool (!(b == 0))) ∧ out.length = xs.length ∧ nv out + g * nv ds = nv xs + B ^ xs.length * b ∧ OwL w0 w' G cap (lo ++ out ++ hi) ∧ w.grownBy w' (some G)
theorem win_set {lo out xs hi : List Limb} {i : Nat} (h : out.length = i) (hi' : i < xs.length) (x : Limb) : (lo ++ (out ++ xs.drop i) ++ hi).set (lo.length + i) x = lo ++ ((out ++ [x]) ++ xs.drop (i + 1)) ++ hi := by
  rw [List.append_assoc, List.set_append_right _ _ (by omega), Nat.add_sub_cancel_left, List.set_append_left _ _ (by simp; omega), List.set_append_right _ _ (by omega), h, Nat.sub_self, List.drop_eq_getElem_cons hi', List.set_cons_zero]
  simp
theorem win_get {lo out xs hi : List Limb} {i : Nat} (h : out.length = i) (hi' : i < xs.length) (hk : lo.length + i < (lo ++ (out ++ xs.drop i) ++ hi).length) : (lo ++ (out ++ xs.drop i) ++ hi)[lo.length + i] = xs[i] := by
  have : (lo ++ (out ++ xs.drop i) ++ hi)[lo.length + i]? = some xs[i] := by
    rw [List.append_assoc, List.getElem?_append_right (by omega), Nat.add_sub_cancel_left, List.getElem?_append_left (by simp; omega), List.getElem?_append_right (by omega), h, Nat.sub_self]
    simp [hi']
  rw [List.getElem?_eq_getElem hk] at this
  exact Option.some.inj this
theorem nv_take_succ (l : List Limb) (i : Nat) (hi : i < l.length) : nv (l.take (i + 1)) = nv (l.take i) + B ^ i * (l[i]).toNat := by
  rw [List.take_succ_eq_append_getElem hi, nv_snoc, List.length_take, Nat.min_eq_left (by omega)]
/-- One limb of a difference. -/
theorem to_step {O g D U P c b x t X z b' : Nat} (h : O + g * D = U + P * (c + b)) (ht : t = g * x + c) (hz : X + B * b' = z + t % B + b) : (O + P * z) + g * (D + P * x) = (U + P * X) + P * B * (t / B + b') := by
  have e1 : P * (X + B * b') = P * (z + t % B + b) := by rw [hz]
  have e2 : t % B + B * (t / B) = t := Nat.mod_add_div _ _
  have e3 : P * (t % B + B * (t / B)) = P * (g * x + c) := by rw [e2, ht]
  have e4 : g * (P * x) = P * (g * x) := Nat.mul_left_comm _ _ _
  simp only [Nat.mul_add, Nat.mul_assoc] at *
  omega
theorem bor_is {X t b : Nat} (hX : X < B) (hb : b ≤ 1) : ∃ z b' : Nat, z < B ∧ b' ≤ 1 ∧ X + B * b' = z + t % B + b ∧ (((X : Int) - ((t % B : Nat) : Int) - (b : Int)) % 4294967296 = (z : Int)) ∧ bor (X : Int) ((t % B : Nat) : Int) (b : Int) = (b' : Int) := by
  have := Nat.mod_lt t B_pos
  generalize t % B = s at *
  rw [B_eq] at *
  by_cases h : X < s + b
  · exact ⟨X + 4294967296 - s - b, 1, by omega, by omega, by omega, by omega, by unfold bor; rw [if_pos (by omega)]; rfl⟩
  · exact ⟨X - s - b, 0, by omega, by omega, by omega, by omega, by unfold bor; rw [if_neg (by omega)]; rfl⟩

set_option maxHeartbeats 2000000 in
theorem takeOff_any (w0 w : World) (lo xs hi ds : List Limb) (G cap c' g : Nat) (v : Value) (hxs : xs.length = ds.length + 1) (hlen : (lo ++ xs ++ hi).length ≤ 1000000000) (hc' : xs.length ≤ c') (hown : OwL w0 w G cap (lo ++ xs ++ hi)) (hds : ∀ w', w.grownBy w' (some G) → SlL w' v ds) (hg : g < B) :
    Calls Tryz.prog 98 #[.slice (some ⟨G, lo.length, none⟩) xs.length c', v, .int .u64 g] w (RetTO w0 w lo xs hi ds G cap g) := by
  obtain ⟨A, cd, rfl, hcd, _⟩ := (hds w (grown_refl w G)).form
  have hll : lo.length + xs.length + hi.length ≤ 1000000000 := by have := hlen; simp at this; omega
  rw [List.length_map] at hds hcd ⊢
  have HO := Lib.hid hown
  have HD := Lib.hid hds
  have HG := Lib.hid hg
  rw [B_eq] at hg
  clear hown hds hlen
  generalize hn : ds.length = n at *
  rw [hxs]
  go_enter Tryz.func98, Tryz.ntmps98
  go_wp2_with fail
  go_loopw [7, 8, 15] (fun cv bv iv wr => ∃ (k c b : Nat) (out : List Limb), k ≤ n ∧ iv = .int .i64 k ∧ cv = .int .u64 c ∧ bv = .int .u32 b ∧ out.length = k ∧ c < B ∧ b ≤ 1 ∧ nv out + g * nv (ds.take k) = nv (xs.take k) + B ^ k * (c + b) ∧ OwL w0 wr G cap (lo ++ (out ++ xs.drop k) ++ hi) ∧ w.grownBy wr (some G)) (fun _ _ iv _ => n - (intOf iv).toNat)
  case atStart => exact ⟨0, 0, 0, [], Nat.zero_le _, rfl, rfl, rfl, rfl, B_pos, by omega, by simp [nv], by simpa using HO.out, grown_refl w G⟩
  case round =>
    obtain ⟨k, c, b, out, hk, rfl, rfl, rfl, ho, hc, hb, heq, hown, hgr⟩ := hrel
    have HQ := Lib.hid heq
    have HOW := Lib.hid hown
    have HGR := Lib.hid hgr
    have HC := Lib.hid hc
    rw [B_eq] at hc
    clear heq hown hgr
    by_cases hlt : k < n
    · have hkx : k < xs.length := by omega
      have hkl : lo.length + k < (lo ++ (out ++ xs.drop k) ++ hi).length := by simp; omega
      obtain ⟨hcell, hfk, hG1, hG2⟩ := HOW.out.cell (lo.length + k) hkl
      rw [win_get ho hkx hkl] at hcell
      obtain ⟨_, _, hvq, _, hclq⟩ := (HD.out wr HGR.out).form
      injection hvq with hvq1 hvq2 hvq3
      subst hvq1
      subst hvq3
      clear hvq2
      obtain ⟨ad, rfl, hb1, hce⟩ := hclq k (by simp; omega)
      have hkd : k < ds.length := by omega
      have hdk : ((ds.map iB)[k]'(by simp; omega)) = ((ds[k]).toNat : Int) := by simp [iB]
      rw [hdk] at hce
      have xB := limb_lt xs[k]
      have dB_ := limb_lt ds[k]
      have st := fun (z : Limb) => HOW.out.set (lo.length + k) hkl z
      have ws := fun (z : Limb) => win_set (lo := lo) (hi := hi) ho hkx z
      have ht1 := nv_take_succ ds k hkd
      have ht2 := nv_take_succ xs k hkx
      generalize (xs[k]).toNat = X at *
      generalize (ds[k]).toNat = Y at *
      have hgy : g * Y ≤ (B - 1) * (B - 1) := Nat.mul_le_mul (by rw [B_eq]; omega) (by omega)
      obtain ⟨z, b', hz, hb', hzz, hm, hbr⟩ := bor_is (t := g * Y + c) xB hb
      have HST := Lib.hid (to_step HQ.out rfl hzz)
      have HS := Lib.hid (st (BitVec.ofNat 32 z))
      have HW := Lib.hid (ws (BitVec.ofNat 32 z))
      have HT1 := Lib.hid ht1
      have HT2 := Lib.hid ht2
      have HZ := Lib.hid hz
      have htB : (g * Y + c) / B < B := by rw [Nat.div_lt_iff_lt_mul B_pos, B_eq] at *; omega
      have HTB := Lib.hid htB
      rw [B_eq] at hgy xB dB_ hz htB
      have hp1 : 0 ≤ (g : Int) * (Y : Int) := by rw [← Int.natCast_mul]; exact Int.natCast_nonneg _
      have hp2 : (g : Int) * (Y : Int) ≤ 18446744065119617025 := by rw [← Int.natCast_mul]; omega
      have ec : (((g * Y + c) % B : Nat) : Int) = ((g : Int) * (Y : Int) + (c : Int)) % 4294967296 := by rw [Int.natCast_emod, Int.natCast_add, Int.natCast_mul]; rfl
      rw [ec] at hm hbr
      have HM := Lib.hid hm
      have HB := Lib.hid hbr
      clear hclq hdk st ws ht1 ht2 hzz htB hgy ec hm hbr
      go_wp2_with (go_at_call 105; refine (sub32_any (X : Int) (((g : Int) * (Y : Int) + (c : Int)) % 4294967296) (b : Int) _ ⟨by omega, by omega⟩ ⟨by omega, by omega⟩ ⟨by omega, by omega⟩).mono ?_; rw [HM.out, HB.out]; rintro e w' ⟨rfl, rfl⟩)
      go_roundw
      case rel =>
        have hs := HS.out
        rw [HW.out, ofNat_lt HZ.out] at hs
        refine ⟨k + 1, (g * Y + c) / B, b', out ++ [BitVec.ofNat 32 z], by omega, by go_num, ?_, rfl, by simp [ho], HTB.out, hb', ?_, hs, grown_set HGR.out _ _ _⟩
        · congr 1
        · rw [nv_snoc, ho, ofNat_lt HZ.out, HT1.out, HT2.out, Nat.pow_succ]; exact HST.out
      case measure => (simp [intOf] <;> omega)
    · have hkn : k = n := by omega
      subst hkn
      have hkx : k < xs.length := by omega
      have hkl : lo.length + k < (lo ++ (out ++ xs.drop k) ++ hi).length := by simp; omega
      obtain ⟨hcell, hfk, hG1, hG2⟩ := HOW.out.cell (lo.length + k) hkl
      rw [win_get ho hkx hkl] at hcell
      have xB := limb_lt xs[k]
      have st := fun (z : Limb) => HOW.out.set (lo.length + k) hkl z
      have ws := fun (z : Limb) => win_set (lo := lo) (hi := hi) ho hkx z
      have ht2 := nv_take_succ xs k hkx
      generalize (xs[k]).toNat = X at *
      obtain ⟨z, b', hz, hb', hzz, hm, hbr⟩ := bor_is (t := c) xB hb
      have HST := Lib.hid (to_step (x := 0) (t := c) HQ.out (by simp) hzz)
      have HS := Lib.hid (st (BitVec.ofNat 32 z))
      have HW := Lib.hid (ws (BitVec.ofNat 32 z))
      have HT2 := Lib.hid ht2
      have HZ := Lib.hid hz
      have ec : c % B = c := Nat.mod_eq_of_lt HC.out
      rw [ec] at hm hbr
      rw [B_eq] at xB hz
      have HM := Lib.hid hm
      have HB := Lib.hid hbr
      clear st ws ht2 hzz ec hm hbr
      go_wp2_with (go_at_call 105; refine (sub32_any (X : Int) (c : Int) (b : Int) _ ⟨by omega, by omega⟩ ⟨by omega, by omega⟩ ⟨by omega, by omega⟩).mono ?_; rw [HM.out, HB.out]; rintro e w' ⟨rfl, rfl⟩)
      go_ret
      have hs := HS.out
      rw [HW.out, ofNat_lt HZ.out, List.drop_of_length_le (by omega), List.append_nil] at hs
      refine ⟨out ++ [BitVec.ofNat 32 z], b', hb', ?_, by simp [ho, hxs], ?_, hs, grown_set HGR.out _ _ _⟩
      · rcases Nat.le_one_iff_eq_zero_or_eq_one.1 hb' with h | h <;> subst h <;> rfl
      · have h1 := HST.out
        rw [Nat.div_eq_of_lt HC.out, Nat.mul_zero, Nat.add_zero, Nat.zero_add, ← HT2.out, ← Nat.pow_succ, List.take_of_length_le (by omega), List.take_of_length_le (by omega)] at h1
        rw [nv_snoc, ho, ofNat_lt HZ.out, hxs]; exact h1
/-- What is told: the window, and the divisor, without what is too much. -/
def RetPB (w0 w : World) (lo xs hi ds : List Limb) (G cap : Nat) (e : Ending) (w' : World) : Prop :=
  ∃ (out : List Limb) (b : Nat) (v : Value), e = .returned v ∧ out.length = xs.length ∧ nv out + B ^ xs.length * b = nv xs + nv ds ∧ OwL w0 w' G cap (lo ++ out ++ hi) ∧ w.grownBy w' (some G)
theorem pb_step {O D U P c X Y : Nat} (h : O + P * c = U + D) : (O + P * ((X + Y + c) % B)) + P * B * ((X + Y + c) / B) = (U + P * X) + (D + P * Y) := by
  have e2 : (X + Y + c) % B + B * ((X + Y + c) / B) = X + Y + c := Nat.mod_add_div _ _
  have e3 : P * ((X + Y + c) % B + B * ((X + Y + c) / B)) = P * (X + Y + c) := by rw [e2]
  simp only [Nat.mul_add, Nat.mul_assoc] at *
  omega

set_option maxHeartbeats 2000000 in
theorem putBack_any (w0 w : World) (lo xs hi ds : List Limb) (G cap c' : Nat) (v : Value) (hxs : xs.length = ds.length + 1) (hlen : (lo ++ xs ++ hi).length ≤ 1000000000) (hc' : xs.length ≤ c') (hown : OwL w0 w G cap (lo ++ xs ++ hi)) (hds : ∀ w', w.grownBy w' (some G) → SlL w' v ds) :
    Calls Tryz.prog 99 #[.slice (some ⟨G, lo.length, none⟩) xs.length c', v] w (RetPB w0 w lo xs hi ds G cap) := by
  obtain ⟨A, cd, rfl, hcd, _⟩ := (hds w (grown_refl w G)).form
  have hll : lo.length + xs.length + hi.length ≤ 1000000000 := by have := hlen; simp at this; omega
  rw [List.length_map] at hds hcd ⊢
  have HO := Lib.hid hown
  have HD := Lib.hid hds
  clear hown hds hlen
  generalize hn : ds.length = n at *
  rw [hxs]
  go_enter Tryz.func99, Tryz.ntmps99
  go_wp2_with fail
  go_loopw [4, 9] (fun cv iv wr => ∃ (k c : Nat) (out : List Limb), k ≤ n ∧ iv = .int .i64 k ∧ cv = .int .u32 c ∧ out.length = k ∧ c ≤ 1 ∧ nv out + B ^ k * c = nv (xs.take k) + nv (ds.take k) ∧ OwL w0 wr G cap (lo ++ (out ++ xs.drop k) ++ hi) ∧ w.grownBy wr (some G)) (fun _ iv _ => n - (intOf iv).toNat)
  case atStart => exact ⟨0, 0, [], Nat.zero_le _, rfl, rfl, rfl, by omega, by simp [nv], by simpa using HO.out, grown_refl w G⟩
  case round =>
    obtain ⟨k, c, out, hk, rfl, rfl, ho, hc, heq, hown, hgr⟩ := hrel
    have HQ := Lib.hid heq
    have HOW := Lib.hid hown
    have HGR := Lib.hid hgr
    clear heq hown hgr
    by_cases hlt : k < n
    · have hkx : k < xs.length := by omega
      have hkl : lo.length + k < (lo ++ (out ++ xs.drop k) ++ hi).length := by simp; omega
      obtain ⟨hcell, hfk, hG1, hG2⟩ := HOW.out.cell (lo.length + k) hkl
      rw [win_get ho hkx hkl] at hcell
      obtain ⟨_, _, hvq, _, hclq⟩ := (HD.out wr HGR.out).form
      injection hvq with hvq1 hvq2 hvq3
      subst hvq1
      subst hvq3
      clear hvq2
      obtain ⟨ad, rfl, hb1, hce⟩ := hclq k (by simp; omega)
      have hkd : k < ds.length := by omega
      have hdk : ((ds.map iB)[k]'(by simp; omega)) = ((ds[k]).toNat : Int) := by simp [iB]
      rw [hdk] at hce
      have xB := limb_lt xs[k]
      have dB_ := limb_lt ds[k]
      have st := fun (z : Limb) => HOW.out.set (lo.length + k) hkl z
      have ws := fun (z : Limb) => win_set (lo := lo) (hi := hi) ho hkx z
      have ht1 := nv_take_succ ds k hkd
      have ht2 := nv_take_succ xs k hkx
      generalize (xs[k]).toNat = X at *
      generalize (ds[k]).toNat = Y at *
      have HZ := Lib.hid (Nat.mod_lt (X + Y + c) B_pos)
      have HST := Lib.hid (pb_step (X := X) (Y := Y) HQ.out)
      have HS := Lib.hid (st (BitVec.ofNat 32 ((X + Y + c) % B)))
      have HW := Lib.hid (ws (BitVec.ofNat 32 ((X + Y + c) % B)))
      have HT1 := Lib.hid ht1
      have HT2 := Lib.hid ht2
      rw [B_eq] at xB dB_
      clear hclq hdk st ws ht1 ht2
      go_wp2_with (go_at_call 106; refine (add32_any (X : Int) (Y : Int) (c : Int) _ ⟨by omega, by omega⟩ ⟨by omega, by omega⟩ ⟨by omega, by omega⟩).mono ?_; rintro e w' ⟨rfl, rfl⟩)
      go_roundw
      case rel =>
        have hs := HS.out
        rw [HW.out, ofNat_lt HZ.out] at hs
        refine ⟨k + 1, (X + Y + c) / B, out ++ [BitVec.ofNat 32 ((X + Y + c) % B)], by omega, by go_num, ?_, by simp [ho], by rw [B_eq]; omega, ?_, ?_, grown_set HGR.out _ _ _⟩
        · congr 1
        · rw [nv_snoc, ho, ofNat_lt HZ.out, HT1.out, HT2.out, Nat.pow_succ]; exact HST.out
        · exact hs
      case measure => (simp [intOf] <;> omega)
    · have hkn : k = n := by omega
      subst hkn
      have hkx : k < xs.length := by omega
      have hkl : lo.length + k < (lo ++ (out ++ xs.drop k) ++ hi).length := by simp; omega
      obtain ⟨hcell, hfk, hG1, hG2⟩ := HOW.out.cell (lo.length + k) hkl
      rw [win_get ho hkx hkl] at hcell
      have xB := limb_lt xs[k]
      have st := fun (z : Limb) => HOW.out.set (lo.length + k) hkl z
      have ws := fun (z : Limb) => win_set (lo := lo) (hi := hi) ho hkx z
      have ht2 := nv_take_succ xs k hkx
      generalize (xs[k]).toNat = X at *
      have HZ := Lib.hid (Nat.mod_lt (X + 0 + c) B_pos)
      have HST := Lib.hid (pb_step (X := X) (Y := 0) HQ.out)
      have HS := Lib.hid (st (BitVec.ofNat 32 ((X + 0 + c) % B)))
      have HW := Lib.hid (ws (BitVec.ofNat 32 ((X + 0 + c) % B)))
      have HT2 := Lib.hid ht2
      rw [B_eq] at xB
      clear st ws ht2
      go_wp2
      go_end0
      have hs := HS.out
      rw [HW.out, ofNat_lt HZ.out, List.drop_of_length_le (by omega), List.append_nil] at hs
      refine ⟨out ++ [BitVec.ofNat 32 ((X + 0 + c) % B)], (X + 0 + c) / B, _, rfl, by simp [ho, hxs], ?_, ?_, grown_set HGR.out _ _ _⟩
      · have h1 := HST.out
        rw [Nat.mul_zero, Nat.add_zero, ← HT2.out, ← Nat.pow_succ, List.take_of_length_le (by omega), List.take_of_length_le (by omega)] at h1
        rw [nv_snoc, ho, ofNat_lt HZ.out, hxs]; exact h1
      · exact hs
end Go.Proofs.YtcdjifdllibolaaGreat

set_option maxRecDepth 100000
namespace Go.Proofs.YtcdjifdllibolaaGreat
open Go.RowKit

section
variable {P : Program} {md : Nat → FMode}
/-- A result, as data. -/
def ResV (P : Program) (md : Nat → FMode) (w : World) (M : Nat → Prop) (t : Nat) (y : D) (u : Value) : Prop := ∃ look β, VL P md w (Mof M look β) look β (ofD P t y) u
theorem ResV.int {w : World} {M : Nat → Prop} {t : Nat} {k : IntKind} {n : Int} {u : Value} (h : ResV P md w M t (.int n) u) (ht : P.underlying t = some (.int k)) : u = .int k n ∧ k.min ≤ n ∧ n ≤ k.max := by
  obtain ⟨look, β, h⟩ := h
  unfold ofD at h
  rw [ht] at h
  exact vl_i h
theorem ResV.bool {w : World} {M : Nat → Prop} {t : Nat} {b : Bool} {u : Value} (h : ResV P md w M t (.bool b) u) (ht : P.underlying t = some .bool) : u = .bool b := by
  obtain ⟨look, β, h⟩ := h
  unfold ofD at h
  rw [ht] at h
  exact vl_b h
theorem ResV.rd {w : World} {M : Nat → Prop} {t : Nat} {y : D} {u : Value} (h : ResV P md w M t y u) (ht : ofD P t y = .d t y) : Rd P md w M (.ty t) y u := by
  obtain ⟨look, β, h⟩ := h
  rw [ht] at h
  obtain ⟨h1, h2⟩ := vl_ne h (by simp) (by simp) (by simp)
  cases h1 with
  | d h1 => exact ⟨h1.mono (Nat.le_refl _) (fun _ _ _ => rfl) (fun b hb _ => .inl hb), h2.size, h2.agg⟩
theorem rd_weak {w w' : World} {M M' : Nat → Prop} {t : CT} {x : D} {v : Value} (h : Rd P md w M t x v) (hx : Ext w w') (hM : ∀ b, M' b → b < w.heap.size → M b) : Rd P md w' M' t x v :=
  ⟨h.rd.mono hx.size (fun b _ hb => hx.block b hb) hM, h.size, h.agg⟩
/-- ████ A call of a function that lends nothing, and tells no row of its own. -/
theorem sp_calls {F : Nat} {fn : Func} {xs ys : List D} {vs : List Value} {W : World} {M : Nat → Prop} (hs : Spec P md F [] xs ys) (hfn : P.funcs[F]? = some fn) (hm : md F = {}) (hM : ∀ b, M b → b < W.heap.size)
    (hlx : xs.length = fn.params.size) (hlv : vs.length = fn.params.size) (hrd : ∀ (i t : Nat) (x : D) (v : Value), fn.params.toList[i]? = some t → xs[i]? = some x → vs[i]? = some v → Rd P md W M (.ty t) x v) :
    Calls P F vs.toArray W (fun e w' => ∃ us, e = .returned (retV us) ∧ us.length = fn.resultTypes.size ∧ (∀ (i t : Nat) (u : Value), fn.resultTypes.toList[i]? = some t → us[i]? = some u → ResV P md w' M t (ys.getD i .nil) u) ∧ Ext W w') := by
  obtain ⟨fn', h1, _, _, h⟩ := hs
  rw [hfn] at h1
  injection h1 with h1
  subst h1
  have nol : ∀ b, ¬ lentN (md F) vs b := fun b ⟨p, v, h1, _⟩ => by rw [hm] at h1; cases h1
  refine (h W M vs 0 1 (fun k hk => by rw [hm] at hk; cases hk) ⟨by simp [hlx], by simp [hlv], fun b hb => ⟨hM b hb, nol b⟩, ?_, fun p hp => by rw [hm] at hp; cases hp⟩).mono ?_
  · intro i ct x v hc hx hv _
    simp only [List.append_nil, List.getElem?_map, Option.map_eq_some_iff] at hc
    obtain ⟨t, ht, rfl⟩ := hc
    have := hrd i t x v ht hx hv
    exact ⟨this.rd.mono (Nat.le_refl _) (fun _ _ _ => rfl) (fun b hb _ => hb.elim id (fun h => (nol b h).elim)), this.size, this.agg⟩
  · rintro e w' ⟨us, β', hp⟩
    refine ⟨us, hp.ending, by simpa using hp.len, fun i t u ht hu => ?_, ?_⟩
    · have := hp.vl (resL P fn.resultTypes.toList ys 0) (by rw [hm]; rfl) i _ u (resL_at ht) hu
      rw [Nat.zero_add] at this
      exact ⟨_, _, this⟩
    · exact Stp.ext (hp.stp.weak fun b hb => (nol b hb).elim)
theorem one_of {us : List Value} {n : Nat} (h : us.length = n) (hn : n = 1) : ∃ u, us = [u] := by
  subst hn
  match us, h with
  | [u], _ => exact ⟨u, rfl⟩
theorem sp_int {F : Nat} {fn : Func} {xs : List D} {n : Int} {vs : List Value} {W : World} {M : Nat → Prop} {t : Nat} {k : IntKind} (hs : Spec P md F [] xs [.int n]) (hfn : P.funcs[F]? = some fn) (hm : md F = {}) (hM : ∀ b, M b → b < W.heap.size)
    (hlx : xs.length = fn.params.size) (hlv : vs.length = fn.params.size) (hrd : ∀ (i t : Nat) (x : D) (v : Value), fn.params.toList[i]? = some t → xs[i]? = some x → vs[i]? = some v → Rd P md W M (.ty t) x v)
    (hrt : fn.resultTypes = #[t]) (ht : P.underlying t = some (.int k)) : Calls P F vs.toArray W (fun e w' => e = .returned (.int k n) ∧ (k.min ≤ n ∧ n ≤ k.max) ∧ Ext W w') := by
  refine (sp_calls hs hfn hm hM hlx hlv hrd).mono ?_
  rintro e w' ⟨us, rfl, hl, hh, hx⟩
  obtain ⟨u, rfl⟩ := one_of hl (by rw [hrt]; rfl)
  obtain ⟨rfl, h2⟩ := (hh 0 t u (by rw [hrt]; rfl) rfl).int ht
  exact ⟨rfl, h2, hx⟩
theorem sp_sl {F : Nat} {fn : Func} {xs : List D} {y : D} {vs : List Value} {W : World} {M : Nat → Prop} {t : Nat} (hs : Spec P md F [] xs [y]) (hfn : P.funcs[F]? = some fn) (hm : md F = {}) (hM : ∀ b, M b → b < W.heap.size)
    (hlx : xs.length = fn.params.size) (hlv : vs.length = fn.params.size) (hrd : ∀ (i t : Nat) (x : D) (v : Value), fn.params.toList[i]? = some t → xs[i]? = some x → vs[i]? = some v → Rd P md W M (.ty t) x v)
    (hrt : fn.resultTypes = #[t]) (ht : ofD P t y = .d t y) : Calls P F vs.toArray W (fun e w' => ∃ u, e = .returned u ∧ Rd P md w' M (.ty t) y u ∧ Ext W w') := by
  refine (sp_calls hs hfn hm hM hlx hlv hrd).mono ?_
  rintro e w' ⟨us, rfl, hl, hh, hx⟩
  obtain ⟨u, rfl⟩ := one_of hl (by rw [hrt]; rfl)
  exact ⟨u, rfl, (hh 0 t u (by rw [hrt]; rfl) rfl).rd ht, hx⟩
/-- ████ A call of a function that tells one row of its own, not empty. -/
theorem own_calls {F : Nat} {fn : Func} {xs es : List D} {vs : List Value} {W : World} {M : Nat → Prop} {t e : Nat} (hs : Spec P md F [] xs [.sl es]) (hfn : P.funcs[F]? = some fn) (hm : md F = { own := [(0, [])] }) (hM : ∀ b, M b → b < W.heap.size)
    (hlx : xs.length = fn.params.size) (hlv : vs.length = fn.params.size) (hrd : ∀ (i t : Nat) (x : D) (v : Value), fn.params.toList[i]? = some t → xs[i]? = some x → vs[i]? = some v → Rd P md W M (.ty t) x v)
    (hrt : fn.resultTypes = #[t]) (ht : tElem P t = some e) (h1 : one P t = true) (hne : es ≠ []) :
    Calls P F vs.toArray W (fun en w' => ∃ G cap cur, en = .returned (.slice (some ⟨G, 0, none⟩) es.length cap) ∧ W.heap.size ≤ G ∧ G < w'.heap.size ∧ w'.heap[G]? = some (.cells cur e (0, 0)) ∧ es.length ≤ cap ∧ cap ≤ maxLen ∧ cur.size = cap * P.cellsOf e ∧
      (∀ (i : Nat) (x : D), es[i]? = some x → ∃ M', RdC P md w' M' (.ty e) x (fun j => cur[i * P.cellsOf e + j]?)) ∧ Ext W w') := by
  obtain ⟨fn', g1, _, _, h⟩ := hs
  rw [hfn] at g1
  injection g1 with g1
  subst g1
  have nol : ∀ b, ¬ lentN (md F) vs b := fun b ⟨p, v, h1, _⟩ => by rw [hm] at h1; cases h1
  refine (h W M vs 0 1 (fun k hk => by rw [hm] at hk; simp at hk; omega) ⟨by simp [hlx], by simp [hlv], fun b hb => ⟨hM b hb, nol b⟩, ?_, fun p hp => by rw [hm] at hp; cases hp⟩).mono ?_
  · intro i ct x v hc hx hv _
    simp only [List.append_nil, List.getElem?_map, Option.map_eq_some_iff] at hc
    obtain ⟨t, ht, rfl⟩ := hc
    have := hrd i t x v ht hx hv
    exact ⟨this.rd.mono (Nat.le_refl _) (fun _ _ _ => rfl) (fun b hb _ => hb.elim id (fun h => (nol b h).elim)), this.size, this.agg⟩
  · rintro en w' ⟨us, β', hp⟩
    have hl := hp.len
    rw [hrt] at hl
    obtain ⟨u, rfl⟩ := one_of hl rfl
    have hot : ownT P [t] (0, []) = some e := by simp [ownT, typeAt, h1, ht]
    have hlook : postLook P (md F) fn.params.toList fn.resultTypes.toList [.sl es] 0 1 0 = some (.row e es true) := by
      rw [hm, hrt]
      simp [postLook, backEff, ownEff, effF, updN, hot, D.path, D.els, List.getD]
    have hv := hp.vl [.row 0] (by rw [hm, hrt]; simp [resL, setOwn, setL]) 0 (.row 0) u rfl rfl
    have hu := vl_row hv hlook
    have hb := hp.blks 0 _ hlook
    have ho := fun B => hp.own 0 _ B hlook
    obtain ⟨A, cap, hA, hb⟩ := hb
    rcases hb with ⟨hn, _⟩ | ⟨B, cur, rfl, hc0, hB, hlen, hcap, hsz, hpos, hrd'⟩
    · exact absurd hn hne
    · have hob := ho B (by rw [hA]; simp [ownB]; omega)
      have hG := hob.1.resolve_right (nol B)
      refine ⟨B, cap, cur, ?_, hG, hob.2, hB, hlen, hcap, hsz, fun i x hx => ⟨_, hrd' i x hx⟩, Stp.ext (hp.stp.weak fun b hb => (nol b hb).elim)⟩
      rw [hp.ending, hu, hA]; rfl
theorem rd_all1 {w : World} {M : Nat → Prop} {ps : List Nat} {t : Nat} {x : D} {v : Value} (hp : ps = [t]) (h : Rd P md w M (.ty t) x v) : ∀ (i t' : Nat) (x' : D) (v' : Value), ps[i]? = some t' → [x][i]? = some x' → [v][i]? = some v' → Rd P md w M (.ty t') x' v' := by
  intro i t' x' v' h1 h2 h3
  subst hp
  match i with
  | 0 => cases h1; cases h2; cases h3; exact h
  | i + 1 => simp at h1
theorem rd_all2 {w : World} {M : Nat → Prop} {ps : List Nat} {t u : Nat} {x y : D} {v z : Value} (hp : ps = [t, u]) (h : Rd P md w M (.ty t) x v) (h' : Rd P md w M (.ty u) y z) : ∀ (i t' : Nat) (x' : D) (v' : Value), ps[i]? = some t' → [x, y][i]? = some x' → [v, z][i]? = some v' → Rd P md w M (.ty t') x' v' := by
  intro i t' x' v' h1 h2 h3
  subst hp
  match i with
  | 0 => cases h1; cases h2; cases h3; exact h
  | 1 => cases h1; cases h2; cases h3; exact h'
  | i + 2 => simp at h1
theorem rd_num_ {w : World} {M : Nat → Prop} {t : Nat} {k : IntKind} {n : Int} (ht : P.underlying t = some (.int k)) (hs : P.cellsOf t = 1) (ha : isAggT P t = false) (h1 : k.min ≤ n) (h2 : n ≤ k.max) : Rd P md w M (.ty t) (.int n) (.int k n) :=
  ⟨.int ht h1 h2 rfl, hs.symm, ha.symm⟩
/-- ████ What is said of a function, by a walk of it. -/
theorem spec_of (hP : WfP P) {F : Nat} {fn : Func} {cts : List CT} {xs ys : List D} (hfn : P.funcs[F]? = some fn) (hb : fn.body.isSome = true) (hn : (fn.name == "runtime.NumGoroutine") = false) (hm : md F = {})
    (h : ∀ (w : World) (M : Nat → Prop) (vs : List Value), (∀ b, M b → b < w.heap.size) → xs.length = fn.params.size + cts.length → vs.length = fn.params.size + cts.length → (∀ (i : Nat) (t : CT) (x : D) (v : Value), (fn.params.toList.map CT.ty ++ cts)[i]? = some t → xs[i]? = some x → vs[i]? = some v → Rd P md w M t x v) →
      Calls P F vs.toArray w (fun e w' => ∃ us, e = .returned (retV us) ∧ us.length = fn.resultTypes.size ∧ (∀ (i t : Nat) (u : Value), fn.resultTypes.toList[i]? = some t → us[i]? = some u → Rd P md w' M (.ty t) (ys.getD i .nil) u) ∧ Ext w w')) : Spec P md F cts xs ys := by
  refine ⟨fn, hfn, hb, hn, fun w M vs d bid _ hp => ?_⟩
  have nol : ∀ b, ¬ lentN (md F) vs b := fun b ⟨p, v, h1, _⟩ => by rw [hm] at h1; cases h1
  have hlook : postLook P (md F) fn.params.toList fn.resultTypes.toList ys d bid = fun _ => none := by rw [hm]; rfl
  refine (h w M vs (fun b hb => (hp.m b hb).1) (by simpa using hp.lenx) (by simpa using hp.lenv) (fun i t x v h1 h2 h3 => ?_)).mono ?_
  · have := hp.rd i t x v h1 h2 h3 (by rw [hm]; simp)
    exact ⟨this.rd.mono (Nat.le_refl _) (fun _ _ _ => rfl) (fun b hb _ => .inl hb), this.size, this.agg⟩
  · rintro e w' ⟨us, rfl, hl, hh, hx⟩
    refine ⟨us, fun _ => undef, rfl, by simpa using hl, (Stp.of_ext hx).weak (fun _ h => h), ?_, ?_, ?_, ?_, ?_⟩
    · intro ls hls i l u hi hu
      rw [hm] at hls
      simp only [setOwn, Option.some.injEq] at hls
      subst hls
      obtain ⟨t, ht⟩ : ∃ t, fn.resultTypes.toList[i]? = some t := by
        have := (List.getElem?_eq_some_iff.1 hi).1
        rw [resL_len] at this
        exact ⟨_, List.getElem?_eq_getElem this⟩
      have hr := hh i t u ht hu
      rw [resL_at ht, Nat.zero_add] at hi
      injection hi with hi
      subst hi
      have hr' : Rd P md w' (Mof M (postLook P (md F) fn.params.toList fn.resultTypes.toList ys d bid) (fun _ => undef)) (.ty t) (ys.getD i .nil) u := by
        refine rd_weak hr (Ext.refl _) (fun b hb _ => ?_)
        rcases hb with hb | ⟨r, k, hk, _⟩
        · exact hb
        · rw [hlook] at hk; cases hk
      exact (rd_vl' hP hr').1
    · intro r b hb; rw [hlook] at hb; cases hb
    · intro r b B hb; rw [hlook] at hb; cases hb
    · intro r q b c B hb; rw [hlook] at hb; cases hb
    · intro hb; rw [hm] at hb; cases hb
end
end Go.Proofs.YtcdjifdllibolaaGreat

set_option maxRecDepth 100000
namespace Go.Proofs.YtcdjifdllibolaaGreat
open Go.RowKit

/-- What a guess comes to. -/
theorem to_exact {U Y g P o b : Nat} (hY : 0 < Y) (hYP : Y ≤ P) (h1 : U / Y ≤ g) (h2 : g ≤ U / Y + 1) (ho : o < P) (hb : b ≤ 1) (h : o + g * Y = U + P * b) :
    (b = 0 → g = U / Y ∧ o = U % Y) ∧ (b ≠ 0 → g = U / Y + 1 ∧ ∀ o2 b2, o2 < P → o2 + P * b2 = o + Y → o2 = U % Y) := by
  have hdm := Nat.div_add_mod U Y
  have hm := Nat.mod_lt U hY
  rw [Nat.mul_comm] at hdm
  generalize U / Y = q at *
  generalize U % Y = r at *
  refine ⟨fun h0 => ?_, fun h0 => ?_⟩
  · subst h0
    rcases Nat.lt_or_ge q g with h3 | h3
    · obtain rfl : g = q + 1 := by omega
      rw [Nat.add_mul] at h; omega
    · obtain rfl : g = q := by omega
      exact ⟨rfl, by omega⟩
  · obtain rfl : b = 1 := by omega
    rcases Nat.lt_or_ge q g with h3 | h3
    · obtain rfl : g = q + 1 := by omega
      refine ⟨rfl, fun o2 b2 h4 h5 => ?_⟩
      rw [Nat.add_mul] at h
      match b2 with
      | 0 => omega
      | 1 => omega
      | b2 + 2 => rw [Nat.mul_add] at h5; omega
    · obtain rfl : g = q := by omega
      omega
/-- The window of a round. -/
theorem long_win {R : List Limb} {n j Y : Nat} (hj : j + (n + 1) ≤ R.length) (hY : Y < B ^ n) (h : nv R < Y * B ^ (j + 1)) :
    R = R.take j ++ (R.drop j).take (n + 1) ++ R.drop (j + (n + 1)) ∧ (R.take j).length = j ∧ ((R.drop j).take (n + 1)).length = n + 1 ∧ nv ((R.drop j).take (n + 1)) < B * Y ∧
    ∀ out : List Limb, out.length = n + 1 → nv out = nv ((R.drop j).take (n + 1)) % Y → (R.take j ++ out ++ R.drop (j + (n + 1))).length = R.length ∧ nv (R.take j ++ out ++ R.drop (j + (n + 1))) < Y * B ^ j ∧
      nv (R.take j ++ out ++ R.drop (j + (n + 1))) + Y * (B ^ j * (nv ((R.drop j).take (n + 1)) / Y)) = nv R := by
  have e1 : R = R.take j ++ (R.drop j).take (n + 1) ++ R.drop (j + (n + 1)) := by
    rw [List.append_assoc, ← List.drop_drop, List.take_append_drop, List.take_append_drop]
  have l1 : (R.take j).length = j := by rw [List.length_take]; omega
  have l2 : ((R.drop j).take (n + 1)).length = n + 1 := by rw [List.length_take, List.length_drop]; omega
  have hlo := nv_lt (R.take j)
  rw [l1] at hlo
  have hv : nv R = nv (R.take j) + B ^ j * nv ((R.drop j).take (n + 1)) + B ^ (j + (n + 1)) * nv (R.drop (j + (n + 1))) := by
    have : nv R = nv (R.take j ++ (R.drop j).take (n + 1) ++ R.drop (j + (n + 1))) := by rw [← e1]
    rw [this, nv_append, nv_append, List.length_append, l1, l2]
  have hY0 : 0 < Y := by
    rcases Nat.eq_zero_or_pos Y with h0 | h0
    · rw [h0] at h; omega
    · exact h0
  have hp := Bp j
  have hi0 : nv (R.drop (j + (n + 1))) = 0 := by
    rcases Nat.eq_zero_or_pos (nv (R.drop (j + (n + 1)))) with h0 | h0
    · exact h0
    · exfalso
      have h3 : B ^ (j + (n + 1)) * 1 ≤ B ^ (j + (n + 1)) * nv (R.drop (j + (n + 1))) := Nat.mul_le_mul_left _ h0
      have h4 : Y * B ^ (j + 1) ≤ B ^ n * B ^ (j + 1) := Nat.mul_le_mul_right _ (Nat.le_of_lt hY)
      rw [← Nat.pow_add, show n + (j + 1) = j + (n + 1) by omega] at h4
      omega
  generalize R.take j = lo at *
  generalize (R.drop j).take (n + 1) = xs at *
  generalize R.drop (j + (n + 1)) = hi at *
  rw [hi0, Nat.mul_zero, Nat.add_zero] at hv
  refine ⟨e1, l1, l2, ?_, fun out ho hn => ⟨?_, ?_, ?_⟩⟩
  · have h5 : B ^ j * nv xs < B ^ j * (B * Y) := by
      have : Y * B ^ (j + 1) = B ^ j * (B * Y) := by rw [Nat.pow_succ, Nat.mul_comm Y, Nat.mul_assoc]
      omega
    exact Nat.lt_of_mul_lt_mul_left h5
  · rw [e1]; simp [ho, l2]
  · rw [nv_append, nv_append, hi0, l1, hn, Nat.mul_zero, Nat.add_zero]
    have h6 : B ^ j * (nv xs % Y) + B ^ j ≤ B ^ j * Y := by
      rw [← Nat.mul_succ]; exact Nat.mul_le_mul_left _ (Nat.mod_lt _ hY0)
    rw [Nat.mul_comm Y]; omega
  · rw [nv_append, nv_append, hi0, l1, hn, Nat.mul_zero, Nat.add_zero, hv, Nat.mul_left_comm Y, Nat.add_assoc, ← Nat.mul_add, Nat.mod_add_div]
theorem rd_slL {w : World} {M : Nat → Prop} {v : Value} {l : List Limb} (h : Rd Tryz.prog md w M (.ty 22) (dL l) v) : SlL w v l := by
  obtain ⟨h1, h2, h3⟩ := h
  have hc1 : Tryz.prog.cellsOf 41 = 1 := by kernel_rfl
  unfold dL at h1
  cases h1 with
  | @sl _ e _ _ A cap bk off ht hc h4 h5 hA hh =>
    have he : e = 41 := by
      have : Tryz.prog.underlying 22 = some (.slice e) := ht
      rw [show Tryz.prog.underlying 22 = some (.slice 41) by kernel_rfl] at this
      injection this with this; injection this with this; exact this.symm
    subst he
    have hv : v = .slice A (l.map dB).length cap := by
      have ha : isAggV v = false := by rw [h3]; kernel_rfl
      rw [cells_of ha] at hc
      simpa using hc
    refine ⟨A, cap, by rw [hv]; simp, by simpa using h4, by simp, fun i x hx => ?_⟩
    rw [List.map_map, List.getElem?_map, Option.map_eq_some_iff] at hx
    obtain ⟨b, hb, rfl⟩ := hx
    have hne : l.map dB ≠ [] := fun e => by rw [List.map_eq_nil_iff.1 e] at hb; simp at hb
    obtain ⟨a1, a2, a3⟩ := hA hne
    have := hh i (dB b) (by rw [List.getElem?_map, hb]; rfl)
    rw [hc1] at this
    refine ⟨_, a1, a3, ?_⟩
    unfold dB at this
    cases this with
    | @int _ k _ _ ht' h1' h2' hc' =>
      have hk : k = .u32 := by
        have : Tryz.prog.underlying 41 = some (.int k) := ht'
        rw [show Tryz.prog.underlying 41 = some (.int .u32) by kernel_rfl] at this
        injection this with this; injection this with this; exact this.symm
      subst hk
      simp only [Nat.mul_one, Nat.add_zero] at hc'
      have ea : (⟨bk, off, none⟩ : Addr).add i = ⟨bk, off + i, none⟩ := by unfold Addr.add; split <;> simp_all
      rw [ea]; exact hc'
theorem win_rd {w : World} {M : Nat → Prop} {G off n c : Nat} {l : List Limb} (h : SlL w (.slice (some ⟨G, off, none⟩) n c) l) (hc : c ≤ maxLen) (hG : ¬ M G) : Rd Tryz.prog md w M (.ty 22) (dL l) (.slice (some ⟨G, off, none⟩) n c) := by
  obtain ⟨h1, h2⟩ := h.len
  have hc1 : Tryz.prog.cellsOf 41 = 1 := by kernel_rfl
  rw [List.length_map] at h1
  refine ⟨.sl (e := 41) (A := some ⟨G, off, none⟩) (cap := c) (bk := G) (off := off) (by kernel_rfl) (by rw [h1, List.length_map]; rfl) (by rw [List.length_map]; omega) hc (fun hne => ?_) (fun i x hx => ?_), by kernel_rfl, by kernel_rfl⟩
  · have : 0 < (l.map iB).length := by
      rw [List.length_map]; exact List.length_pos_iff.2 (fun e => hne (by rw [e]; rfl))
    obtain ⟨ad, ha, hb, _⟩ := h.cellAt 0 this
    cases ha
    exact ⟨rfl, hG, hb⟩
  · rw [List.getElem?_map, Option.map_eq_some_iff] at hx
    obtain ⟨b, hb, rfl⟩ := hx
    have hi : i < (l.map iB).length := by rw [List.length_map]; exact (List.getElem?_eq_some_iff.1 hb).1
    obtain ⟨ad, ha, _, hcell⟩ := h.cellAt i hi
    cases ha
    have ea : (⟨G, off, none⟩ : Addr).add i = ⟨G, off + i, none⟩ := by unfold Addr.add; split <;> simp_all
    rw [ea] at hcell
    have hx : (l.map iB)[i] = (b.toNat : Int) := by simp [iB, (List.getElem?_eq_some_iff.1 hb).2]
    rw [hx] at hcell
    have := b.isLt
    unfold dB
    exact .int (k := .u32) (by kernel_rfl) (by show (0 : Int) ≤ _; omega) (by show _ ≤ (4294967295 : Int); omega) (by rw [hc1]; simpa using hcell)
/-- A window of a row of limbs. -/
theorem OwL.win {w0 w : World} {G cap : Nat} {l : List Limb} (h : OwL w0 w G cap l) {j n c : Nat} (hj : j + n ≤ l.length) (hc : n ≤ c) : SlL w (.slice (some ⟨G, j, none⟩) n c) ((l.drop j).take n) := by
  have hl : (((l.drop j).take n).map iB).length = n := by simp; omega
  refine ⟨some ⟨G, j, none⟩, c, by rw [hl], by rw [hl]; exact hc, by simp, fun i x hx => ?_⟩
  rw [List.getElem?_map, Option.map_eq_some_iff] at hx
  obtain ⟨z, hz, rfl⟩ := hx
  have hi : i < n := by rw [← hl]; exact (List.getElem?_eq_some_iff.1 hz).1
  obtain ⟨h1, h2, h3, h4⟩ := h.cell (j + i) (by omega)
  refine ⟨_, rfl, h4, ?_⟩
  have ea : (⟨G, j, none⟩ : Addr).add i = ⟨G, j + i, none⟩ := by unfold Addr.add; split <;> simp_all
  rw [ea, h1]
  rw [List.getElem?_map, List.getElem?_take, if_pos hi, List.getElem?_drop, List.getElem?_eq_getElem (by omega)] at hz
  simp only [Option.map_some, Option.some.injEq] at hz
  rw [← hz]; rfl
end Go.Proofs.YtcdjifdllibolaaGreat

set_option maxRecDepth 100000
namespace Go.Proofs.YtcdjifdllibolaaGreat
open Go.RowKit

theorem elt_u32 : Elt Tryz.prog 22 41 1 4 :=
  ⟨Tryz.underlying22, by
    obtain ⟨i, hi, h1, h2, h3⟩ := info_parts (P := Tryz.prog) (e := 41) (z := .int .u32 0) (size := 1) (bytes := 4) (by kernel_rfl)
    exact ⟨i, _, hi, h1, h2, h3, rfl⟩, by decide⟩

theorem zero_u32 {z : Value} (h : ∃ i, Tryz.prog.info? 41 = some i ∧ i.zero = some z) : z = .int .u32 0 := by
  obtain ⟨i, hi, hz⟩ := h
  obtain ⟨j, hj, h1, _⟩ := info_parts (P := Tryz.prog) (e := 41) (z := .int .u32 0) (size := 1) (bytes := 4) (by kernel_rfl)
  rw [hi] at hj
  cases hj
  rw [hz] at h1
  exact Option.some.inj h1
theorem made_u32 {z : Value} (h : ∃ i, Tryz.prog.info? 41 = some i ∧ i.zero = some z) (n : Nat) : (madeCells z.cells (n * 1)).toList = (List.replicate n (0 : Int)).map (.int .u32) := by
  rw [zero_u32 h, made_one _ rfl]; simp
/-- A row of limbs, just told. -/
theorem own_limbs {w w' : World} {G cap : Nat} {cur : Array Value} {q : List Limb} (hG : w.heap.size ≤ G) (hB : w'.heap[G]? = some (.cells cur 41 (0, 0))) (hle : q.length ≤ cap) (hcap : cap ≤ maxLen) (hsz : cur.size = cap * Tryz.prog.cellsOf 41)
    (h : ∀ (i : Nat) (x : D), (q.map dB)[i]? = some x → ∃ M', RdC Tryz.prog md w' M' (.ty 41) x (fun j => cur[i * Tryz.prog.cellsOf 41 + j]?)) (hx : Ext w w') : OwL w w' G cap q := by
  have hc1 : Tryz.prog.cellsOf 41 = 1 := by kernel_rfl
  rw [hc1] at hsz h
  refine ⟨⟨by simp, .inr ⟨G, cap, cur, rfl, hG, hB, hle, hcap, hsz, ?_⟩⟩, hx⟩
  apply List.ext_getElem
  · simp; omega
  intro i h1 h2
  simp only [List.length_map] at h2
  obtain ⟨M', hr⟩ := h i (dB q[i]) (by simp [h2])
  simp only [Nat.mul_one, Nat.add_zero] at hr
  unfold dB at hr
  cases hr with
  | @int _ k _ _ ht' h1' h2' hc' =>
    have hk : k = .u32 := by
      have : Tryz.prog.underlying 41 = some (.int k) := ht'
      rw [show Tryz.prog.underlying 41 = some (.int .u32) by kernel_rfl] at this
      injection this with this; injection this with this; exact this.symm
    subst hk
    simp only [Nat.add_zero] at hc'
    have hi : i < cur.size := by omega
    rw [Array.getElem?_eq_getElem hi] at hc'
    simp only [List.getElem_take, Array.getElem_toList, List.getElem_map, iB]
    exact Option.some.inj hc'
theorem OwL.far {w0 w w' : World} {G G' cap : Nat} {l : List Limb} (h : OwL w0 w G cap l) (hg : w.grownBy w' (some G')) (hne : G ≠ G') (hG : w0.heap.size ≤ G') : OwL w0 w' G cap l :=
  ⟨h.own.kept hg (.inr (by simp only [Value.ownBlock]; intro e; injection e with e; exact hne e)), h.ext.grown hg (fun k hk => by injection hk with hk; omega)⟩
theorem to_calls {w w5 : World} {lo xs hi q1 : List Limb} {G1 G2 c1 c2 n j g c' : Nat} (hn : n ≤ q1.length) (hc1 : n ≤ c1) (l1 : lo.length = j) (l2 : xs.length = n + 1) (hlen : (lo ++ xs ++ hi).length ≤ 1000000000) (hc' : n + 1 ≤ c') (hg2 : w.heap.size ≤ G2) (h12 : G1 ≠ G2)
    (ow2 : OwL w w5 G2 c2 (lo ++ xs ++ hi)) (ow1 : OwL w w5 G1 c1 q1) (hg : g < B) : Calls Tryz.prog 98 #[.slice (some ⟨G2, j, none⟩) (n + 1) c', .slice (some ⟨G1, 0, none⟩) n c1, .int .u64 g] w5 (RetTO w w5 lo xs hi (q1.take n) G2 c2 g) := by
  have ld : (q1.take n).length = n := by rw [List.length_take]; omega
  have := takeOff_any w w5 lo xs hi (q1.take n) G2 c2 c' g (.slice (some ⟨G1, 0, none⟩) n c1) (by omega) hlen (by omega) ow2 (fun w' hg => by
    have := (ow1.far hg h12 hg2).win (j := 0) (n := n) (c := c1) (by omega) hc1
    rwa [List.drop_zero] at this) hg
  rwa [l1, l2] at this
theorem pb_calls {w w5 : World} {lo xs hi q1 : List Limb} {G1 G2 c1 c2 n j c' : Nat} (hn : n ≤ q1.length) (hc1 : n ≤ c1) (l1 : lo.length = j) (l2 : xs.length = n + 1) (hlen : (lo ++ xs ++ hi).length ≤ 1000000000) (hc' : n + 1 ≤ c') (hg2 : w.heap.size ≤ G2) (h12 : G1 ≠ G2)
    (ow2 : OwL w w5 G2 c2 (lo ++ xs ++ hi)) (ow1 : OwL w w5 G1 c1 q1) : Calls Tryz.prog 99 #[.slice (some ⟨G2, j, none⟩) (n + 1) c', .slice (some ⟨G1, 0, none⟩) n c1] w5 (RetPB w w5 lo xs hi (q1.take n) G2 c2) := by
  have ld : (q1.take n).length = n := by rw [List.length_take]; omega
  have := putBack_any w w5 lo xs hi (q1.take n) G2 c2 c' (.slice (some ⟨G1, 0, none⟩) n c1) (by omega) hlen (by omega) ow2 (fun w' hg => by
    have := (ow1.far hg h12 hg2).win (j := 0) (n := n) (c := c1) (by omega) hc1
    rwa [List.drop_zero] at this)
  rwa [l1, l2] at this
/-- The quotient's next limb. -/
theorem quo_set {qh : List Limb} {j : Nat} (x : Limb) : (List.replicate (j + 1) (0 : Limb) ++ qh).set j x = List.replicate j 0 ++ (x :: qh) := by
  rw [List.replicate_succ', List.append_assoc, List.set_append_right _ _ (by simp), List.length_replicate, Nat.sub_self]; rfl
def RetLong (x y : Nat) (w : World) (e : Ending) (w' : World) : Prop := ∃ u1 u2, e = .returned (.tuple #[u1, u2]) ∧ Rd Tryz.prog md w' (fun b => b < w.heap.size) (.ty 22) (dL (lb (x / y))) u1 ∧ Rd Tryz.prog md w' (fun b => b < w.heap.size) (.ty 22) (dL (lb (x % y))) u2 ∧ Ext w w'

/-- How far the divisor is shifted. -/
theorem norm_facts {y n s t : Nat} (hn : (lb y).length = n + 1) (ht : t = y / B ^ n) (h1 : t * 2 ^ s < B) (h2 : B ≤ 2 * (t * 2 ^ s)) (hs : s < 32) : y * 2 ^ s < B ^ (n + 1) ∧ B ^ (n + 1) ≤ 2 * (y * 2 ^ s) := by
  have hp := Bp n
  have hs0 : 0 < 2 ^ s := Nat.pow_pos (by decide)
  have hB : B = 2 ^ (32 - s) * 2 ^ s := by rw [← Nat.pow_add, show 32 - s + s = 32 by omega]; rfl
  have h3 : t < 2 ^ (32 - s) := by rw [hB] at h1; exact Nat.lt_of_mul_lt_mul_right h1
  have h4 : (t + 1) * 2 ^ s ≤ B := by rw [hB]; exact Nat.mul_le_mul_right _ h3
  have h5 : y < (t + 1) * B ^ n := by rw [ht, Nat.mul_comm]; exact Nat.lt_mul_div_succ y hp
  have h6 : t * B ^ n ≤ y := by rw [ht]; exact Nat.div_mul_le_self _ _
  rw [Nat.pow_succ]
  constructor
  · calc y * 2 ^ s < (t + 1) * B ^ n * 2 ^ s := Nat.mul_lt_mul_of_pos_right h5 hs0
      _ = B ^ n * ((t + 1) * 2 ^ s) := by rw [Nat.mul_comm (t + 1), Nat.mul_assoc]
      _ ≤ B ^ n * B := Nat.mul_le_mul_left _ h4
  · calc B ^ n * B ≤ B ^ n * (2 * (t * 2 ^ s)) := Nat.mul_le_mul_left _ h2
      _ = 2 * (t * B ^ n * 2 ^ s) := by rw [Nat.mul_left_comm, Nat.mul_comm t (B ^ n), Nat.mul_assoc]
      _ ≤ 2 * (y * 2 ^ s) := Nat.mul_le_mul_left _ (Nat.mul_le_mul_right _ h6)
theorem nv_take_all {q : List Limb} {n v : Nat} (h : nv q = v) (hv : v < B ^ n) (hn : n ≤ q.length) : nv (q.take n) = v := by
  have := nv_append (q.take n) (q.drop n)
  rw [List.take_append_drop, List.length_take, Nat.min_eq_left hn, h] at this
  rcases Nat.eq_zero_or_pos (nv (q.drop n)) with h0 | h0
  · rw [h0] at this; omega
  · have : B ^ n * 1 ≤ B ^ n * nv (q.drop n) := Nat.mul_le_mul_left _ h0
    omega

/-- What holds ahead of a round. -/
def LInv (X Y m n : Nat) (w wr : World) (G1 c1 G2 c2 G3 c3 : Nat) (q1 : List Limb) (k : Nat) (R qh : List Limb) : Prop :=
  k ≤ m - n + 1 ∧ R.length = m + 1 ∧ qh.length = m - n + 1 - k ∧ nv R < Y * B ^ k ∧ nv R + Y * (B ^ k * nv qh) = X ∧ OwL w wr G2 c2 R ∧ OwL w wr G3 c3 (List.replicate k 0 ++ qh) ∧ OwL w wr G1 c1 q1
theorem LInv.start {X Y m n : Nat} {w wr : World} {G1 c1 G2 c2 G3 c3 : Nat} {q1 q2 : List Limb} (h2 : q2.length = m + 1) (hv : nv q2 = X) (hX : X < Y * B ^ (m - n + 1)) (o1 : OwL w wr G1 c1 q1) (o2 : OwL w wr G2 c2 q2) (o3 : OwL w wr G3 c3 (List.replicate (m - n + 1) 0)) : LInv X Y m n w wr G1 c1 G2 c2 G3 c3 q1 (m - n + 1) q2 [] :=
  ⟨Nat.le_refl _, h2, by rw [Nat.sub_self]; rfl, by rw [hv]; exact hX, by rw [nv, Nat.mul_zero, Nat.mul_zero]; exact hv, o2, by rw [List.append_nil]; exact o3, o1⟩
set_option maxHeartbeats 4000000 in
theorem long_any (x y : Nat) (va vb : Value) (w : World) (M : Nat → Prop) (ha : Rd Tryz.prog md w M (.ty 22) (dL (lb x)) va) (hb : Rd Tryz.prog md w M (.ty 22) (dL (lb y)) vb) (hM : ∀ b, M b → b < w.heap.size)
    (h1 : 1 < (lb y).length) (hxy : y ≤ x) (hl : (lb x).length ≤ 100000) : Calls Tryz.prog 91 #[va, vb] w (RetLong x y w) := by
  have hyx : (lb y).length ≤ (lb x).length := lb_len.2 (Nat.lt_of_le_of_lt hxy (lb_len.1 (Nat.le_refl _)))
  obtain ⟨n, hn⟩ : ∃ n, (lb y).length = n := ⟨_, rfl⟩
  obtain ⟨m, hm⟩ : ∃ m, (lb x).length = m := ⟨_, rfl⟩
  rw [hn, hm] at hyx
  rw [hm] at hl
  rw [hn] at h1
  obtain ⟨A, ca, rfl, hca, _⟩ := (rd_slL ha).form
  obtain ⟨Ab, cb, rfl, hcb, hcel⟩ := (rd_slL hb).form
  rw [List.length_map, hm] at ha hca
  rw [List.length_map, hn] at hb hcb
  have HA := Lib.hid ha
  have HB := Lib.hid hb
  clear ha hb
  obtain ⟨ad, rfl, hb1, hce⟩ := hcel (n - 1) (by simp; omega)
  have hk : ((lb y).map iB)[n - 1]'(by simp; omega) = (((lb y)[n - 1]'(by omega)).toNat : Int) := by simp [iB]
  rw [hk, nv_limb (lb y) (n - 1) (by omega), nv_lb] at hce
  have hyl := (lb_len (n := y) (k := n)).1 (by omega)
  have hyg := can_len (x := y) (k := n - 1) (by omega)
  have htB : y / B ^ (n - 1) < B := by rw [Nat.div_lt_iff_lt_mul (Bp _), Nat.mul_comm, ← Nat.pow_succ, show (n - 1).succ = n by omega]; exact hyl
  rw [Nat.mod_eq_of_lt htB] at hce
  have ht0 : 0 < y / B ^ (n - 1) := Nat.div_pos hyg (Bp _)
  obtain ⟨s, hLZ, hs32, hs1, hs2⟩ := bits_Lz_ex _ htB ht0
  obtain ⟨hY1, hY2⟩ := norm_facts (n := n - 1) (by omega) rfl hs1 hs2 hs32
  rw [show n - 1 + 1 = n by omega] at hY1 hY2
  obtain ⟨q1, hq1, hq1v, sp1⟩ := nat_up_ex (lb y) s hs32 (by omega)
  obtain ⟨q2, hq2, hq2v, sp2⟩ := nat_up_ex (lb x) s hs32 (by omega)
  rw [nv_lb] at hq1v hq2v
  rw [hn] at hq1
  rw [hm] at hq2
  have hdv := nv_take_all hq1v hY1 (by omega)
  have hX1 : x * 2 ^ s < (y * 2 ^ s) * B ^ (m - n + 1) := by
    have h2 : x < B ^ m := lb_len.1 (by omega)
    have h3 : B ^ n * B ^ (m - n + 1) ≤ 2 * (y * 2 ^ s) * B ^ (m - n + 1) := Nat.mul_le_mul_right _ hY2
    rw [← Nat.pow_add, show n + (m - n + 1) = m + 1 by omega] at h3
    have h4 : 2 ^ s ≤ 2 ^ 31 := Nat.pow_le_pow_right (by decide) (by omega)
    have h5 : x * 2 ^ s ≤ x * 2 ^ 31 := Nat.mul_le_mul_left _ h4
    rw [Nat.mul_assoc] at h3
    rw [Nat.pow_succ, B_eq] at h3
    rw [B_eq] at h2 ⊢
    omega
  generalize y / B ^ (n - 1) = top at *
  have HLZ := Lib.hid hLZ
  have SP1 := Lib.hid sp1
  have SP2 := Lib.hid sp2
  have HM := Lib.hid hM
  have X1 := Lib.hid hX1
  have Y1 := Lib.hid hY1
  have Y2 := Lib.hid hY2
  clear hcel hk hLZ sp1 sp2 hM hX1 hY1 hY2 hyg hyl
  simp only [List.length_map, hn, hm]
  go_enter Tryz.func91, Tryz.ntmps91
  go_wp2_with (first
    | (go_at_call 95; refine (sp_int (t := 3) (vs := [_]) (M := fun _ => False) HLZ.out Tryz.func95 (by kernel_rfl) (fun _ h => h.elim) (by kernel_rfl) rfl (rd_all1 (by kernel_rfl) (rd_num_ (t := 41) (k := .u32) (by kernel_rfl) (by kernel_rfl) (by kernel_rfl) (by show (0 : Int) ≤ _; omega) (by show _ ≤ (4294967295 : Int); rw [B_eq] at htB; omega))) (by kernel_rfl) (k := .i64) (by kernel_rfl)).mono ?_; rintro e w1 ⟨rfl, _, hx1⟩)
    | (go_at_call_of 96 (Value.slice (some ad) n cb); refine (own_calls (t := 22) (e := 41) (vs := [_, _]) (M := M) SP1.out Tryz.func96 (by kernel_rfl) (fun b h => Nat.lt_of_lt_of_le (HM.out b h) hx1.size) (by kernel_rfl) rfl (rd_all2 (by kernel_rfl) (rd_weak (t := .ty 22) HB.out hx1 (fun _ h _ => h)) (rd_num_ (t := 3) (k := .i64) (by kernel_rfl) (by kernel_rfl) (by kernel_rfl) (by show (-9223372036854775808 : Int) ≤ _; omega) (by show _ ≤ (9223372036854775807 : Int); omega))) (by kernel_rfl) (by kernel_rfl) (by kernel_rfl) (fun e => by have := congrArg List.length e; simp [hq1] at this)).mono ?_; rintro e w2 ⟨G1, c1, cur1, rfl, hG1, hG1l, hB1, hle1, hc1, hsz1, hr1, hx2⟩; rw [List.length_map, hq1] at hle1 ⊢)
    | (go_at_call_of 96 (Value.slice A m ca); refine (own_calls (t := 22) (e := 41) (vs := [_, _]) (M := M) SP2.out Tryz.func96 (by kernel_rfl) (fun b h => Nat.lt_of_lt_of_le (HM.out b h) (hx1.trans hx2).size) (by kernel_rfl) rfl (rd_all2 (by kernel_rfl) (rd_weak (t := .ty 22) HA.out (hx1.trans hx2) (fun _ h _ => h)) (rd_num_ (t := 3) (k := .i64) (by kernel_rfl) (by kernel_rfl) (by kernel_rfl) (by show (-9223372036854775808 : Int) ≤ _; omega) (by show _ ≤ (9223372036854775807 : Int); omega))) (by kernel_rfl) (by kernel_rfl) (by kernel_rfl) (fun e => by have := congrArg List.length e; simp [hq2] at this)).mono ?_; rintro e w3 ⟨G2, c2, cur2, rfl, hG2, hG2l, hB2, hle2, hc2, hsz2, hr2, hx3⟩; rw [List.length_map, hq2] at hle2 ⊢)
    | (at_make; refine wpList_mknc (w0 := w3) elt_u32 rfl _ _ rfl (Ext.refl w3) (m - n + 1) (m - n + 1) rfl rfl (by omega) (by omega) (by omega) (by omega) (by unfold maxLen; omega) ?_; intro v4 w4 z hz hown4 hx4; rw [made_u32 hz] at hown4; have HO4 := Lib.hid hown4; rcases hown4.own.2 with ⟨_, hh⟩ | ⟨G3, c3, cur3, rfl, hG3, _, hnc3, c3m, _, _⟩; (exact absurd hh (by omega)); clear hown4 hz))
  have ow1 : OwL w w4 G1 c1 q1 := ((own_limbs hG1 hB1 (by omega) hc1 hsz1 hr1 hx2).base hx1).step (hx3.trans hx4)
  have ow2 : OwL w w4 G2 c2 q2 := ((own_limbs hG2 hB2 (by omega) hc2 hsz2 hr2 hx3).base (hx1.trans hx2)).step hx4
  have ow3 : OwL w w4 G3 c3 (List.replicate (m - n + 1) 0) := by
    have := HO4.out.base (hx1.trans (hx2.trans hx3))
    unfold OwL
    rw [List.length_replicate, List.map_replicate, show iB 0 = 0 from rfl]
    exact this
  have h12 : G1 ≠ G2 := by omega
  have h13 : G1 ≠ G3 := by have := hx3.size; omega
  have h23 : G2 ≠ G3 := by omega
  have hg1 : w.heap.size ≤ G1 := Nat.le_trans hx1.size hG1
  have hg2 : w.heap.size ≤ G2 := Nat.le_trans (hx1.trans hx2).size hG2
  have hg3 : w.heap.size ≤ G3 := Nat.le_trans (hx1.trans (hx2.trans hx3)).size hG3
  have O1 := Lib.hid ow1
  have O2 := Lib.hid ow2
  have O3 := Lib.hid ow3
  have DV := Lib.hid hdv
  have Q1 := Lib.hid hq1
  have Q2 := Lib.hid hq2
  have Q2v := Lib.hid hq2v
  clear ow1 ow2 ow3 HO4 hB1 hB2 hsz1 hsz2 hr1 hr2 hG1l hG2l hdv hq1 hq2 hq1v hq2v hce
  go_loopw [11] (fun jv wr => ∃ (k : Nat) (R qh : List Limb), jv = .int .i64 ((k : Int) - 1) ∧ LInv (x * 2 ^ s) (y * 2 ^ s) m n w wr G1 c1 G2 c2 G3 c3 q1 k R qh) (fun jv _ => (intOf jv + 1).toNat)
  case atStart => exact ⟨m - n + 1, q2, [], by congr 1; omega, LInv.start Q2.out Q2v.out X1.out O1.out O2.out O3.out⟩
  case round =>
    obtain ⟨k, R, qh, rfl, hk, hR, hql, hlt, heq, ow2, ow3, ow1⟩ := hrel
    by_cases hk0 : k = 0
    · subst hk0
      rw [Nat.pow_zero, Nat.mul_one] at hlt
      rw [Nat.pow_zero, Nat.one_mul] at heq
      rw [List.replicate_zero, List.nil_append] at ow3
      have Y0 : 0 < y * 2 ^ s := Nat.lt_of_le_of_lt (Nat.zero_le _) hlt
      have s0 : 0 < 2 ^ s := Nat.pow_pos (by decide)
      have q1e : nv qh = x / y := by
        have h1 : (x * 2 ^ s) / (y * 2 ^ s) = x / y := Nat.mul_div_mul_right _ _ s0
        rw [← h1, ← heq, Nat.add_mul_div_left _ _ Y0, Nat.div_eq_of_lt hlt, Nat.zero_add]
      have q2e : nv (R.take n) / 2 ^ s = x % y := by
        rw [nv_take_all rfl (Nat.lt_trans hlt Y1.out) (by omega)]
        have h1 : (x * 2 ^ s) % (y * 2 ^ s) = x % y * 2 ^ s := Nat.mul_mod_mul_right _ _ _
        have h2 : nv R = x % y * 2 ^ s := by rw [← h1, ← heq, Nat.add_mul_mod_self_left, Nat.mod_eq_of_lt hlt]
        rw [h2, Nat.mul_div_cancel _ s0]
      have TR := nat_trim_sp qh (by omega)
      have DN := nat_down_sp (R.take n) s hs32 (by rw [List.length_take]; omega)
      rw [q1e] at TR
      rw [q2e] at DN
      have hqw := ow3.win (j := 0) (n := m - n + 1) (c := c3) (by omega) hnc3
      rw [List.drop_zero, List.take_of_length_le (by omega)] at hqw
      have hrw := ow2.win (j := 0) (n := n) (c := c2) (by omega) (by omega)
      rw [List.drop_zero] at hrw
      have HTR := Lib.hid TR
      have HDN := Lib.hid DN
      have QWN := Lib.hid hqw
      have RWN := Lib.hid hrw
      have XT := Lib.hid ow3.ext
      clear TR DN hqw hrw ow1 ow2 ow3 q1e q2e hlt heq
      go_wp2_with fail
      refine region_growL 9 [[], [(0, 77)], [], [], [(2, 79), (3, 80)], [], [(4, 81), (5, 82)], [(1, 78)], [(6, 83)]] [(0, 77), (1, 78), (2, 79), (3, 80), (4, 81), (5, 82), (6, 83), (7, 4), (8, 5)] (by kernel_rfl) (by kernel_rfl) (by kernel_rfl) (by kernel_rfl) ?_
      apply Grow.step
      · intro w2 hw2
        intro K hK
        go_wp2_with fail
        first | exact hK _ _ (Ext.refl _) EqV.rfl_ | trace "op 0"
      · first | exact stay_eq _ | (intro v w w1 h hx; exact SlI.keep h hx) | (intro v w w1 h hx; exact IntV.keep h hx) | (intro v w w1 h hx; exact SlN.keep h hx) | (intro v w w1 h hx; exact h)
      apply Grow.step
      · intro w2 hw2
        intro n1 h1
        simp only [upd, reduceIte, Nat.reduceEqDiff, Nat.reduceAdd] at h1
        first | (unfold EqV at h1; subst h1) | skip
        intro K hK
        go_wp2_with fail
        (refine (sp_sl (t := 22) (vs := [_]) (M := fun b ↦ b < w.heap.size) HTR.out Tryz.func74 (by kernel_rfl) (fun b h ↦ Nat.lt_of_lt_of_le h (XT.out.trans (((Ext.refl _).drew).trans hw2)).size) (by kernel_rfl) rfl (rd_all1 (t := 22) (by kernel_rfl) (win_rd (SlI.keep QWN.out (((Ext.refl _).drew).trans hw2)) c3m (by omega))) (by kernel_rfl) (by kernel_rfl)).mono ?_; rintro e w' ⟨u5, rfl, hu5, hx5⟩; (go_wp2_with fail); exact hK _ _ hx5 hu5)
      · (intro v w1 w2 h hx; exact rd_weak h hx (fun _ h _ => h))
      apply Grow.step
      · intro w2 hw2
        intro K hK
        go_wp2_with fail
        first | exact hK _ _ (Ext.refl _) EqV.rfl_ | trace "op 2"
      · first | exact stay_eq _ | (intro v w w1 h hx; exact SlI.keep h hx) | (intro v w w1 h hx; exact IntV.keep h hx) | (intro v w w1 h hx; exact SlN.keep h hx) | (intro v w w1 h hx; exact h)
      apply Grow.step
      · intro w2 hw2
        intro K hK
        go_wp2_with fail
        first | exact hK _ _ (Ext.refl _) EqV.rfl_ | trace "op 3"
      · first | exact stay_eq _ | (intro v w w1 h hx; exact SlI.keep h hx) | (intro v w w1 h hx; exact IntV.keep h hx) | (intro v w w1 h hx; exact SlN.keep h hx) | (intro v w w1 h hx; exact h)
      apply Grow.step
      · intro w2 hw2
        intro n1 h1
        simp only [upd, reduceIte, Nat.reduceEqDiff, Nat.reduceAdd] at h1
        first | (unfold EqV at h1; subst h1) | skip
        intro n2 h2
        simp only [upd, reduceIte, Nat.reduceEqDiff, Nat.reduceAdd] at h2
        first | (unfold EqV at h2; subst h2) | skip
        intro K hK
        go_wp2_with fail
        first | exact hK _ _ (Ext.refl _) EqV.rfl_ | exact hK _ _ (Ext.refl _) h1 | exact hK _ _ (Ext.refl _) h2 | trace "op 4"
      · first | exact stay_eq _ | (intro v w w1 h hx; exact SlI.keep h hx) | (intro v w w1 h hx; exact IntV.keep h hx) | (intro v w w1 h hx; exact SlN.keep h hx) | (intro v w w1 h hx; exact h)
      apply Grow.step
      · intro w2 hw2
        intro K hK
        go_wp2_with fail
        first | exact hK _ _ (Ext.refl _) EqV.rfl_ | trace "op 5"
      · first | exact stay_eq _ | (intro v w w1 h hx; exact SlI.keep h hx) | (intro v w w1 h hx; exact IntV.keep h hx) | (intro v w w1 h hx; exact SlN.keep h hx) | (intro v w w1 h hx; exact h)
      apply Grow.step
      · intro w2 hw2
        intro n1 h1
        simp only [upd, reduceIte, Nat.reduceEqDiff, Nat.reduceAdd] at h1
        first | (unfold EqV at h1; subst h1) | skip
        intro n2 h2
        simp only [upd, reduceIte, Nat.reduceEqDiff, Nat.reduceAdd] at h2
        first | (unfold EqV at h2; subst h2) | skip
        intro K hK
        go_wp2_with fail
        (refine (sp_sl (t := 22) (vs := [_, _]) (M := fun b ↦ b < w.heap.size) HDN.out Tryz.func100 (by kernel_rfl) (fun b h ↦ Nat.lt_of_lt_of_le h (XT.out.trans (((Ext.refl _).drew).trans hw2)).size) (by kernel_rfl) rfl (rd_all2 (t := 22) (by kernel_rfl) (win_rd (SlI.keep RWN.out (((Ext.refl _).drew).trans hw2)) hc2 (by omega)) (rd_num_ (t := 3) (k := .i64) (by kernel_rfl) (by kernel_rfl) (by kernel_rfl) (by show (-9223372036854775808 : Int) ≤ _; omega) (by show _ ≤ (9223372036854775807 : Int); omega))) (by kernel_rfl) (by kernel_rfl)).mono ?_; rintro e w' ⟨u5, rfl, hu5, hx5⟩; (go_wp2_with fail); exact hK _ _ hx5 hu5)
      · (intro v w1 w2 h hx; exact rd_weak h hx (fun _ h _ => h))
      apply Grow.step
      · intro w2 hw2
        intro n1 h1
        simp only [upd, reduceIte, Nat.reduceEqDiff, Nat.reduceAdd] at h1
        first | (unfold EqV at h1; subst h1) | skip
        intro K hK
        go_wp2_with fail
        ((first | exact hK _ _ (Ext.refl _) h1 | exact hK _ _ (Ext.refl _) h2))
      · (intro v w1 w2 h hx; exact rd_weak h hx (fun _ h _ => h))
      apply Grow.step
      · intro w2 hw2
        intro n1 h1
        simp only [upd, reduceIte, Nat.reduceEqDiff, Nat.reduceAdd] at h1
        first | (unfold EqV at h1; subst h1) | skip
        intro K hK
        go_wp2_with fail
        ((first | exact hK _ _ (Ext.refl _) h1 | exact hK _ _ (Ext.refl _) h2))
      · (intro v w1 w2 h hx; exact rd_weak h hx (fun _ h _ => h))
      refine Grow.last (fun w2 hw2 => ?_)
      intro n77 h77; simp only [upd, reduceIte, Nat.reduceEqDiff, Nat.reduceAdd] at h77; (first | (unfold EqV at h77; subst h77) | skip)
      intro n78 h78; simp only [upd, reduceIte, Nat.reduceEqDiff, Nat.reduceAdd] at h78; (first | (unfold EqV at h78; subst h78) | skip)
      intro n79 h79; simp only [upd, reduceIte, Nat.reduceEqDiff, Nat.reduceAdd] at h79; (first | (unfold EqV at h79; subst h79) | skip)
      intro n80 h80; simp only [upd, reduceIte, Nat.reduceEqDiff, Nat.reduceAdd] at h80; (first | (unfold EqV at h80; subst h80) | skip)
      intro n81 h81; simp only [upd, reduceIte, Nat.reduceEqDiff, Nat.reduceAdd] at h81; (first | (unfold EqV at h81; subst h81) | skip)
      intro n82 h82; simp only [upd, reduceIte, Nat.reduceEqDiff, Nat.reduceAdd] at h82; (first | (unfold EqV at h82; subst h82) | skip)
      intro n83 h83; simp only [upd, reduceIte, Nat.reduceEqDiff, Nat.reduceAdd] at h83; (first | (unfold EqV at h83; subst h83) | skip)
      intro n4 h4; simp only [upd, reduceIte, Nat.reduceEqDiff, Nat.reduceAdd] at h4; (first | (unfold EqV at h4; subst h4) | skip)
      intro n5 h5; simp only [upd, reduceIte, Nat.reduceEqDiff, Nat.reduceAdd] at h5; (first | (unfold EqV at h5; subst h5) | skip)
      refine Need.done ?_
      simp only [List.drop_succ_cons, List.drop_zero]
      go_simp
      go_wp2_with fail
      go_ret2
      exact ⟨_, _, rfl, h4, h5, XT.out.trans (((Ext.refl _).drew).trans hw2)⟩
    · obtain ⟨j, rfl⟩ : ∃ j, k = j + 1 := ⟨k - 1, by omega⟩
      obtain ⟨e1, l1, l2, l3, l4⟩ := long_win (R := R) (n := n) (j := j) (by omega) Y1.out hlt
      have RW := Lib.hid ow2
      have QW := Lib.hid ow3
      have DW := Lib.hid ow1
      have L4 := Lib.hid l4
      have L3 := Lib.hid l3
      have L2 := Lib.hid l2
      have L1 := Lib.hid l1
      have E1 := Lib.hid e1
      have LT := Lib.hid hlt
      have EQ := Lib.hid heq
      clear ow1 ow2 ow3 l1 l2 l3 l4 e1 hlt heq
      have DS : Hid (SlL wr (.slice (some ⟨G1, 0, none⟩) n c1) (q1.take n)) := by
        have := DW.out.win (j := 0) (n := n) (c := c1) (by have := Q1.out; omega) (by omega)
        rwa [List.drop_zero] at this
      have WIN := Lib.hid (RW.out.win (j := j) (n := n + 1) (c := c2 - j) (by omega) (by omega))
      obtain ⟨g, spE, hgl, hgu, hgB⟩ := nat_estimate_ex ((R.drop j).take (n + 1)) (q1.take n) (n - 2) (by have := Q1.out; rw [List.length_take]; omega) (by rw [L2.out]; omega) (by omega) (by rw [DV.out, show n - 2 + 2 = n by omega]; exact Y2.out) (by rw [DV.out]; exact L3.out)
      rw [DV.out] at hgl hgu
      have SPE := Lib.hid spE
      have GL := Lib.hid hgl
      have GU := Lib.hid hgu
      have GB := Lib.hid hgB
      clear spE hgl hgu
      rw [B_eq] at hgB
      have en : j + n + 1 - j = n + 1 := by omega
      go_wp2_with (go_at_call 97; rw [en]; refine (sp_int (t := 55) (vs := [_, _]) (M := fun _ => False) SPE.out Tryz.func97 (by kernel_rfl) (fun _ h => h.elim) (by kernel_rfl) rfl (rd_all2 (t := 22) (u := 22) (by kernel_rfl) (win_rd WIN.out (by omega) id) (win_rd DS.out (by omega) id)) (by kernel_rfl) (k := .u64) (by kernel_rfl)).mono ?_; rintro e w5 ⟨rfl, _, hx5⟩)
      have LEN : Hid ((R.take j ++ (R.drop j).take (n + 1) ++ R.drop (j + (n + 1))).length ≤ 1000000000) := by show _ ≤ _; rw [← E1.out]; omega
      have hq1n : n ≤ q1.length := by have := Q1.out; omega
      have RW5 : Hid (OwL w w5 G2 c2 (R.take j ++ (R.drop j).take (n + 1) ++ R.drop (j + (n + 1)))) := by show OwL _ _ _ _ _; rw [← E1.out]; exact RW.out.step hx5
      have QW5 : Hid (OwL w w5 G3 c3 (List.replicate (j + 1) 0 ++ qh)) := QW.out.step hx5
      have DW5 : Hid (OwL w w5 G1 c1 q1) := DW.out.step hx5
      refine (to_calls hq1n (by omega) L1.out L2.out LEN.out (by omega) hg2 h12 RW5.out DW5.out GB.out).mono ?_
      rintro e w6 ⟨out, b, hb01, rfl, hol, hov, how, hgr⟩
      rw [L2.out] at hol hov
      rw [DV.out] at hov
      have Y0 : Hid (0 < y * 2 ^ s) := by
        rcases Nat.eq_zero_or_pos (y * 2 ^ s) with h0 | h0
        · have := LT.out; rw [h0] at this; omega
        · exact h0
      have YP : Hid (y * 2 ^ s ≤ B ^ (n + 1)) := Nat.le_trans (Nat.le_of_lt Y1.out) (Nat.pow_le_pow_right B_pos (by omega))
      have EX := Lib.hid (to_exact Y0.out YP.out GL.out GU.out (by have := nv_lt out; rwa [hol] at this) hb01 hov)
      have QW6 : Hid (OwL w w6 G3 c3 (List.replicate (j + 1) 0 ++ qh)) := QW5.out.far hgr h23.symm hg2
      have DW6 : Hid (OwL w w6 G1 c1 q1) := DW5.out.far hgr h12 hg2
      have HOW := Lib.hid how
      have HOL := Lib.hid hol
      clear hov how hgr hol
      -- the end of a round
      have fin : Hid (∀ (w7 : World) (o2 : List Limb) (g2 : Nat), o2.length = n + 1 → nv o2 = nv ((R.drop j).take (n + 1)) % (y * 2 ^ s) → g2 = nv ((R.drop j).take (n + 1)) / (y * 2 ^ s) → OwL w w7 G2 c2 (R.take j ++ o2 ++ R.drop (j + (n + 1))) → OwL w w7 G3 c3 (List.replicate (j + 1) 0 ++ qh) → OwL w w7 G1 c1 q1 → g2 < B →
          ∃ (k : Nat) (R' qh' : List Limb), Value.int IntKind.i64 ((j : Int) - 1) = .int .i64 ((k : Int) - 1) ∧ LInv (x * 2 ^ s) (y * 2 ^ s) m n w (w7.setCell ⟨G3, j, none⟩ (.int .u32 (g2 : Int))) G1 c1 G2 c2 G3 c3 q1 k R' qh') := by
        intro w7 o2 g2 t1 t2 t3 t4 t5 t6 t7
        obtain ⟨u1, u2, u3⟩ := L4.out o2 t1 t2
        have gs : w7.grownBy (w7.setCell ⟨G3, j, none⟩ (.int .u32 (g2 : Int))) (some G3) := grown_set (grown_refl _ _) _ _ _
        refine ⟨j, _, BitVec.ofNat 32 g2 :: qh, rfl, by omega, u1.trans hR, by simp; omega, u2, ?_, t4.far gs h23 hg3, ?_, t6.far gs h13 hg3⟩
        · rw [← EQ.out, ← u3, nv, ofNat_lt t7, ← t3, Nat.mul_add, Nat.mul_add, Nat.pow_succ, Nat.mul_assoc (B ^ j)]; omega
        · have := t5.set j (by simp; omega) (BitVec.ofNat 32 g2)
          rw [ofNat_lt t7, quo_set] at this
          exact this
      by_cases hb0 : b = 0
      · subst hb0
        obtain ⟨cl, fz, gb, gl⟩ := QW6.out.cell j (by simp; omega)
        obtain ⟨e2, e3⟩ := EX.out.1 rfl
        have E2 := Lib.hid e2
        have E3 := Lib.hid e3
        clear e2 e3
        go_wp2
        go_roundw
        case rel => exact fin.out _ out g HOL.out E3.out E2.out HOW.out QW6.out DW6.out GB.out
        case measure => (simp [intOf] <;> omega)
      · obtain ⟨e2, e3⟩ := EX.out.2 hb0
        obtain ⟨g', rfl⟩ : ∃ g', g = g' + 1 := ⟨_, e2⟩
        have E2 : Hid (g' = nv ((R.drop j).take (n + 1)) / (y * 2 ^ s)) := Nat.succ.inj e2
        have E3 := Lib.hid e3
        have hbz : (!(b == 0)) = true := by simp [hb0]
        have HGB' : Hid (g' < B) := Nat.lt_of_succ_lt GB.out
        have eg : (((g' + 1 : Nat) : Int) - 1) = (g' : Int) := by omega
        clear e2 e3
        go_wp2_with fail
        have LEN6 : Hid ((R.take j ++ out ++ R.drop (j + (n + 1))).length ≤ 1000000000) := by
          have h1 := LEN.out
          simp only [List.length_append, L2.out, HOL.out] at h1 ⊢
          exact h1
        refine (pb_calls hq1n (by omega) L1.out HOL.out LEN6.out (by omega) hg2 h12 HOW.out DW6.out).mono ?_
        rintro e w7 ⟨out2, b2, v, rfl, hol2, hov2, how2, hgr2⟩
        rw [HOL.out] at hol2 hov2
        rw [DV.out] at hov2
        have E4 := Lib.hid (E3.out (nv out2) b2 (by have := nv_lt out2; rwa [hol2] at this) hov2)
        have QW7 : Hid (OwL w w7 G3 c3 (List.replicate (j + 1) 0 ++ qh)) := QW6.out.far hgr2 h23.symm hg2
        have DW7 : Hid (OwL w w7 G1 c1 q1) := DW6.out.far hgr2 h12 hg2
        have HOW2 := Lib.hid how2
        have HOL2 := Lib.hid hol2
        obtain ⟨cl, fz, gb, gl⟩ := QW7.out.cell j (by simp; omega)
        have hgB' := HGB'.out
        rw [B_eq] at hgB'
        clear hov2 how2 hgr2 hol2 hgB
        go_wp2
        go_roundw
        case rel => exact fin.out _ out2 g' HOL2.out E4.out E2.out HOW2.out QW7.out DW7.out HGB'.out
        case measure => (simp [intOf] <;> omega)
theorem nat_long_sp (x y : Nat) (h1 : 1 < (lb y).length) (hxy : y ≤ x) (hl : (lb x).length ≤ 100000) : Sp 91 [dL (lb x), dL (lb y)] [dL (lb (x / y)), dL (lb (x % y))] := by
  refine spec_of wfP Tryz.func91 (by kernel_rfl) (by kernel_rfl) (by kernel_rfl) (fun w M vs hM _ hlv hrd => ?_)
  have hps : Tryz.f91.params.toList = [22, 22] := by kernel_rfl
  have hlen : vs.length = 2 := by rw [hlv]; rfl
  match vs, hlen with
  | [va, vb], _ =>
    rw [hps] at hrd
    refine (long_any x y va vb w M (hrd 0 _ _ _ rfl rfl rfl) (hrd 1 _ _ _ rfl rfl rfl) hM h1 hxy hl).mono ?_
    rintro e w' ⟨u1, u2, rfl, r1, r2, hx⟩
    refine ⟨[u1, u2], rfl, rfl, fun i t u ht hu => ?_, hx⟩
    rw [show Tryz.f91.resultTypes.toList = [22, 22] by kernel_rfl] at ht
    match i with
    | 0 => cases ht; cases hu; exact rd_weak r1 (Ext.refl _) (fun b hb _ => hM b hb)
    | 1 => cases ht; cases hu; exact rd_weak r2 (Ext.refl _) (fun b hb _ => hM b hb)
    | i + 2 => simp at ht
theorem longOk (x y : Nat) (hl : (lb x).length ≤ 100000) : LongOk x y := fun h1 h2 => nat_long_sp x y h1 h2 hl
end Go.Proofs.YtcdjifdllibolaaGreat

set_option maxRecDepth 100000
namespace Go.Proofs.YtcdjifdllibolaaGreat

/-- A ratio as it stands. -/
def frac (z : Int) (d : Nat) : Num := ⟨decide (z < 0), lb z.natAbs, lb d⟩
theorem numT_frac (z : Int) (d : Nat) : numT (frac z d) = z := zv_wz z
theorem numB_frac (z : Int) (d : Nat) : numB (frac z d) = (d : Int) := by simp [numB, frac, nv_lb]
theorem lbn_one : lb 1 = [1] := by rw [lb_pos (by decide), show 1 / B = 0 from rfl, lb_zero]; rfl
theorem mkR_cases (p q : Int) (hq : q ≠ 0) : ∃ (z : Int) (d : Nat), d ≠ 0 ∧ Nat.Coprime z.natAbs d ∧ z * q = p * (d : Int) ∧ z.natAbs ≤ p.natAbs ∧ d ≤ q.natAbs ∧ mkR p q = if 32 < lenZ z ∨ 32 < (lb d).length then (.zero, 7) else (frac z d, 0) := by
  have hg : 0 < Nat.gcd p.natAbs q.natAbs := Nat.gcd_pos_of_pos_right _ (by omega)
  obtain ⟨a, ha⟩ := Nat.gcd_dvd_left p.natAbs q.natAbs
  obtain ⟨b, hb⟩ := Nat.gcd_dvd_right p.natAbs q.natAbs
  have hda : p.natAbs / Nat.gcd p.natAbs q.natAbs = a := by
    conv => lhs; lhs; rw [ha]
    exact Nat.mul_div_cancel_left _ hg
  have hdb : q.natAbs / Nat.gcd p.natAbs q.natAbs = b := by
    conv => lhs; lhs; rw [hb]
    exact Nat.mul_div_cancel_left _ hg
  have hcop : Nat.Coprime a b := by
    have := Nat.coprime_div_gcd_div_gcd hg
    rwa [hda, hdb] at this
  have hb0 : b ≠ 0 := fun h => by rw [h, Nat.mul_zero] at hb; omega
  have ha0 : a = 0 ↔ p = 0 := by
    constructor
    · intro h; rw [h, Nat.mul_zero] at ha; omega
    · intro h
      rw [h] at ha
      simp only [Int.natAbs_zero] at ha
      rcases Nat.mul_eq_zero.1 ha.symm with h1 | h1
      · rw [h] at hg; simp only [Int.natAbs_zero] at hg; omega
      · exact h1
  have hal : a ≤ p.natAbs := by rw [ha]; exact Nat.le_mul_of_pos_left _ hg
  have hbl : b ≤ q.natAbs := by rw [hb]; exact Nat.le_mul_of_pos_left _ hg
  have hab : a * q.natAbs = p.natAbs * b := by
    conv => lhs; rw [hb]
    conv => rhs; rw [ha]
    rw [Nat.mul_left_comm, Nat.mul_assoc]
  unfold mkR
  rw [if_neg hq, hda, hdb]
  generalize Nat.gcd p.natAbs q.natAbs = g at *
  clear hda hdb ha hb hg
  have habz : (a : Int) * (q.natAbs : Int) = (p.natAbs : Int) * (b : Int) := by rw [← Int.natCast_mul, hab, Int.natCast_mul]
  by_cases hs : decide (p < 0) = decide (q < 0)
  · refine ⟨(a : Int), b, hb0, by simpa using hcop, ?_, by simpa using hal, hbl, ?_⟩
    · rw [decide_eq_decide] at hs
      by_cases hp : p < 0
      · have e1 : (p.natAbs : Int) = -p := by omega
        have e2 : (q.natAbs : Int) = -q := by omega
        rw [e1, e2] at habz
        grind
      · have e1 : (p.natAbs : Int) = p := by omega
        have e2 : (q.natAbs : Int) = q := by omega
        rw [e1, e2] at habz
        exact habz
    · unfold frac lenZ
      rw [hs, beq_self_eq_true, Bool.not_true, Bool.and_false]
      simp only [Int.natAbs_natCast]
      rw [decide_eq_false (p := ((a : Int) < 0)) (by omega)]
  · have hp : (decide (p < 0) == decide (q < 0)) = false := by simpa using hs
    refine ⟨-(a : Int), b, hb0, by simpa using hcop, ?_, by simpa using hal, hbl, ?_⟩
    · rw [decide_eq_decide] at hs
      by_cases hp : p < 0
      · have e1 : (p.natAbs : Int) = -p := by omega
        have e2 : (q.natAbs : Int) = q := by omega
        rw [e1, e2] at habz
        grind
      · have e1 : (p.natAbs : Int) = p := by omega
        have e2 : (q.natAbs : Int) = -q := by omega
        rw [e1, e2] at habz
        grind
    · unfold frac lenZ
      rw [hp, Bool.not_false, Bool.and_true]
      simp only [Int.natAbs_neg, Int.natAbs_natCast]
      have : decide (0 < (lb a).length) = decide (-(a : Int) < 0) := by
        rw [decide_eq_decide]
        have := lb_len0 (n := a)
        omega
      rw [this]
theorem cop_unique {z z' : Int} {d d' : Nat} (h : d ≠ 0) (h' : d' ≠ 0) (c : Nat.Coprime z.natAbs d) (c' : Nat.Coprime z'.natAbs d') (e : z * (d' : Int) = z' * (d : Int)) : z = z' ∧ d = d' := by
  have en : z.natAbs * d' = z'.natAbs * d := by
    have := congrArg Int.natAbs e
    simpa [Int.natAbs_mul] using this
  have h1 : d ∣ d' := (Nat.Coprime.dvd_of_dvd_mul_left c.symm (by rw [en]; exact Nat.dvd_mul_left _ _))
  have h2 : d' ∣ d := (Nat.Coprime.dvd_of_dvd_mul_left c'.symm (by rw [← en]; exact Nat.dvd_mul_left _ _))
  have hd := Nat.dvd_antisymm h1 h2
  subst hd
  exact ⟨Int.eq_of_mul_eq_mul_right (by omega) e, rfl⟩
/-- A right number: so many of such parts. -/
structure RNum (n : Num) (z : Int) (d : Nat) : Prop where
  eq : n = frac z d
  d0 : d ≠ 0
  cop : Nat.Coprime z.natAbs d
  lz : lenZ z ≤ 32
  ld : (lb d).length ≤ 32
theorem mkR_self {z : Int} {d : Nat} (h0 : d ≠ 0) (hc : Nat.Coprime z.natAbs d) (h1 : lenZ z ≤ 32) (h2 : (lb d).length ≤ 32) : mkR z (d : Int) = (frac z d, 0) := by
  obtain ⟨z', d', h1', h2', h3', _, _, h4'⟩ := mkR_cases z (d : Int) (by omega)
  obtain ⟨rfl, rfl⟩ := cop_unique h0 h1' hc h2' h3'.symm
  rw [h4', if_neg (by omega)]
theorem RNum.self {n : Num} {z : Int} {d : Nat} (h : RNum n z d) : mkR z (d : Int) = (n, 0) := by rw [mkR_self h.d0 h.cop h.lz h.ld, h.eq]
theorem RNum.top {n : Num} {z : Int} {d : Nat} (h : RNum n z d) : numT n = z := by rw [h.eq, numT_frac]
theorem RNum.bot {n : Num} {z : Int} {d : Nat} (h : RNum n z d) : numB n = (d : Int) := by rw [h.eq, numB_frac]
theorem RNum.right {n : Num} {z : Int} {d : Nat} (h : RNum n z d) : rightN n = true := by
  unfold rightN
  rw [h.top, h.bot, h.self]
  have h1 := h.lz
  have h2 := h.ld
  rw [h.eq]
  exact decide_eq_true ⟨h1, h2, rfl⟩
theorem rn_of {n : Num} (h : rightN n = true) : ∃ z d, RNum n z d := by
  unfold rightN at h
  obtain ⟨h1, h2, h3⟩ := of_decide_eq_true h
  by_cases hq : numB n = 0
  · rw [hq] at h3
    have := congrArg Prod.snd h3
    simp [mkR] at this
  · obtain ⟨z, d, g1, g2, _, _, _, g4⟩ := mkR_cases (numT n) (numB n) hq
    rw [h3] at g4
    split at g4
    · cases g4
    · injection g4 with g4
      exact ⟨z, d, g4, g1, g2, by omega, by omega⟩
theorem RNum.len {n : Num} {z : Int} {d : Nat} (h : RNum n z d) : n.top.length ≤ 32 ∧ n.bot.length ≤ 32 := by rw [h.eq]; exact ⟨h.lz, h.ld⟩
theorem nat_small_sp (a b : Nat) (ha : a < 18446744073709551616) (hb : b < 18446744073709551616) : Sp 75 [.int (a : Int), .int (b : Int)] [dL (lb (Nat.gcd a b))] := by
  have key : ∀ (m N x y : Nat), y < m → x < 18446744073709551616 → y < 18446744073709551616 → Tw (nat_small_l1 N m (x : Int) (y : Int)) [dL (lb (Nat.gcd x y))] := by
    intro m
    induction m with
    | zero => intro N x y h; omega
    | succ m ih =>
      intro N x y h hx hy
      simp only [Tw, nat_small_l1_succ, int_bne, int_beq, not_dec]
      refine wp_decs (fun h0 => ?_) (fun h0 => ?_)
      · have hm := Nat.mod_lt x (show 0 < y by omega)
        have := ih N y (x % y) (by omega) hy (by omega)
        rw [Nat.gcd_comm x y, Nat.gcd_rec, Nat.gcd_comm]
        exact wp_dec (by omega) this
      · have : y = 0 := by omega
        subst this
        rw [Nat.gcd_zero_right, fdiv32]
        have e1 : IntKind.wrap .u32 (x : Int) = ((x % 4294967296 : Nat) : Int) := by rw [IntKind.wrap_u32]; omega
        have e2 : IntKind.wrap .u32 ((x / 4294967296 : Nat) : Int) = ((x / 4294967296 : Nat) : Int) := wrapU32 (by omega) (by omega)
        have nm := nat_Norm_sp [BitVec.ofNat 32 (x % 4294967296), BitVec.ofNat 32 (x / 4294967296)] (by simp)
        rw [two_limbs hx] at nm
        rw [e1, e2, dB_ofNat (t := x % 4294967296) (by rw [B_eq]; omega), dB_ofNat (t := x / 4294967296) (by rw [B_eq]; omega)]
        exact wp_tt (by decide) (wp_call nm (wp_ret rfl))
  refine sound_ (b + 1) (nat_small_tree _ _ _) ?_
  simp only [toInt_int]
  exact key (b + 1) (b + 1) a b (by omega) ha hb
theorem nat_word_sp (l : List Limb) (h : l.length ≤ 2) : Sp 76 [dL l] [.int ((nv l : Nat) : Int)] := by
  refine sound_ 3 (nat_word_tree _ _) ?_
  have one : ∀ (m k x : Nat) (d : Limb), k ≤ 1 → l[k]? = some d → (k = 0 → x = 0) → x < 4294967296 → Tw (nat_word_l3 3 m ((x + d.toNat * 4294967296 ^ k : Nat) : Int) (dL l) (l.length : Int) ((k + 1 : Nat) : Int)) [.int ((nv l : Nat) : Int)] → Tw (nat_word_l3 3 (m + 1) (x : Int) (dL l) (l.length : Int) (k : Int)) [.int ((nv l : Nat) : Int)] := by
    intro m k x d hk hd hx hx2 hw
    have hkl : k < l.length := (List.getElem?_eq_some_iff.1 hd).1
    have hdl := limb_lt d
    rw [B_eq] at hdl
    simp only [Tw, nat_word_l3_succ, els_dL, List.length_map, Int.toNat_natCast, getD_map hd, toInt_dB]
    rw [wrap64 (x := 32 * (k : Int)) (by omega) (by omega), wrapU64 (x := 32 * (k : Int)) (by omega) (by omega), wrapU64 (x := (d.toNat : Int)) (by omega) (by omega), wrap_succ (by omega)]
    refine wp_dec (by omega) (wp_dec (by omega) (wp_dec (by omega) (wp_dec (by omega) ?_)))
    have e : bits_ .or .u64 (x : Int) (IntKind.wrap .u64 ((d.toNat : Int) * 2 ^ (min (Int.toNat (32 * (k : Int))) (IntKind.bits .u64)))) = ((x + d.toNat * 4294967296 ^ k : Nat) : Int) := by
      rcases (by omega : k = 0 ∨ k = 1) with rfl | rfl
      · rw [hx rfl]
        show bits_ .or .u64 ((0 : Nat) : Int) (IntKind.wrap .u64 ((d.toNat : Int) * 1)) = _
        rw [Int.mul_one, wrapU64 (by omega) (by omega), or64 (by omega) (by omega)]
        simp
      · show bits_ .or .u64 (x : Int) (IntKind.wrap .u64 ((d.toNat : Int) * 4294967296)) = _
        rw [show (d.toNat : Int) * 4294967296 = ((d.toNat * 4294967296 : Nat) : Int) by omega, wrapU64 (by omega) (by omega), or_limb hx2 hdl]
        try simp
    rw [e]
    exact hw
  simp only [els_dL, List.length_map]
  have fin : ∀ (m x : Nat), nv l = x → Tw (nat_word_l3 3 (m + 1) (x : Int) (dL l) (l.length : Int) (l.length : Int)) [.int ((nv l : Nat) : Int)] := by
    intro m x hx
    simp only [Tw, nat_word_l3_succ]
    exact wp_ndec (by omega) (wp_ret (by rw [hx]))
  match l, h with
  | [], _ => exact fin 2 0 rfl
  | [d], _ =>
    refine one 2 0 0 d (by omega) rfl (fun _ => rfl) (by omega) ?_
    exact fin 1 _ (by simp [nv])
  | [d, e], _ =>
    have hdl := limb_lt d
    rw [B_eq] at hdl
    refine one 2 0 0 d (by omega) rfl (fun _ => rfl) (by omega) ?_
    rw [show 0 + d.toNat * 4294967296 ^ 0 = d.toNat by simp]
    refine one 1 1 d.toNat e (by omega) rfl (fun h => by omega) (by omega) ?_
    refine fin 0 _ ?_
    simp only [nv]
    rw [B_eq, Nat.pow_one, Nat.mul_comm e.toNat]
    simp
theorem nat_Gcd_sp (a b : List Limb) (ha : a.length ≤ 1000) (hb : b.length ≤ 1000) : Sp 56 [dL a, dL b] [dL (lb (Nat.gcd (nv a) (nv b)))] := by
  obtain ⟨K, hK⟩ : ∃ K, K = 1000 := ⟨_, rfl⟩
  have key : ∀ (m N x y : Nat), y < m → (lb x).length ≤ K → (lb y).length ≤ K → Tw (nat_Gcd_l2 N m (dL (lb x)) (dL (lb y))) [dL (lb (Nat.gcd x y))] := by
    intro m
    induction m with
    | zero => intro N x y h; omega
    | succ m ih =>
      intro N x y h hx hy
      simp only [Tw, nat_Gcd_l2_succ, els_dL, List.length_map]
      have ly0 := lb_len0 (n := y)
      refine wp_decs (fun h0 => ?_) (fun h0 => ?_)
      · have hy0 : y ≠ 0 := fun hh => by rw [ly0.2 hh] at h0; omega
        have hm := Nat.mod_lt x (show 0 < y by omega)
        have hml : (lb (x % y)).length ≤ K := lb_len.2 (Nat.lt_of_le_of_lt (Nat.le_of_lt hm) (lb_len.1 hy))
        have dm := nat_DivMod_sp (lb x) (lb y) (by omega) (by omega) (longOk _ _ (by rw [nv_lb]; omega))
        rw [nv_lb, nv_lb, if_neg hy0] at dm
        have nxt := ih N y (x % y) (by omega) hy hml
        rw [show Nat.gcd y (x % y) = Nat.gcd x y by rw [Nat.gcd_comm x y, Nat.gcd_rec y x, Nat.gcd_comm]] at nxt
        refine wp_decs (fun h1 => wp_decs (fun h2 => ?_) (fun h2 => wp_call dm nxt)) (fun h1 => wp_call dm nxt)
        have w1 := nat_word_sp (lb x) (by omega)
        have w2 := nat_word_sp (lb y) (by omega)
        rw [nv_lb] at w1 w2
        have b1 : x < 18446744073709551616 := lb_len.1 (show (lb x).length ≤ 2 by omega)
        have b2 : y < 18446744073709551616 := lb_len.1 (show (lb y).length ≤ 2 by omega)
        exact wp_call w1 (wp_call w2 (wp_call (nat_small_sp x y b1 b2) (wp_ret rfl)))
      · have : y = 0 := ly0.1 (by omega)
        subst this
        have nm := nat_Norm_sp (lb x) (by omega)
        rw [nv_lb] at nm
        rw [Nat.gcd_zero_right]
        exact wp_call nm (wp_ret rfl)
  have la : (lb (nv a)).length ≤ a.length := lb_len.2 (nv_lt a)
  have lb_ : (lb (nv b)).length ≤ b.length := lb_len.2 (nv_lt b)
  refine sound_ (nv b + 1) (nat_Gcd_tree _ _ _) (wp_call (nat_trim_sp a (by omega)) (wp_call (nat_trim_sp b (by omega)) ?_))
  exact key (nv b + 1) (nv b + 1) (nv a) (nv b) (by omega) (by omega) (by omega)
theorem zv_sgn {w : Wh} (h : nv w.mag ≠ 0) : decide (zv w < 0) = w.neg := by
  rw [show w.neg = decide (w.neg = true) by simp, decide_eq_decide]; exact zv_neg h
end Go.Proofs.YtcdjifdllibolaaGreat

set_option maxRecDepth 100000
namespace Go.Proofs.YtcdjifdllibolaaGreat
theorem bool_false {b : Bool} (h : ¬ b = true) : b = false := by cases b with | false => rfl | true => exact absurd rfl h
/-- No 0 on top, and not too many. -/
def trimD (l : List Limb) : Bool := decide (l.length ≤ 32) && (decide (l = []) || decide (lb (nv l) = l))
theorem can_iff (l : List Limb) (h : l ≠ []) : lb (nv l) = l ↔ (l.getLast h).toNat ≠ 0 := by
  constructor
  · intro he h0
    have hne : lb (nv l) ≠ [] := by rw [he]; exact h
    have := lb_last hne
    have e2 : (lb (nv l)).getLast hne = l.getLast h := by simp only [he]
    rw [e2] at this
    exact this (BitVec.eq_of_toNat_eq (by simpa using h0))
  · intro h0
    exact lb_can (fun hne hz => h0 (by rw [hz]; rfl))
theorem ratio_trimmed_sp (l : List Limb) : Sp 54 [dL l] [.bool (trimD l)] := by
  refine sound_ 0 (ratio_trimmed_tree _ _) ?_
  simp only [dA_0, dA_1, dA_2, dC_0, dC_1, dC_2, dC_3, dC_4, dN_0, dN_1, dN_2, els_sl, els_dI, els_dL, List.length_map, Int.toNat_natCast, toInt_int, toInt_dB, toBool_bool, getD_c0, getD_c1, int_beq, int_bne, not_dec, dInt_dB, Int.toNat_zero]
  unfold trimD
  refine wp_decs (fun h1 => ?_) (fun h1 => wp_ret (by rw [decide_eq_false (by omega)]; rfl))
  rw [show decide (l.length ≤ 32) = true from decide_eq_true (by omega), Bool.true_and]
  refine wp_decs (fun h2 => wp_ret ?_) (fun h2 => ?_)
  · rw [show decide (l = []) = true from decide_eq_true (List.length_eq_zero_iff.1 (by omega))]; rfl
  · have hne : l ≠ [] := fun h => h2 (by rw [h]; rfl)
    have hk : l.length - 1 < l.length := by omega
    have e1 : IntKind.wrap .i64 ((l.length : Int) - 1) = ((l.length - 1 : Nat) : Int) := by rw [wrap64 (by omega) (by omega)]; omega
    rw [e1]
    refine wp_dec (by omega) (wp_dec (by omega) (wp_ret ?_))
    rw [Int.toNat_natCast, getD_map (List.getElem?_eq_getElem hk), toInt_dB, ← List.getLast_eq_getElem hne]
    rw [show decide (l = []) = false from decide_eq_false hne, Bool.false_or]
    congr 2
    rw [decide_eq_decide, can_iff l hne]; omega
/-- Whether a number may be, is as the document says. -/
def RN (n : Num) : Prop := Sp 24 [dN n] [.bool (rightN n)]
theorem trimD_lb {n : Nat} (h : (lb n).length ≤ 32) : trimD (lb n) = true := by unfold trimD; rw [nv_lb]; simp [h]
theorem trimD_can {l : List Limb} (h : trimD l = true) : l.length ≤ 32 ∧ lb (nv l) = l := by
  unfold trimD at h
  simp only [Bool.and_eq_true, Bool.or_eq_true, decide_eq_true_eq] at h
  refine ⟨h.1, ?_⟩
  rcases h.2 with rfl | h2
  · exact lb_zero
  · exact h2
/-- What a right number is, bit by bit. -/
theorem rightN_form (n : Num) : rightN n = true ↔ (trimD n.top = true ∧ trimD n.bot = true ∧ n.bot ≠ [] ∧ ¬ (n.top = [] ∧ n.neg = true) ∧ Nat.gcd (nv n.top) (nv n.bot) = 1) := by
  constructor
  · intro h
    obtain ⟨z, d, hr⟩ := rn_of h
    have h1 := hr.lz
    have h2 := hr.ld
    have h3 := hr.d0
    have h4 := hr.cop
    have he := hr.eq
    subst he
    refine ⟨trimD_lb h1, trimD_lb h2, fun hb => h3 (lb_len0.1 (by rw [show lb d = [] from hb]; rfl)), fun ⟨g1, g2⟩ => ?_, ?_⟩
    · have : z.natAbs = 0 := lb_len0.1 (by rw [show lb z.natAbs = [] from g1]; rfl)
      have hz : z < 0 := of_decide_eq_true g2
      omega
    · show Nat.gcd (nv (lb z.natAbs)) (nv (lb d)) = 1
      rw [nv_lb, nv_lb]; exact h4
  · rintro ⟨h1, h2, h3, h4, h5⟩
    obtain ⟨a1, a2⟩ := trimD_can h1
    obtain ⟨b1, b2⟩ := trimD_can h2
    have habs : (numT n).natAbs = nv n.top := zv_abs ⟨n.neg, n.top⟩
    have hneg : decide (numT n < 0) = n.neg := by
      by_cases h0 : nv n.top = 0
      · have : n.top = [] := by rw [← a2, h0, lb_zero]
        have e1 : n.neg = false := bool_false (fun hh => h4 ⟨this, hh⟩)
        rw [e1, decide_eq_false (by omega)]
      · exact zv_sgn (w := ⟨n.neg, n.top⟩) h0
    have hr : RNum n (numT n) (nv n.bot) := by
      refine ⟨?_, fun hh => h3 (by rw [← b2, hh, lb_zero]), by show Nat.gcd _ _ = 1; rw [habs]; exact h5, ?_, by rw [b2]; exact b1⟩
      · unfold frac
        rw [hneg, habs, a2, b2]
      · show (lb (numT n).natAbs).length ≤ 32
        rw [habs, a2]; exact a1
    exact hr.right
theorem rn_any (n : Num) : RN n := by
  refine sound_ 0 (ratio_Right_tree _ _) ?_
  simp only [dA_0, dA_1, dA_2, dC_0, dC_1, dC_2, dC_3, dC_4, dN_0, dN_1, dN_2, els_sl, els_dI, els_dL, List.length_map, Int.toNat_natCast, toInt_int, toInt_dB, toBool_bool, getD_c0, getD_c1, int_beq, int_bne, not_dec, dInt_dB, Int.toNat_zero]
  have no : ∀ {p : Prop}, ¬ p → (rightN n = true → p) → D.bool false = D.bool (rightN n) := fun h1 h2 => by rw [bool_false (fun h => h1 (h2 h))]
  have form := rightN_form n
  refine wp_call (ratio_trimmed_sp _) (wp_br (fun g1 => wp_ret ?_) (fun g1 => wp_call (ratio_trimmed_sp _) (wp_br (fun g2 => wp_ret ?_) (fun g2 => wp_decs (fun g3 => wp_ret ?_) (fun g3 => ?_)))))
  · rw [no (p := trimD n.top = true) (by simpa using g1) (fun h => (form.1 h).1)]
  · rw [no (p := trimD n.bot = true) (by simpa using g2) (fun h => (form.1 h).2.1)]
  · rw [no (p := n.bot ≠ []) (by have := List.length_eq_zero_iff.1 (show n.bot.length = 0 by omega); simp [this]) (fun h => (form.1 h).2.2.1)]
  have t1 : trimD n.top = true := by simpa using g1
  have t2 : trimD n.bot = true := by simpa using g2
  have t3 : n.bot ≠ [] := fun h => g3 (by rw [h]; rfl)
  have l1 := (trimD_can t1).1
  have l2 := (trimD_can t2).1
  have fin : ¬ (n.top = [] ∧ n.neg = true) → Tw (.call 55 [] [dL n.bot] fun y => .br ((y.getD 0 D.nil).toBool) (.ret [D.bool true])
      (.call 56 [] [dL n.top, dL n.bot] fun y => .call 55 [] [y.getD 0 D.nil] fun y => .ret [D.bool ((y.getD 0 D.nil).toBool)])) [.bool (rightN n)] := fun h4 => by
    refine wp_call (ratio_isOne_sp n.bot) ?_
    simp only [getD_c0, toBool_bool]
    refine wp_decs (fun h5 => wp_ret ?_) (fun h5 => wp_call (nat_Gcd_sp n.top n.bot (by omega) (by omega)) (wp_call (ratio_isOne_sp _) (wp_ret ?_)))
    · rw [form.2 ⟨t1, t2, t3, h4, by rw [h5, show nv [1] = 1 from rfl]; exact Nat.gcd_one_right _⟩]
    · simp only [getD_c0, toBool_bool]
      congr 2
      rw [Bool.eq_iff_iff, form, decide_eq_true_eq]
      constructor
      · intro h
        refine ⟨t1, t2, t3, h4, ?_⟩
        have := congrArg nv h
        rw [nv_lb] at this; exact this
      · rintro ⟨_, _, _, _, h⟩
        rw [h]; exact lbn_one
  refine wp_decs (fun g4 => wp_br (fun g5 => wp_ret ?_) (fun g5 => fin (fun h => by rw [g5] at h; cases h.2))) (fun g4 => fin (fun h => g4 (by rw [h.1]; rfl)))
  rw [no (p := ¬ (n.top = [] ∧ n.neg = true)) (fun h => h ⟨List.length_eq_zero_iff.1 (by omega), g5⟩) (fun h => (form.1 h).2.2.2.1)]
theorem ref06_In_sp (l : List Int) (x : Int) (hl : l.length ≤ 1000000) : Sp 66 [dI l, .int x] [.bool (decide (x ∈ l))] := by
  refine sound_ (l.length + 1) (ref06_In_tree _ _ _) ?_
  simp only [toInt_int]
  have key := loop_list (P := Tryz.prog) (md := md) l (fun m k (_ : Unit) => ref06_In_l2 (l.length + 1) m (dI l) x (k : Int)) (fun rest _ => [.bool (decide (x ∈ rest))]) (fun _ _ => True)
    (fun m k _ hk _ => by
      simp only [ref06_In_l2_succ, els_dI, List.length_map]
      exact wp_ndec (by omega) (wp_ret (by simp)))
    (fun m k _ y rest hdr _ ih => by
      obtain ⟨h1, h2, _⟩ := drop_cons hdr
      simp only [ref06_In_l2_succ, els_dI, List.length_map, Int.toNat_natCast, getD_map h2, toInt_int, int_beq, wrap_succ (show k < 9223372036854775807 by omega)]
      refine wp_dec (by omega) (wp_dec (by omega) (wp_dec (by omega) (wp_decs (fun h => wp_ret ?_) (fun h => ?_))))
      · rw [h]; simp
      · refine Tree.wp_mono (ih () trivial) (fun ys hy => hy.trans ?_)
        rw [show decide (x ∈ y :: rest) = decide (x ∈ rest) by rw [decide_eq_decide, List.mem_cons]; exact ⟨fun hh => hh.resolve_left (fun e => h e.symm), fun hh => .inr hh⟩])
    (l.length + 1) 0 () (by omega) (by omega) trivial
  exact key
end Go.Proofs.YtcdjifdllibolaaGreat

set_option maxRecDepth 100000
namespace Go.Proofs.YtcdjifdllibolaaGreat
def arrK (k : Int) : Bool := decide (1 ≤ k ∧ k ≤ 16 ∧ k ≠ 10)
def funK (k : Int) : Bool := decide (17 ≤ k ∧ k ≤ 24)
def plaK (k : Int) : Bool := decide (17 ≤ k ∧ k ≤ 21)
def funsL : List Int := [43, 45, 215, 247, 8968, 8970, 124, 42, 33, 126, 60, 8804, 61, 8805, 62, 8800, 8743, 8744, 9076, 44, 9066, 9021, 8854, 9033, 8593, 8595, 8834, 8835, 8801, 8802, 9075, 8714, 8746, 8745, 9080, 9035, 9042, 8866, 8867]
def opsL : List Int := [47, 9023, 92, 9024, 168, 9064, 9060, 9059, 8728, 46]
def marksL : List Int := [40, 41, 91, 93, 123, 125, 59, 58, 8900, 8592, 9082, 9077, 8711, 9109, 9054, 39, 9053]
def clsC (c : Int) : Int := if c = 32 ∨ c = 9 then 1 else if (97 ≤ c ∧ c ≤ 122) ∨ (65 ≤ c ∧ c ≤ 90) ∨ c = 95 then 2 else if (48 ≤ c ∧ c ≤ 57) ∨ c = 175 then 3 else if c ∈ funsL then 4 else if c ∈ opsL then 5 else if c ∈ marksL then 6 else 0
def monsL : List Int := [47, 9023, 92, 9024, 168, 9064]
def dyosL : List Int := [46, 8728, 9060, 9059]
def glyC (c : Int) : Bool := decide (c ∈ funsL) || decide (c ∈ [(47 : Int), 9023, 92, 9024])
theorem cls_four (c : Int) : decide (clsC c = 4) = decide (c ∈ funsL) := by
  rw [decide_eq_decide]
  unfold clsC
  constructor
  · intro h
    split at h
    · omega
    split at h
    · omega
    split at h
    · omega
    split at h
    · assumption
    split at h
    · omega
    split at h <;> omega
  · intro h
    have : c = 43 ∨ c = 45 ∨ c = 215 ∨ c = 247 ∨ c = 124 ∨ c = 42 ∨ c = 33 ∨ c = 126 ∨ c = 60 ∨ c = 61 ∨ c = 62 ∨ c = 44 ∨ 8000 ≤ c := by
      simp only [funsL, List.mem_cons, List.not_mem_nil, or_false] at h
      omega
    rw [if_neg (by omega), if_neg (by omega), if_neg (by omega), if_pos h]
theorem tree_Array_sp (k : Int) : Sp 40 [.int k] [.bool (arrK k)] := by
  refine sound_ 0 (tree_Array_tree _ _) ?_
  simp only [toInt_int, int_bne]
  unfold arrK
  refine wp_decs (fun h1 => wp_decs (fun h2 => wp_ret ?_) (fun h2 => wp_ret ?_)) (fun h1 => wp_ret ?_)
  · rw [show decide (1 ≤ k ∧ k ≤ 16 ∧ k ≠ 10) = decide (¬ k = 10) from decide_eq_decide.2 ⟨fun h => h.2.2, fun h => ⟨h1, h2, h⟩⟩]
  · rw [decide_eq_false (by omega)]
  · rw [decide_eq_false (by omega)]
theorem tree_Func_sp (k : Int) : Sp 62 [.int k] [.bool (funK k)] := by
  refine sound_ 0 (tree_Func_tree _ _) ?_
  simp only [toInt_int]
  unfold funK
  refine wp_decs (fun h1 => wp_ret ?_) (fun h1 => wp_ret ?_)
  · exact congrArg (fun b => [D.bool b]) (decide_eq_decide.2 ⟨fun h => ⟨h1, h⟩, fun h => h.2⟩)
  · rw [decide_eq_false (by omega)]
theorem tree_Plain_sp (k : Int) : Sp 39 [.int k] [.bool (plaK k)] := by
  refine sound_ 0 (tree_Plain_tree _ _) ?_
  simp only [toInt_int]
  unfold plaK
  refine wp_decs (fun h1 => wp_ret ?_) (fun h1 => wp_ret ?_)
  · exact congrArg (fun b => [D.bool b]) (decide_eq_decide.2 ⟨fun h => ⟨h1, h⟩, fun h => h.2⟩)
  · rw [decide_eq_false (by omega)]
theorem tree_anArray_sp (e : Ex1) : Sp 35 [dE e] [.bool (arrK e.kind)] := sound_ 0 (tree_anArray_tree _ _) (by simp only [dE_0, toInt_int]; exact wp_call (tree_Array_sp _) (wp_ret rfl))
theorem tree_aPlace_sp (e : Ex1) : Sp 36 [dE e] [.bool (arrK e.kind || decide (e.kind = 10))] := sound_ 0 (tree_aPlace_tree _ _) (by
  simp only [dE_0, toInt_int, int_beq]
  refine wp_call (tree_Array_sp _) (wp_br (fun h => wp_ret ?_) (fun h => wp_ret ?_))
  · rw [show arrK e.kind = true from h]; rfl
  · rw [show arrK e.kind = false from h]; rfl)
theorem tree_aFunction_sp (e : Ex1) : Sp 37 [dE e] [.bool (funK e.kind)] := sound_ 0 (tree_aFunction_tree _ _) (by simp only [dE_0, toInt_int]; exact wp_call (tree_Func_sp _) (wp_ret rfl))
theorem tree_aPlain_sp (e : Ex1) : Sp 41 [dE e] [.bool (plaK e.kind)] := sound_ 0 (tree_aPlain_tree _ _) (by simp only [dE_0, toInt_int]; exact wp_call (tree_Plain_sp _) (wp_ret rfl))
theorem glyph_function_sp (c : Int) : Sp 79 [.int c] [.bool (decide (c ∈ funsL))] := by
  refine sound_ 0 (glyph_function_tree _ _) ?_
  simp only [toInt_int, int_beq]
  unfold funsL
  repeat (refine wp_decs (fun h => wp_ret (by simp [h])) (fun h => ?_))
  exact wp_ret (by simp [*])
theorem glyph_Class_sp (c : Int) : Sp 58 [.int c] [.int (clsC c)] := by
  refine sound_ 0 (glyph_Class_tree _ _) ?_
  simp only [toInt_int, int_beq]
  by_cases h1 : c = 32 ∨ c = 9
  · rw [show clsC c = 1 by unfold clsC; rw [if_pos h1]]
    rcases h1 with h1 | h1
    · exact wp_dec h1 (wp_ret rfl)
    · exact wp_ndec (by omega) (wp_dec h1 (wp_ret rfl))
  by_cases h2 : (97 ≤ c ∧ c ≤ 122) ∨ (65 ≤ c ∧ c ≤ 90) ∨ c = 95
  · rw [show clsC c = 2 by unfold clsC; rw [if_neg h1, if_pos h2]]
    rcases h2 with h2 | h2 | h2
    · repeat (first | exact wp_ret rfl | refine wp_dec (by omega) ?_ | refine wp_ndec (by omega) ?_)
    · repeat (first | exact wp_ret rfl | refine wp_dec (by omega) ?_ | refine wp_ndec (by omega) ?_)
    · repeat (first | exact wp_ret rfl | refine wp_dec (by omega) ?_ | refine wp_ndec (by omega) ?_)
  by_cases h3 : (48 ≤ c ∧ c ≤ 57) ∨ c = 175
  · rw [show clsC c = 3 by unfold clsC; rw [if_neg h1, if_neg h2, if_pos h3]]
    rcases h3 with h3 | h3
    · repeat (first | exact wp_ret rfl | refine wp_dec (by omega) ?_ | refine wp_ndec (by omega) ?_)
    · repeat (first | exact wp_ret rfl | refine wp_dec (by omega) ?_ | refine wp_ndec (by omega) ?_)
  have hc : clsC c = if c ∈ funsL then 4 else if c ∈ opsL then 5 else if c ∈ marksL then 6 else 0 := by unfold clsC; rw [if_neg h1, if_neg h2, if_neg h3]
  have go : ∀ t : Tree, (∀ h : ¬ c ∈ funsL, Tw t [.int (clsC c)]) → Tw (.call 79 [] [D.int c] fun y => .br ((y.getD 0 D.nil).toBool) (.ret [D.int 4]) t) [.int (clsC c)] := fun t ht => by
    refine wp_call (glyph_function_sp c) ?_
    simp only [getD_c0, toBool_bool]
    exact wp_decs (fun h => wp_ret (by rw [hc, if_pos h])) ht
  have fin : ∀ h : ¬ c ∈ funsL, True := fun _ => trivial
  refine wp_ndec (by omega) (wp_ndec (by omega) ?_)
  rcases Int.lt_or_le c 97 with g1 | g1 <;> rcases Int.lt_or_le c 65 with g2 | g2 <;> rcases Int.lt_or_le c 48 with g3 | g3
  all_goals (try omega)
  all_goals
    repeat (first | refine wp_dec (by omega) ?_ | refine wp_ndec (by omega) ?_)
    refine go _ (fun hf => ?_)
    clear go fin h1 h2 h3 g1 g2 g3
    repeat (refine wp_decs (fun h => wp_ret (by rw [hc, if_neg hf]; first | rw [if_pos (by rw [h]; decide)] | rw [if_neg (by rw [h]; decide), if_pos (by rw [h]; decide)])) (fun h => ?_))
    exact wp_ret (by rw [hc, if_neg hf, if_neg (by simp [opsL, *]), if_neg (by simp [marksL, *])])
theorem tree_Monops_sp : Sp 31 [] [dI monsL] := sound_ 0 (tree_Monops_tree _) (wp_ret rfl)
theorem tree_Dyops_sp : Sp 32 [] [dI dyosL] := sound_ 0 (tree_Dyops_tree _) (wp_ret rfl)
theorem any_mem (l : List Int) (c : Int) : l.any (fun x => decide (x = c)) = decide (c ∈ l) := by
  induction l with
  | nil => simp
  | cons x xs ih =>
    rw [List.any_cons, ih]
    by_cases h : x = c
    · subst h; simp
    · rw [decide_eq_false h, Bool.false_or, decide_eq_decide, List.mem_cons]
      exact ⟨fun hh => .inr hh, fun hh => hh.resolve_left (fun e => h e.symm)⟩
theorem tree_Glyph_sp (c : Int) : Sp 29 [.int c] [.bool (glyC c)] := by
  refine sound_ 0 (tree_Glyph_tree _ _) (wp_call (glyph_Class_sp c) ?_)
  simp only [toInt_int, getD_c0, int_beq]
  unfold glyC
  have hf := cls_four c
  refine wp_decs (fun h => wp_ret ?_) (fun h => wp_call tree_Monops_sp ?_)
  · rw [decide_eq_true h] at hf; rw [← hf]; rfl
  · rw [decide_eq_false h] at hf
    rw [← hf, Bool.false_or]
    refine wp_dec (by decide) (wp_dec (by decide) ?_)
    have hs := slices_Contains_sp [47, 9023, 92, 9024] c (by decide)
    rw [any_mem] at hs
    exact wp_call hs (wp_ret rfl)
/-! Names. -/
def okB (c : UInt8) : Bool := decide (clsC (c.toNat : Int) = 2) || decide (48 ≤ (c.toNat : Int) ∧ (c.toNat : Int) ≤ 57)
def nameL (l : List UInt8) (f : Bool) : Bool := match l with
  | [] => false
  | c :: cs => decide ((c :: cs).length ≤ 16) && decide (clsC (c.toNat : Int) = 2) && cs.all okB && (decide (65 ≤ (c.toNat : Int) ∧ (c.toNat : Int) ≤ 90) == f)
def nameB (s : ByteArray) (f : Bool) : Bool := nameL s.data.toList f
theorem ba_empty (s : ByteArray) : (s.toList == ByteArray.empty.toList) = decide (s.data.toList = []) := by
  rw [ByteArray.toList_eq, ByteArray.toList_eq]
  show (s.data.toList == []) = _
  cases s.data.toList with
  | nil => rfl
  | cons a l => rw [decide_eq_false (by simp)]; rfl
theorem ba_size (s : ByteArray) : s.size = s.data.toList.length := by rw [Array.length_toList]; rfl
theorem wrap8 (c : UInt8) : IntKind.wrap .i64 ((c.toNat : Nat) : Int) = (c.toNat : Int) := by have := c.toNat_lt; exact wrap64 (by omega) (by omega)
theorem get8 {l : List UInt8} {i : Nat} {c : UInt8} (h : l[i]? = some c) : l.getD i 0 = c := by rw [List.getD_eq_getElem?_getD, h]; rfl
theorem tree_named_sp (s : ByteArray) (f : Bool) : Sp 28 [.str s, .bool f] [.bool (nameB s f)] := by
  refine sound_ 4096 (tree_named_tree _ _ _) ?_
  simp only [D.toStr, toBool_bool, ba_empty, ba_size]
  have eb : nameB s f = nameL s.data.toList f := rfl
  rw [eb]
  refine wp_decs (fun h => wp_ret (by rw [h]; rfl)) (fun h => ?_)
  obtain ⟨c, cs, hl⟩ : ∃ c cs, s.data.toList = c :: cs := by
    cases hh : s.data.toList with
    | nil => exact absurd hh h
    | cons c cs => exact ⟨c, cs, rfl⟩
  rw [hl]
  simp only [List.length_cons]
  refine wp_decs (fun h => wp_ret ?_) (fun h2 => wp_dec (by decide) (wp_dec (by omega) ?_))
  · rw [nameL, decide_eq_false (by simp only [List.length_cons]; omega)]; rfl
  have e0 : (c :: cs).getD (Int.toNat 0) 0 = c := rfl
  rw [e0, wrap8]
  refine wp_call (glyph_Class_sp _) ?_
  simp only [getD_c0, toInt_int, int_bne]
  have hlen : (c :: cs).length ≤ 16 := by simp only [List.length_cons]; omega
  refine wp_decs (fun h => wp_ret ?_) (fun h3 => ?_)
  · rw [nameL, decide_eq_true hlen, decide_eq_false h]; rfl
  have h3 := Classical.not_not.1 h3
  have fin : ∀ m : Nat, Tw (tree_named_l4 4096 (m + 1) s f (((c :: cs).length : Nat) : Int) (((c :: cs).length : Nat) : Int)) [.bool (decide (65 ≤ (c.toNat : Int) ∧ (c.toNat : Int) ≤ 90) == f)] := by
    intro m
    simp only [tree_named_l4_succ, ba_size, hl, e0, List.length_cons]
    refine wp_ndec (by omega) (wp_dec (by decide) (wp_dec (by omega) (wp_decs (fun g => wp_dec (by decide) (wp_dec (by omega) (wp_ret ?_))) (fun g => wp_ret ?_))))
    · rw [show decide (65 ≤ (c.toNat : Int) ∧ (c.toNat : Int) ≤ 90) = decide ((c.toNat : Int) ≤ 90) from decide_eq_decide.2 ⟨fun hh => hh.2, fun hh => ⟨g, hh⟩⟩]
    · rw [decide_eq_false (by omega)]
  have key := loop_list (P := Tryz.prog) (md := md) (c :: cs) (fun m k (_ : Unit) => tree_named_l4 4096 m s f (((c :: cs).length : Nat) : Int) (k : Int)) (fun rest _ => [.bool (rest.all okB && (decide (65 ≤ (c.toNat : Int) ∧ (c.toNat : Int) ≤ 90) == f))]) (fun _ _ => True)
    (fun m k t hk _ => by
      rw [hk]
      refine Tree.wp_mono (fin m) (fun ys hy => hy.trans ?_)
      simp)
    (fun m k t x rest hd _ ih => by
      obtain ⟨q1, q2, q3⟩ := drop_cons hd
      have ih := ih () trivial
      have hk : k < 16 := by omega
      simp only [tree_named_l4_succ, ba_size, hl, Int.toNat_natCast, get8 q2, wrap8, wrap_succ (show k < 9223372036854775807 by omega)]
      refine wp_dec (by omega) (wp_dec (by omega) (wp_dec (by omega) (wp_call (glyph_Class_sp _) ?_)))
      simp only [getD_c0, toInt_int, int_bne, List.all_cons]
      have ok : okB x = true → Tw (tree_named_l4 4096 m s f (((c :: cs).length : Nat) : Int) ((k + 1 : Nat) : Int)) [.bool (okB x && rest.all okB && (decide (65 ≤ (c.toNat : Int) ∧ (c.toNat : Int) ≤ 90) == f))] := fun h => by rw [h, Bool.true_and]; exact ih
      refine wp_decs (fun g => wp_decs (fun g2 => wp_ret ?_) (fun g2 => wp_decs (fun g3 => wp_ret ?_) (fun g3 => ok ?_))) (fun g => ok ?_)
      · rw [show okB x = false by unfold okB; rw [decide_eq_false g, decide_eq_false (by omega)]; rfl]; rfl
      · rw [show okB x = false by unfold okB; rw [decide_eq_false g, decide_eq_false (by omega)]; rfl]; rfl
      · unfold okB; rw [decide_eq_true (show 48 ≤ (x.toNat : Int) ∧ (x.toNat : Int) ≤ 57 by omega), Bool.or_true]
      · unfold okB; rw [decide_eq_true (Classical.not_not.1 g)]; rfl)
    4096 0 () (by omega) (by omega) trivial
  simp only [List.drop_zero, List.length_cons] at key
  refine Tree.wp_mono key (fun ys hy => hy.trans ?_)
  have hc : okB c = true := by unfold okB; rw [decide_eq_true h3]; rfl
  rw [nameL, decide_eq_true hlen, decide_eq_true h3, List.all_cons, hc]
  rfl
end Go.Proofs.YtcdjifdllibolaaGreat

set_option maxRecDepth 100000
namespace Go.Proofs.YtcdjifdllibolaaGreat
theorem dec_any {p : Prop} (i j : Decidable p) : @decide p i = @decide p j := by cases i <;> cases j <;> first | rfl | contradiction
theorem held_end {a b c d : Bool} : Tw (.br a (.br b (.br c (.ret [D.bool d]) (.ret [D.bool false])) (.ret [D.bool false])) (.ret [D.bool false])) [.bool (a && (b && (c && d)))] := by
  cases a <;> cases b <;> cases c <;> first | exact wp_tt rfl (wp_tt rfl (wp_tt rfl (wp_ret rfl))) | exact wp_tt rfl (wp_tt rfl (wp_ff rfl (wp_ret rfl))) | exact wp_tt rfl (wp_ff rfl (wp_ret rfl)) | exact wp_ff rfl (wp_ret rfl)
def numOK (e : Ex1) : Bool := if e.kind = 1 then rightN e.n else decide (e.n = .zero)
def chaOK (e : Ex1) : Bool := if e.kind = 2 then decide ((e.text.length : Int) ≤ 2048) && e.text.all mayC else decide ((e.text.length : Int) = 0)
def namOK (e : Ex1) : Bool := if e.kind = 3 ∨ e.kind = 13 ∨ e.kind = 14 ∨ e.kind = 15 then nameB e.name false else if e.kind = 18 ∨ e.kind = 27 then nameB e.name true else decide (e.name.data.toList = [])
def opOK (e : Ex1) : Bool := if e.kind = 6 ∨ e.kind = 7 ∨ e.kind = 16 then decide (0 ≤ e.op) && decide (e.op < 8) else if e.kind = 17 then glyC e.op else if e.kind = 21 then decide (e.op = 0) || decide (e.op = 1) else if e.kind = 22 then decide (e.op ∈ monsL) else if e.kind = 23 then decide (e.op ∈ dyosL) else decide (e.op = 0)
def heldB (e : Ex1) : Bool := numOK e && (chaOK e && (namOK e && opOK e))
theorem containsHeld_sp (l : List Int) (hl : l.length ≤ 2048) : Sp 25 [dI l, D.fn 26 [] []] [.bool (!(l.all mayC))] := by
  have one : ∀ c : Int, Sp 26 [.int c] [.bool (!(mayC c))] := fun c => sound_ 0 (tree_held_1_tree _ _) (by simp only [toInt_int]; exact wp_call (glyph_May_sp c) (wp_ret rfl))
  refine sound_ 0 (slices_ContainsFunc_int_int_tree_tree_held_1 _ _) (wp_call (ys := [.int (idxD (fun c => !(mayC c)) 0 l)]) ?_ (wp_ret ?_))
  · refine sound_ 4096 (slices_IndexFunc_int_int_tree_tree_held_1 _ _) ?_
    have key := loop_list (P := Tryz.prog) (md := md) l (fun m k (_ : Unit) => slices_IndexFunc_int_int_l2 4096 m (dI l) (D.fn 26 [] []) (l.length : Int) (k : Int)) (fun rest _ => [.int (idxD (fun c => !(mayC c)) (l.length - rest.length) rest)]) (fun _ _ => True)
      (fun m k p hk hI => by
        simp only [slices_IndexFunc_int_int_l2_succ_tree_held_1]
        refine wp_ndec (by omega) (wp_ret ?_)
        simp [idxD])
      (fun m k p x rest hd hI ih => by
        obtain ⟨h1, h2, h3⟩ := drop_cons hd
        have hle := congrArg List.length hd; rw [List.length_drop, List.length_cons] at hle; have hk : l.length - (x :: rest).length = k := by rw [List.length_cons]; omega
        have hk' : l.length - rest.length = k + 1 := by omega
        simp only [slices_IndexFunc_int_int_l2_succ_tree_held_1, els_dI, List.length_map, Int.toNat_natCast, getD_map h2, toInt_int, wrap_succ (show k < 9223372036854775807 by omega), fnId_fn, fnCts_fn, fnDs_fn, List.append_nil]
        refine wp_dec (by omega) (wp_dec (by omega) (wp_dec (by omega) (wp_call (one x) ?_)))
        simp only [getD_c0, toBool_bool, idxD, hk]
        refine wp_br (fun h => wp_ret ?_) (fun h => ?_)
        · simp [h]
        · have := ih () trivial
          rw [hk'] at this
          simpa [h] using this)
      4096 0 () (by omega) (by omega) trivial
    simpa using key
  · have := idxD_any (fun c => !(mayC c)) l 0
    simp only [getD_c0, toInt_int]
    refine congrArg (fun b => [D.bool b]) ((dec_any _ _).trans (this.trans ?_))
    clear this
    induction l with
    | nil => rfl
    | cons x xs ih => simp only [List.any_cons, List.all_cons, Bool.not_and]; rw [ih (by simp at hl; omega)]
theorem dN_zero' : D.agg [D.bool false, D.sl [], D.sl []] = dN .zero := rfl
theorem tree_held_sp (e : Ex1) (he : FitsE e) (hr : RN e.n) : Sp 18 [dE e] [.bool (heldB e)] := by
  refine sound_ 0 (tree_held_tree _ _) ?_
  have hn := he.num
  rw [dE_3, dN_zero']
  refine wp_call (ratio_Same_sp e.n .zero (by omega) (by omega)) ?_
  simp only [dE_0, dE_1, dE_2, dE_4, toInt_int, getD_c0, toBool_bool, int_beq, els_dI, List.length_map, D.toStr, ba_empty]
  refine wp_decs (fun h => ?_) (fun n1 => ?_)
  · rw [show heldB e = (rightN e.n && (decide ((e.text.length : Int) = 0) && (decide (e.name.data.toList = []) && decide (e.op = 0)))) by unfold heldB numOK chaOK namOK opOK; rw [h]; rfl]
    exact wp_call hr held_end
  refine wp_decs (fun h => ?_) (fun n2 => ?_)
  · rw [show heldB e = (decide (e.n = .zero) && ((decide ((e.text.length : Int) ≤ 2048) && e.text.all mayC) && (decide (e.name.data.toList = []) && decide (e.op = 0)))) by unfold heldB numOK chaOK namOK opOK; rw [h]; rfl]
    refine wp_decs (fun h2 => ?_) (fun h2 => ?_)
    · refine wp_call (containsHeld_sp e.text (by omega)) ?_
      rw [decide_eq_true h2, Bool.true_and]
      simp only [getD_c0, toBool_bool, Bool.not_not]
      exact held_end
    · rw [decide_eq_false h2, Bool.false_and, Bool.false_and, Bool.and_false]
      exact wp_br (fun _ => wp_ret rfl) (fun _ => wp_ret rfl)
  have nm : ∀ f : Bool, heldB e = (decide (e.n = .zero) && (decide ((e.text.length : Int) = 0) && (nameB e.name f && decide (e.op = 0)))) → Tw (.call 28 [] [D.str e.name, D.bool f] fun y => .br (decide (e.n = .zero)) (.br (decide ((e.text.length : Int) = 0)) (.br ((y.getD 0 D.nil).toBool) (.ret [D.bool (decide (e.op = 0))]) (.ret [D.bool false])) (.ret [D.bool false])) (.ret [D.bool false])) [.bool (heldB e)] := fun f h => by
    rw [h]
    exact wp_call (tree_named_sp e.name f) held_end
  refine wp_decs (fun h => nm false (by unfold heldB numOK chaOK namOK opOK; rw [h]; rfl)) (fun n3 => ?_)
  refine wp_decs (fun h => nm false (by unfold heldB numOK chaOK namOK opOK; rw [h]; rfl)) (fun n4 => ?_)
  refine wp_decs (fun h => nm false (by unfold heldB numOK chaOK namOK opOK; rw [h]; rfl)) (fun n5 => ?_)
  refine wp_decs (fun h => nm false (by unfold heldB numOK chaOK namOK opOK; rw [h]; rfl)) (fun n6 => ?_)
  refine wp_decs (fun h => nm true (by unfold heldB numOK chaOK namOK opOK; rw [h]; rfl)) (fun n7 => ?_)
  refine wp_decs (fun h => nm true (by unfold heldB numOK chaOK namOK opOK; rw [h]; rfl)) (fun n8 => ?_)
  have pt : heldB e = (decide (e.n = .zero) && (decide ((e.text.length : Int) = 0) && (decide (e.name.data.toList = []) && (decide (0 ≤ e.op) && decide (e.op < 8))))) → ∀ t u : Tree, (0 ≤ e.op → t = .br (decide (e.n = .zero)) (.br (decide ((e.text.length : Int) = 0)) (.br (decide (e.name.data.toList = [])) (.ret [D.bool (decide (e.op < 8))]) (.ret [D.bool false])) (.ret [D.bool false])) (.ret [D.bool false])) → u = .br (decide (e.n = .zero)) (.br (decide ((e.text.length : Int) = 0)) (.br (decide (e.name.data.toList = [])) (.ret [D.bool false]) (.ret [D.bool false])) (.ret [D.bool false])) (.ret [D.bool false]) → Tw (.br (decide (0 ≤ e.op)) t u) [.bool (heldB e)] := fun h t u ht hu => by
    rw [h]
    refine wp_decs (fun g => ?_) (fun g => ?_)
    · rw [ht g, decide_eq_true g, Bool.true_and]; exact held_end
    · rw [hu, decide_eq_false g, Bool.false_and]; exact held_end
  refine wp_decs (fun h => pt (by unfold heldB numOK chaOK namOK opOK; rw [h]; rfl) _ _ (fun _ => rfl) rfl) (fun n9 => ?_)
  refine wp_decs (fun h => pt (by unfold heldB numOK chaOK namOK opOK; rw [h]; rfl) _ _ (fun _ => rfl) rfl) (fun n10 => ?_)
  refine wp_decs (fun h => pt (by unfold heldB numOK chaOK namOK opOK; rw [h]; rfl) _ _ (fun _ => rfl) rfl) (fun n11 => ?_)
  refine wp_decs (fun h => ?_) (fun n12 => ?_)
  · rw [show heldB e = (decide (e.n = .zero) && (decide ((e.text.length : Int) = 0) && (decide (e.name.data.toList = []) && glyC e.op))) by unfold heldB numOK chaOK namOK opOK; rw [h]; rfl]
    exact wp_call (tree_Glyph_sp e.op) held_end
  refine wp_decs (fun h => ?_) (fun n13 => ?_)
  · rw [show heldB e = (decide (e.n = .zero) && (decide ((e.text.length : Int) = 0) && (decide (e.name.data.toList = []) && (decide (e.op = 0) || decide (e.op = 1))))) by unfold heldB numOK chaOK namOK opOK; rw [h]; rfl]
    refine wp_decs (fun g => ?_) (fun g => ?_)
    · rw [decide_eq_true g, Bool.true_or]; exact held_end
    · rw [decide_eq_false g, Bool.false_or]; exact held_end
  refine wp_decs (fun h => ?_) (fun n14 => ?_)
  · rw [show heldB e = (decide (e.n = .zero) && (decide ((e.text.length : Int) = 0) && (decide (e.name.data.toList = []) && decide (e.op ∈ monsL)))) by unfold heldB numOK chaOK namOK opOK; rw [h]; rfl]
    have hs := slices_Contains_sp monsL e.op (by decide)
    rw [any_mem] at hs
    exact wp_call tree_Monops_sp (wp_call hs held_end)
  refine wp_decs (fun h => ?_) (fun n15 => ?_)
  · rw [show heldB e = (decide (e.n = .zero) && (decide ((e.text.length : Int) = 0) && (decide (e.name.data.toList = []) && decide (e.op ∈ dyosL)))) by unfold heldB numOK chaOK namOK opOK; rw [h]; rfl]
    have hs := slices_Contains_sp dyosL e.op (by decide)
    rw [any_mem] at hs
    exact wp_call tree_Dyops_sp (wp_call hs held_end)
  · rw [show heldB e = (decide (e.n = .zero) && (decide ((e.text.length : Int) = 0) && (decide (e.name.data.toList = []) && decide (e.op = 0)))) by
      unfold heldB numOK chaOK namOK opOK
      rw [if_neg n1, if_neg n2, if_neg (by omega), if_neg (by omega), if_neg (by omega), if_neg (by omega), if_neg (by omega), if_neg (by omega), if_neg (by omega)]]
    exact held_end
/-! What an expression is made of. -/
def FnD (x : D) (p : Ex1 → Bool) : Prop := ∀ k : Ex1, Spec Tryz.prog md x.fnId x.fnCts ([dE k] ++ x.fnDs) [.bool (p k)]
def partsB : List Ex1 → List (Ex1 → Bool) → Bool
  | [], [] => true
  | k :: ks, p :: ps => p k && partsB ks ps
  | _, _ => false
theorem partsB_len : ∀ {ks : List Ex1} {ps : List (Ex1 → Bool)}, ks.length ≠ ps.length → partsB ks ps = false
  | [], [], h => absurd rfl h
  | k :: ks, p :: ps, h => by rw [partsB, partsB_len (fun e => h (by simp [e])), Bool.and_false]
  | [], p :: ps, _ => rfl
  | k :: ks, [], _ => rfl
def AreF (xs : List D) (ps : List (Ex1 → Bool)) : Prop := xs.length = ps.length ∧ ∀ (i : Nat) (x : D) (p : Ex1 → Bool), xs[i]? = some x → ps[i]? = some p → FnD x p
theorem areF_nil : AreF [] [] := ⟨rfl, fun i x p h => by simp at h⟩
theorem areF_cons {x : D} {p : Ex1 → Bool} {xs : List D} {ps : List (Ex1 → Bool)} (h : FnD x p) (hs : AreF xs ps) : AreF (x :: xs) (p :: ps) := ⟨by simp [hs.1], fun i y q hy hq => by
  cases i with
  | zero => simp at hy hq; subst hy; subst hq; exact h
  | succ i => exact hs.2 i y q (by simpa using hy) (by simpa using hq)⟩
theorem tree_parts_sp (ks : List Ex1) {xs : List D} {ps : List (Ex1 → Bool)} (h : AreF xs ps) (hp : ps.length ≤ 100) : Sp 33 [.sl (ks.map dE), .sl xs] [.bool (partsB ks ps)] := by
  refine sound_ 4096 (tree_parts_tree _ _ _) ?_
  simp only [els_sl, List.length_map, int_bne]
  refine wp_decs (fun g => wp_ret (by rw [partsB_len (by rw [← h.1]; omega)])) (fun g => ?_)
  have hl : ks.length = ps.length := by rw [← h.1]; omega
  have hxl := h.1
  have key := loop_list (P := Tryz.prog) (md := md) ks (fun m k (_ : Unit) => tree_parts_l4 4096 m (.sl xs) (.sl (ks.map dE)) (ks.length : Int) (k : Int)) (fun rest _ => [.bool (partsB rest (ps.drop (ks.length - rest.length)))]) (fun _ _ => True)
    (fun m k t hk _ => by
      simp only [tree_parts_l4_succ]
      refine wp_ndec (by omega) (wp_ret ?_)
      rw [List.length_nil, Nat.sub_zero, hl, List.drop_length]; rfl)
    (fun m k t x rest hd _ ih => by
      obtain ⟨h1, h2, h3⟩ := drop_cons hd
      have ih := ih () trivial
      have hle := congrArg List.length hd
      rw [List.length_drop, List.length_cons] at hle
      have e1 : ks.length - (x :: rest).length = k := by rw [List.length_cons]; omega
      have e2 : ks.length - rest.length = k + 1 := by omega
      have hk1 : k < ps.length := by omega
      have hk2 : k < xs.length := by omega
      have hf := h.2 k xs[k] ps[k] (List.getElem?_eq_getElem hk2) (List.getElem?_eq_getElem hk1) x
      have gx : xs.getD k D.nil = xs[k] := by rw [List.getD_eq_getElem?_getD, List.getElem?_eq_getElem hk2]; rfl
      rw [e1, List.drop_eq_getElem_cons hk1]
      rw [e2] at ih
      simp only [tree_parts_l4_succ, els_sl, List.length_map, Int.toNat_natCast, getD_map h2, gx, wrap_succ (show k < 9223372036854775807 by omega), partsB]
      refine wp_dec (by omega) (wp_dec (by omega) (wp_dec (by omega) (wp_dec (by omega) (wp_dec (by omega) (wp_call hf ?_)))))
      simp only [getD_c0, toBool_bool]
      refine wp_br (fun q => wp_ret ?_) (fun q => ?_)
      · rw [show ps[k] x = false by simpa using q]; rfl
      · rw [show ps[k] x = true by simpa using q, Bool.true_and]; exact ih)
    4096 0 () (by omega) (by omega) trivial
  refine Tree.wp_mono key (fun ys hy => hy.trans ?_)
  rw [List.drop_zero, Nat.sub_self, List.drop_zero]
theorem each_1_sp {x : D} {p : Ex1 → Bool} (h : FnD x p) (k : Ex1) : Spec Tryz.prog md 61 [.ref 29] [dE k, D.ref x] [.bool (!(p k))] :=
  sound_ 0 (tree_each_1_tree _ _ _) (by simp only [unref_ref]; exact wp_call (h k) (wp_ret rfl))
def idxE (p : Ex1 → Bool) : Nat → List Ex1 → Int
  | _, [] => -1
  | k, x :: xs => if p x then idxE p (k + 1) xs else (k : Int)
theorem idxE_all (p : Ex1 → Bool) : ∀ (l : List Ex1) (i : Nat), decide (0 ≤ idxE p i l) = !(l.all p)
  | [], i => by simp [idxE]
  | k :: r, i => by
    rw [List.all_cons]
    cases hk : p k with
    | true => simp only [idxE, hk, if_true, Bool.true_and]; exact idxE_all p r (i + 1)
    | false => simp [idxE, hk]
theorem containsE_sp (ks : List Ex1) (hl : ks.length ≤ 1000000000000000) {x : D} {p : Ex1 → Bool} (h : FnD x p) : Sp 60 [.sl (ks.map dE), D.fn 61 [.ref 29] [D.ref x]] [.bool (!(ks.all p))] := by
  refine sound_ 0 (slices_ContainsFunc_api_Expr_api_Expr_tree_tree_each_1 _ _ _) (wp_call (ys := [.int (idxE p 0 ks)]) ?_ (wp_ret ?_))
  · refine sound_ (ks.length + 1) (slices_IndexFunc_api_Expr_api_Expr_tree_tree_each_1 _ _ _) ?_
    have key := loop_list (P := Tryz.prog) (md := md) ks (fun m k (_ : Unit) => slices_IndexFunc_api_Expr_api_Expr_l2 (ks.length + 1) m (.sl (ks.map dE)) (D.fn 61 [.ref 29] [D.ref x]) (ks.length : Int) (k : Int)) (fun rest _ => [.int (idxE p (ks.length - rest.length) rest)]) (fun _ _ => True)
      (fun m k q hk hI => by
        simp only [slices_IndexFunc_api_Expr_api_Expr_l2_succ_tree_each_1]
        exact wp_ndec (by omega) (wp_ret rfl))
      (fun m k q y rest hd hI ih => by
        obtain ⟨h1, h2, h3⟩ := drop_cons hd
        have hle := congrArg List.length hd; rw [List.length_drop, List.length_cons] at hle; have hk : ks.length - (y :: rest).length = k := by rw [List.length_cons]; omega
        have hk' : ks.length - rest.length = k + 1 := by omega
        have ih := ih () trivial
        rw [hk'] at ih
        rw [hk, idxE]
        simp only [slices_IndexFunc_api_Expr_api_Expr_l2_succ_tree_each_1, els_sl, List.length_map, Int.toNat_natCast, getD_map h2, wrap_succ (show k < 9223372036854775807 by omega), fnId_fn, fnCts_fn, fnDs_fn]
        refine wp_dec (by omega) (wp_dec (by omega) (wp_dec (by omega) (wp_call (each_1_sp h y) ?_)))
        simp only [getD_c0, toBool_bool]
        refine wp_br (fun g => wp_ret ?_) (fun g => ?_)
        · rw [if_neg (by simpa using g)]
        · rw [if_pos (by simpa using g)]; exact ih)
      (ks.length + 1) 0 () (by omega) (by omega) trivial
    simp only [List.drop_zero, Nat.sub_self] at key
    simp only [els_sl, List.length_map]
    exact key
  · simp only [getD_c0, toInt_int]
    refine congrArg (fun b => [D.bool b]) ?_
    exact (dec_any _ _).trans (idxE_all p ks 0)
theorem fnd0 {f : Nat} {p : Ex1 → Bool} (h : ∀ k, Sp f [dE k] [.bool (p k)]) : FnD (D.fn f [] []) p := fun k => by
  simp only [fnId_fn, fnCts_fn, fnDs_fn, List.append_nil]; exact h k
def pArr (e : Ex1) : Bool := arrK e.kind
def pPla (e : Ex1) : Bool := arrK e.kind || decide (e.kind = 10)
def pFun (e : Ex1) : Bool := funK e.kind
def pPln (e : Ex1) : Bool := plaK e.kind
def pDyo (op : Int) (k : Ex1) : Bool := (plaK k.kind && decide (¬ op = 9060)) || (arrK k.kind && (decide (op = 9060) || decide (op = 9059)))
def pSta (kind : Int) (k : Ex1) : Bool := decide (k.kind = 27) || (decide (k.kind = 25 ∨ k.kind = 26) && decide (kind = 20)) || (decide (¬ k.kind = 25 ∧ ¬ k.kind = 26) && arrK k.kind)
theorem f_arr : FnD (D.fn 35 [] []) pArr := fnd0 tree_anArray_sp
theorem f_pla : FnD (D.fn 36 [] []) pPla := fnd0 tree_aPlace_sp
theorem f_fun : FnD (D.fn 37 [] []) pFun := fnd0 tree_aFunction_sp
theorem f_pln : FnD (D.fn 41 [] []) pPln := fnd0 tree_aPlain_sp
theorem f_dyo (e : Ex1) : FnD (D.fn 38 [.ref 28] [D.ref (dE e)]) (pDyo e.op) := fun k => by
  simp only [fnId_fn, fnCts_fn, fnDs_fn]
  refine sound_ 0 (tree_made_1_tree _ _ _) ?_
  simp only [unref_ref, dE_0, dE_1, toInt_int, int_beq, int_bne]
  unfold pDyo
  have tl : (plaK k.kind && decide (¬ e.op = 9060)) = false → Tw (.call 40 [] [D.int k.kind] fun y => .br ((y.getD 0 D.nil).toBool) (.br (decide (e.op = 9060)) (.ret [D.bool true]) (.ret [D.bool (decide (e.op = 9059))])) (.ret [D.bool false])) [.bool ((plaK k.kind && decide (¬ e.op = 9060)) || (arrK k.kind && (decide (e.op = 9060) || decide (e.op = 9059))))] := fun h => by
    rw [h, Bool.false_or]
    refine wp_call (tree_Array_sp _) (wp_br (fun g => wp_decs (fun g2 => wp_ret ?_) (fun g2 => wp_ret ?_)) (fun g => wp_ret ?_))
    · rw [show arrK k.kind = true from g, decide_eq_true g2]; rfl
    · rw [show arrK k.kind = true from g, decide_eq_false g2]; rfl
    · rw [show arrK k.kind = false from g]; rfl
  refine wp_call (tree_Plain_sp _) (wp_br (fun g => wp_decs (fun g2 => wp_ret ?_) (fun g2 => tl ?_)) (fun g => tl ?_))
  · rw [show plaK k.kind = true from g, decide_eq_true g2]; rfl
  · rw [decide_eq_false g2, Bool.and_false]
  · rw [show plaK k.kind = false from g]; rfl
theorem f_sta (e : Ex1) : FnD (D.fn 42 [.ref 28] [D.ref (dE e)]) (pSta e.kind) := fun k => by
  simp only [fnId_fn, fnCts_fn, fnDs_fn]
  refine sound_ 0 (tree_made_2_tree _ _ _) ?_
  simp only [unref_ref, dE_0, toInt_int, int_beq]
  unfold pSta
  refine wp_decs (fun h => wp_ret (by rw [h]; rfl)) (fun h => ?_)
  rw [decide_eq_false h, Bool.false_or]
  refine wp_decs (fun g => wp_dec g (wp_ret ?_)) (fun g => wp_decs (fun g2 => wp_ret ?_) (fun g2 => wp_call (tree_Array_sp _) (wp_ret ?_)))
  · simp [g]
  · simp [g2]
  · simp [g, g2]
def hdB (p : Ex1 → Bool) : List Ex1 → Bool | k :: _ => p k | [] => false
def madeB (e : Ex1) : Bool :=
  if e.kind = 1 ∨ e.kind = 2 ∨ e.kind = 3 ∨ e.kind = 4 ∨ e.kind = 5 ∨ e.kind = 6 ∨ e.kind = 7 ∨ e.kind = 10 ∨ e.kind = 17 ∨ e.kind = 18 ∨ e.kind = 19 ∨ e.kind = 21 then partsB e.kids []
  else if e.kind = 8 then decide (2 ≤ (e.kids.length : Int)) && e.kids.all pArr
  else if e.kind = 9 ∨ e.kind = 14 then decide (2 ≤ (e.kids.length : Int)) && (hdB pArr e.kids && (e.kids.drop 1).all pPla)
  else if e.kind = 11 ∨ e.kind = 15 then partsB e.kids [pFun, pArr]
  else if e.kind = 12 then partsB e.kids [pArr, pFun, pArr]
  else if e.kind = 13 ∨ e.kind = 16 then partsB e.kids [pArr]
  else if e.kind = 22 ∨ e.kind = 27 then partsB e.kids [pFun]
  else if e.kind = 23 then partsB e.kids [pFun, pDyo e.op]
  else if e.kind = 24 then partsB e.kids [pPln]
  else if e.kind = 25 ∨ e.kind = 26 then partsB e.kids [pArr, pArr]
  else if e.kind = 20 ∨ e.kind = 28 then decide (0 < (e.kids.length : Int)) && e.kids.all (pSta e.kind)
  else false
theorem tree_made_sp (e : Ex1) (he : FitsE e) : Sp 19 [dE e] [.bool (madeB e)] := by
  refine sound_ 0 (tree_made_tree _ _) ?_
  have hl := he.len
  simp only [dE_0, dE_5, toInt_int, int_beq, els_sl, List.length_map]
  have pp : ∀ {xs : List D} {ps : List (Ex1 → Bool)}, AreF xs ps → ps.length ≤ 100 → madeB e = partsB e.kids ps → Tw (.call 33 [] [.sl (e.kids.map dE), .sl xs] fun y => .ret [D.bool ((y.getD 0 D.nil).toBool)]) [.bool (madeB e)] := fun ha hp h => by
    rw [h]; exact wp_call (tree_parts_sp e.kids ha hp) (wp_ret rfl)
  have ea : ∀ {x : D} {p : Ex1 → Bool} (ks : List Ex1) (K : Bool → Tree), ks.length ≤ 1000000000000000 → FnD x p → True := fun _ _ _ _ => trivial
  have sta : madeB e = (decide (0 < (e.kids.length : Int)) && e.kids.all (pSta e.kind)) → Tw (.br (decide (0 < (e.kids.length : Int))) (.call 34 [] [.sl (e.kids.map dE), D.fn 42 [.ref 28] [D.ref (dE e)]] fun y => .ret [D.bool ((y.getD 0 D.nil).toBool)]) (.ret [D.bool false])) [.bool (madeB e)] := fun h => by
    rw [h]
    refine wp_decs (fun g => ?_) (fun g => wp_ret (by rw [decide_eq_false g]; rfl))
    rw [decide_eq_true g, Bool.true_and]
    refine wp_call (ys := [.bool (e.kids.all (pSta e.kind))]) ?_ (wp_ret rfl)
    refine sound_ 0 (tree_each_tree_tree_made_2 _ _ _) (wp_call (containsE_sp e.kids (by omega) (f_sta e)) (wp_ret ?_))
    simp only [getD_c0, toBool_bool, Bool.not_not]
  have at_ : madeB e = (decide (2 ≤ (e.kids.length : Int)) && (hdB pArr e.kids && (e.kids.drop 1).all pPla)) → Tw (.br (decide (2 ≤ (e.kids.length : Int))) (.br (decide (0 ≤ 0)) (.br (decide (0 < (e.kids.length : Int))) (.call 35 [] [(e.kids.map dE).getD (Int.toNat 0) D.nil] fun y => .br ((y.getD 0 D.nil).toBool) (.br (decide (0 ≤ 1)) (.br (decide (1 ≤ (e.kids.length : Int))) (.call 34 [] [D.sl ((e.kids.map dE).drop (Int.toNat 1)), D.fn 36 [] []] fun z => .ret [D.bool ((z.getD 0 D.nil).toBool)]) .fail) .fail) (.ret [D.bool false])) .fail) .fail) (.ret [D.bool false])) [.bool (madeB e)] := fun h => by
    rw [h]
    refine wp_decs (fun g => ?_) (fun g => wp_ret (by rw [decide_eq_false g]; rfl))
    rw [decide_eq_true g, Bool.true_and]
    obtain ⟨k, ks, hk⟩ : ∃ k ks, e.kids = k :: ks := by
      cases hh : e.kids with
      | nil => rw [hh] at g; simp at g
      | cons k ks => exact ⟨k, ks, rfl⟩
    have hkl : ks.length ≤ 1000000000000000 := by rw [hk, List.length_cons] at hl; omega
    refine wp_dec (by decide) (wp_dec (by omega) ?_)
    rw [hk]
    have e0 : ((k :: ks).map dE).getD (Int.toNat 0) D.nil = dE k := rfl
    have e1 : ((k :: ks).map dE).drop (Int.toNat 1) = ks.map dE := rfl
    rw [e0, e1]
    refine wp_call (tree_anArray_sp k) (wp_br (fun q => ?_) (fun q => wp_ret ?_))
    · have q : pArr k = true := q
      refine wp_dec (by decide) (wp_dec (by rw [List.length_cons]; omega) (wp_call (ys := [.bool (ks.all pPla)]) ?_ (wp_ret ?_)))
      · refine sound_ 0 (tree_each_tree_tree_aPlace _ _) (wp_call (containsE_sp ks hkl f_pla) (wp_ret ?_))
        simp only [getD_c0, toBool_bool, Bool.not_not]
      · simp only [hdB, q, Bool.true_and, List.drop_succ_cons, List.drop_zero]; rfl
    · have q : pArr k = false := q
      simp only [hdB, q, Bool.false_and]
  have a0 := areF_nil
  refine wp_decs (fun h => pp a0 (by decide) (by unfold madeB; rw [if_pos (by omega)])) (fun n1 => ?_)
  refine wp_decs (fun h => pp a0 (by decide) (by unfold madeB; rw [if_pos (by omega)])) (fun n2 => ?_)
  refine wp_decs (fun h => pp a0 (by decide) (by unfold madeB; rw [if_pos (by omega)])) (fun n3 => ?_)
  refine wp_decs (fun h => pp a0 (by decide) (by unfold madeB; rw [if_pos (by omega)])) (fun n4 => ?_)
  refine wp_decs (fun h => pp a0 (by decide) (by unfold madeB; rw [if_pos (by omega)])) (fun n5 => ?_)
  refine wp_decs (fun h => pp a0 (by decide) (by unfold madeB; rw [if_pos (by omega)])) (fun n6 => ?_)
  refine wp_decs (fun h => pp a0 (by decide) (by unfold madeB; rw [if_pos (by omega)])) (fun n7 => ?_)
  refine wp_decs (fun h => pp a0 (by decide) (by unfold madeB; rw [if_pos (by omega)])) (fun n10 => ?_)
  refine wp_decs (fun h => pp a0 (by decide) (by unfold madeB; rw [if_pos (by omega)])) (fun n17 => ?_)
  refine wp_decs (fun h => pp a0 (by decide) (by unfold madeB; rw [if_pos (by omega)])) (fun n18 => ?_)
  refine wp_decs (fun h => pp a0 (by decide) (by unfold madeB; rw [if_pos (by omega)])) (fun n19 => ?_)
  refine wp_decs (fun h => pp a0 (by decide) (by unfold madeB; rw [if_pos (by omega)])) (fun n21 => ?_)
  refine wp_decs (fun h => ?_) (fun n8 => ?_)
  · rw [show madeB e = (decide (2 ≤ (e.kids.length : Int)) && e.kids.all pArr) by unfold madeB; rw [if_neg (by omega), if_pos h]]
    refine wp_decs (fun g => ?_) (fun g => wp_ret (by rw [decide_eq_false g]; rfl))
    rw [decide_eq_true g, Bool.true_and]
    refine wp_call (ys := [.bool (e.kids.all pArr)]) ?_ (wp_ret rfl)
    refine sound_ 0 (tree_each_tree_tree_anArray _ _) (wp_call (containsE_sp e.kids (by omega) f_arr) (wp_ret ?_))
    simp only [getD_c0, toBool_bool, Bool.not_not]
  refine wp_decs (fun h => at_ (by unfold madeB; rw [if_neg (by omega), if_neg (by omega), if_pos (by omega)])) (fun n9 => ?_)
  refine wp_decs (fun h => at_ (by unfold madeB; rw [if_neg (by omega), if_neg (by omega), if_pos (by omega)])) (fun n14 => ?_)
  refine wp_decs (fun h => pp (areF_cons f_fun (areF_cons f_arr a0)) (by simp) (by unfold madeB; rw [if_neg (by omega), if_neg (by omega), if_neg (by omega), if_pos (by omega)])) (fun n11 => ?_)
  refine wp_decs (fun h => pp (areF_cons f_fun (areF_cons f_arr a0)) (by simp) (by unfold madeB; rw [if_neg (by omega), if_neg (by omega), if_neg (by omega), if_pos (by omega)])) (fun n15 => ?_)
  refine wp_decs (fun h => pp (areF_cons f_arr (areF_cons f_fun (areF_cons f_arr a0))) (by simp) (by unfold madeB; rw [if_neg (by omega), if_neg (by omega), if_neg (by omega), if_neg (by omega), if_pos (by omega)])) (fun n12 => ?_)
  refine wp_decs (fun h => pp (areF_cons f_arr a0) (by simp) (by unfold madeB; rw [if_neg (by omega), if_neg (by omega), if_neg (by omega), if_neg (by omega), if_neg (by omega), if_pos (by omega)])) (fun n13 => ?_)
  refine wp_decs (fun h => pp (areF_cons f_arr a0) (by simp) (by unfold madeB; rw [if_neg (by omega), if_neg (by omega), if_neg (by omega), if_neg (by omega), if_neg (by omega), if_pos (by omega)])) (fun n16 => ?_)
  refine wp_decs (fun h => pp (areF_cons f_fun a0) (by simp) (by unfold madeB; rw [if_neg (by omega), if_neg (by omega), if_neg (by omega), if_neg (by omega), if_neg (by omega), if_neg (by omega), if_pos (by omega)])) (fun n22 => ?_)
  refine wp_decs (fun h => pp (areF_cons f_fun a0) (by simp) (by unfold madeB; rw [if_neg (by omega), if_neg (by omega), if_neg (by omega), if_neg (by omega), if_neg (by omega), if_neg (by omega), if_pos (by omega)])) (fun n27 => ?_)
  refine wp_decs (fun h => pp (areF_cons f_fun (areF_cons (f_dyo e) a0)) (by simp) (by unfold madeB; rw [if_neg (by omega), if_neg (by omega), if_neg (by omega), if_neg (by omega), if_neg (by omega), if_neg (by omega), if_neg (by omega), if_pos (by omega)])) (fun n23 => ?_)
  refine wp_decs (fun h => pp (areF_cons f_pln a0) (by simp) (by unfold madeB; rw [if_neg (by omega), if_neg (by omega), if_neg (by omega), if_neg (by omega), if_neg (by omega), if_neg (by omega), if_neg (by omega), if_neg (by omega), if_pos (by omega)])) (fun n24 => ?_)
  refine wp_decs (fun h => pp (areF_cons f_arr (areF_cons f_arr a0)) (by simp) (by unfold madeB; rw [if_neg (by omega), if_neg (by omega), if_neg (by omega), if_neg (by omega), if_neg (by omega), if_neg (by omega), if_neg (by omega), if_neg (by omega), if_neg (by omega), if_pos (by omega)])) (fun n25 => ?_)
  refine wp_decs (fun h => pp (areF_cons f_arr (areF_cons f_arr a0)) (by simp) (by unfold madeB; rw [if_neg (by omega), if_neg (by omega), if_neg (by omega), if_neg (by omega), if_neg (by omega), if_neg (by omega), if_neg (by omega), if_neg (by omega), if_neg (by omega), if_pos (by omega)])) (fun n26 => ?_)
  refine wp_decs (fun h => sta (by unfold madeB; rw [if_neg (by omega), if_neg (by omega), if_neg (by omega), if_neg (by omega), if_neg (by omega), if_neg (by omega), if_neg (by omega), if_neg (by omega), if_neg (by omega), if_neg (by omega), if_pos (by omega)])) (fun n20 => ?_)
  refine wp_decs (fun h => sta (by unfold madeB; rw [if_neg (by omega), if_neg (by omega), if_neg (by omega), if_neg (by omega), if_neg (by omega), if_neg (by omega), if_neg (by omega), if_neg (by omega), if_neg (by omega), if_neg (by omega), if_pos (by omega)])) (fun n28 => wp_ret ?_)
  unfold madeB
  rw [if_neg (by omega), if_neg (by omega), if_neg (by omega), if_neg (by omega), if_neg (by omega), if_neg (by omega), if_neg (by omega), if_neg (by omega), if_neg (by omega), if_neg (by omega), if_neg (by omega)]
end Go.Proofs.YtcdjifdllibolaaGreat

set_option maxRecDepth 100000
namespace Go.Proofs.YtcdjifdllibolaaGreat
/-! scrim/scrimref21.Few -/
def ref21_Few_orc : List (Nat × Orc) := []
theorem ref21_Few_tree (n : Nat) (e0 : D) : evFun Tryz.prog md ref21_Few_orc n 4 [] [e0] =
 .call 12 [] [e0, D.int 60, D.int 3000] fun yy1 =>
 .ret [D.bool (decide (0 ≤ ((yy1.getD 0 D.nil).toInt)))] := by kernel_rfl

/-! scrim/scrimref21.Right -/
def ref21_Right_orc : List (Nat × Orc) := []
theorem ref21_Right_tree (n : Nat) (e0 : D) : evFun Tryz.prog md ref21_Right_orc n 7 [] [e0] =
 .call 9 [] [e0] fun yy1 =>
 .br (decide (((yy1.getD 0 D.nil).toInt) ≤ 40)) (.call 11 [] [e0] fun yy2 =>
 .br (decide (((yy2.getD 0 D.nil).toInt) ≤ 2048)) (.call 15 [] [e0] fun yy3 =>
 .ret [D.bool ((yy3.getD 0 D.nil).toBool)])
 (.ret [D.bool false]))
 (.ret [D.bool false]) := by kernel_rfl

/-! scrim/scrimref21.Depth -/
def ref21_Depth_orc : List (Nat × Orc) := [(3, ⟨[(1, none), (3, none), (4, none)], [(1, true)], []⟩)]
def ref21_Depth_ps : List Nat := [28]
def ref21_Depth_rs : List ResultVar := [.tmp 2]
def ref21_Depth_ts : List Nat := [3]
noncomputable def ref21_Depth_l3 (n m3 : Nat) (nn3 : Int) (i4 : Int) (e1 : D) : Tree :=
  evLoop Tryz.prog md (ev Tryz.prog md n ref21_Depth_orc (cAt (bodyOf Tryz.prog 9) [1, 1, 0, 1, 0, 0])) (orcAt ref21_Depth_orc 3) m3 ⟨[.undef, .ptr 1 [], .undef, .i .i64 nn3, .i .i64 i4, .undef, .undef, .undef, .undef, .undef, .undef, .undef, .undef, .undef, .undef, .undef, .undef, .undef, .undef, .undef, .undef, .undef, .undef, .undef, .undef], [(1, .var 28 (.d 28 e1) true)], [1], [], []⟩
   (blockK 0 (seqK (joinE Tryz.prog md (joinAt ref21_Depth_orc (cAt (bodyOf Tryz.prog 9) [1, 1, 1])) (ev Tryz.prog md n ref21_Depth_orc (cAt (bodyOf Tryz.prog 9) [1, 1, 1]))) (retK Tryz.prog md (md 9) ref21_Depth_ps ref21_Depth_rs ref21_Depth_ts)))
theorem ref21_Depth_l3_succ (n m3 : Nat) (nn3 : Int) (i4 : Int) (e1 : D) : ref21_Depth_l3 n (m3 + 1) nn3 i4 e1 =
 .br (decide (i4 < (((e1.fld 5).els).length : Int))) (.br (decide (0 ≤ i4)) (.br (decide (i4 < (((e1.fld 5).els).length : Int))) (.call 9 [] [((e1.fld 5).els).getD (Int.toNat i4) D.nil] fun yy1 =>
 .br (decide (nn3 < ((yy1.getD 0 D.nil).toInt))) (ref21_Depth_l3 n m3 ((yy1.getD 0 D.nil).toInt) (IntKind.wrap .i64 (i4 + 1)) e1)
 (ref21_Depth_l3 n m3 nn3 (IntKind.wrap .i64 (i4 + 1)) e1)) .fail) .fail)
 (.ret [D.int (IntKind.wrap .i64 (nn3 + 1))]) := by kernel_rfl
theorem ref21_Depth_tree (n : Nat) (e0 : D) : evFun Tryz.prog md ref21_Depth_orc n 9 [] [e0] =
 ref21_Depth_l3 n n 0 0 e0 := by kernel_rfl

/-! scrim/scrimref21.Count -/
def ref21_Count_orc : List (Nat × Orc) := [(3, ⟨[(1, none), (3, none), (4, none)], [(1, true)], []⟩)]
def ref21_Count_ps : List Nat := [28]
def ref21_Count_rs : List ResultVar := [.tmp 2]
def ref21_Count_ts : List Nat := [3]
noncomputable def ref21_Count_l3 (n m3 : Nat) (nn3 : Int) (i4 : Int) (e1 : D) : Tree :=
  evLoop Tryz.prog md (ev Tryz.prog md n ref21_Count_orc (cAt (bodyOf Tryz.prog 11) [1, 1, 0, 1, 0, 0])) (orcAt ref21_Count_orc 3) m3 ⟨[.undef, .ptr 1 [], .undef, .i .i64 nn3, .i .i64 i4, .undef, .undef, .undef, .undef, .undef, .undef, .undef, .undef, .undef, .undef, .undef, .undef, .undef, .undef, .undef, .undef], [(1, .var 28 (.d 28 e1) true)], [1], [], []⟩
   (blockK 0 (seqK (joinE Tryz.prog md (joinAt ref21_Count_orc (cAt (bodyOf Tryz.prog 11) [1, 1, 1])) (ev Tryz.prog md n ref21_Count_orc (cAt (bodyOf Tryz.prog 11) [1, 1, 1]))) (retK Tryz.prog md (md 11) ref21_Count_ps ref21_Count_rs ref21_Count_ts)))
theorem ref21_Count_l3_succ (n m3 : Nat) (nn3 : Int) (i4 : Int) (e1 : D) : ref21_Count_l3 n (m3 + 1) nn3 i4 e1 =
 .br (decide (i4 < (((e1.fld 5).els).length : Int))) (.br (decide (0 ≤ i4)) (.br (decide (i4 < (((e1.fld 5).els).length : Int))) (.call 11 [] [((e1.fld 5).els).getD (Int.toNat i4) D.nil] fun yy1 =>
 ref21_Count_l3 n m3 (IntKind.wrap .i64 (nn3 + ((yy1.getD 0 D.nil).toInt))) (IntKind.wrap .i64 (i4 + 1)) e1) .fail) .fail)
 (.ret [D.int nn3]) := by kernel_rfl
theorem ref21_Count_tree (n : Nat) (e0 : D) : evFun Tryz.prog md ref21_Count_orc n 11 [] [e0] =
 ref21_Count_l3 n n 1 0 e0 := by kernel_rfl

/-! scrim/scrimref21.left -/
def ref21_left_orc : List (Nat × Orc) := [(5, ⟨[(1, none), (2, none), (3, none), (7, none)], [(3, true)], []⟩)]
def ref21_left_ps : List Nat := [28, 3, 3]
def ref21_left_rs : List ResultVar := [.tmp 6]
def ref21_left_ts : List Nat := [3]
noncomputable def ref21_left_l5 (n m5 : Nat) (deep1 : Int) (nn2 : Int) (i7 : Int) (e3 : D) : Tree :=
  evLoop Tryz.prog md (ev Tryz.prog md n ref21_left_orc (cAt (bodyOf Tryz.prog 12) [1, 1, 1, 0, 1, 0, 0])) (orcAt ref21_left_orc 5) m5 ⟨[.undef, .i .i64 deep1, .i .i64 nn2, .ptr 3 [], .undef, .undef, .undef, .i .i64 i7, .undef, .undef, .undef, .undef, .undef, .undef, .undef, .undef, .undef, .undef, .undef, .undef, .undef, .undef, .undef, .undef, .undef, .undef, .undef, .undef, .undef, .undef, .undef, .undef, .undef, .undef, .undef, .undef, .undef, .undef], [(3, .var 28 (.d 28 e3) true)], [3], [], []⟩
   (blockK 0 (seqK (joinE Tryz.prog md (joinAt ref21_left_orc (cAt (bodyOf Tryz.prog 12) [1, 1, 1, 1])) (ev Tryz.prog md n ref21_left_orc (cAt (bodyOf Tryz.prog 12) [1, 1, 1, 1]))) (retK Tryz.prog md (md 12) ref21_left_ps ref21_left_rs ref21_left_ts)))
theorem ref21_left_l5_succ (n m5 : Nat) (deep1 : Int) (nn2 : Int) (i7 : Int) (e3 : D) : ref21_left_l5 n (m5 + 1) deep1 nn2 i7 e3 =
 .br (decide (i7 < (((e3.fld 5).els).length : Int))) (.br (decide (0 ≤ nn2)) (.br (decide (0 ≤ i7)) (.br (decide (i7 < (((e3.fld 5).els).length : Int))) (.call 12 [] [((e3.fld 5).els).getD (Int.toNat i7) D.nil, D.int (IntKind.wrap .i64 (deep1 - 1)), D.int nn2] fun yy1 =>
 ref21_left_l5 n m5 deep1 ((yy1.getD 0 D.nil).toInt) (IntKind.wrap .i64 (i7 + 1)) e3) .fail) .fail)
 (.ret [D.int nn2]))
 (.ret [D.int nn2]) := by kernel_rfl
theorem ref21_left_tree (n : Nat) (e0 : D) (deep1 : D) (nn2 : D) : evFun Tryz.prog md ref21_left_orc n 12 [] [e0, deep1, nn2] =
 .br (!(8 == (0 : Int))) (.br (deep1.toInt == 0) (.ret [D.int (-1)])
 (ref21_left_l5 n n deep1.toInt (IntKind.wrap .i64 ((IntKind.wrap .i64 (nn2.toInt - 1)) - (IntKind.wrap .i64 (Int.tdiv (((e0.fld 4).els).length : Int) 8)))) 0 e0)) .fail := by kernel_rfl

/-! scrim/scrimref21.all -/
def ref21_all_orc : List (Nat × Orc) := [(4, ⟨[(1, none), (3, none)], [(1, true)], []⟩)]
def ref21_all_ps : List Nat := [28]
def ref21_all_rs : List ResultVar := [.tmp 2]
def ref21_all_ts : List Nat := [4]
noncomputable def ref21_all_l4 (n m4 : Nat) (i3 : Int) (e1 : D) : Tree :=
  evLoop Tryz.prog md (ev Tryz.prog md n ref21_all_orc (cAt (bodyOf Tryz.prog 15) [1, 1, 0, 1, 0, 0])) (orcAt ref21_all_orc 4) m4 ⟨[.undef, .ptr 1 [], .undef, .i .i64 i3, .undef, .undef, .undef, .undef, .undef, .undef, .undef, .undef, .undef, .undef, .undef, .undef, .undef, .undef, .undef, .undef, .undef], [(1, .var 28 (.d 28 e1) true)], [1], [], []⟩
   (blockK 0 (seqK (joinE Tryz.prog md (joinAt ref21_all_orc (cAt (bodyOf Tryz.prog 15) [1, 1, 1])) (ev Tryz.prog md n ref21_all_orc (cAt (bodyOf Tryz.prog 15) [1, 1, 1]))) (retK Tryz.prog md (md 15) ref21_all_ps ref21_all_rs ref21_all_ts)))
theorem ref21_all_l4_succ (n m4 : Nat) (i3 : Int) (e1 : D) : ref21_all_l4 n (m4 + 1) i3 e1 =
 .br (decide (i3 < (((e1.fld 5).els).length : Int))) (.br (decide (0 ≤ i3)) (.br (decide (i3 < (((e1.fld 5).els).length : Int))) (.call 15 [] [((e1.fld 5).els).getD (Int.toNat i3) D.nil] fun yy2 =>
 .br (!((yy2.getD 0 D.nil).toBool)) (.ret [D.bool false])
 (ref21_all_l4 n m4 (IntKind.wrap .i64 (i3 + 1)) e1)) .fail) .fail)
 (.ret [D.bool true]) := by kernel_rfl
theorem ref21_all_tree (n : Nat) (e0 : D) : evFun Tryz.prog md ref21_all_orc n 15 [] [e0] =
 .call 20 [] [e0] fun yy1 =>
 .br (!((yy1.getD 0 D.nil).toBool)) (.ret [D.bool false])
 (ref21_all_l4 n n 0 e0) := by kernel_rfl

/-! scrim/scrimref21.one -/
def ref21_one_orc : List (Nat × Orc) := [(2000000, ⟨[], [], []⟩)]
theorem ref21_one_tree (n : Nat) (e0 : D) : evFun Tryz.prog md ref21_one_orc n 20 [] [e0] =
 .call 43 [] [e0] fun yy1 =>
 .br (((e0.fld 0).toInt) == 8) (.br (((yy1.getD 0 D.nil).toInt) == 0) (.call 44 [] [e0, D.str (⟨#[97, 97]⟩ : ByteArray), D.bool true] fun yy2 =>
 .ret [D.bool ((yy2.getD 0 D.nil).toBool)])
 (.ret [D.bool false]))
 (.br (((e0.fld 0).toInt) == 9) (.br (((yy1.getD 0 D.nil).toInt) == 0) (.call 44 [] [e0, D.str (⟨#[97, 120]⟩ : ByteArray), D.bool true] fun yy3 =>
 .ret [D.bool ((yy3.getD 0 D.nil).toBool)])
 (.ret [D.bool false]))
 (.br (((e0.fld 0).toInt) == 11) (.br (((yy1.getD 0 D.nil).toInt) == 0) (.call 44 [] [e0, D.str (⟨#[102, 97]⟩ : ByteArray), D.bool false] fun yy4 =>
 .ret [D.bool ((yy4.getD 0 D.nil).toBool)])
 (.ret [D.bool false]))
 (.br (((e0.fld 0).toInt) == 12) (.br (((yy1.getD 0 D.nil).toInt) == 0) (.call 44 [] [e0, D.str (⟨#[97, 102, 97]⟩ : ByteArray), D.bool false] fun yy5 =>
 .ret [D.bool ((yy5.getD 0 D.nil).toBool)])
 (.ret [D.bool false]))
 (.br (((e0.fld 0).toInt) == 13) (.br (((yy1.getD 0 D.nil).toInt) == 2) (.call 45 [] [D.str (e0.fld 2).toStr, D.bool false] fun yy6 =>
 .br ((yy6.getD 0 D.nil).toBool) (.call 44 [] [e0, D.str (⟨#[97]⟩ : ByteArray), D.bool false] fun yy7 =>
 .ret [D.bool ((yy7.getD 0 D.nil).toBool)])
 (.ret [D.bool false]))
 (.ret [D.bool false]))
 (.br (((e0.fld 0).toInt) == 14) (.br (((yy1.getD 0 D.nil).toInt) == 2) (.call 45 [] [D.str (e0.fld 2).toStr, D.bool false] fun yy8 =>
 .br ((yy8.getD 0 D.nil).toBool) (.call 44 [] [e0, D.str (⟨#[97, 120]⟩ : ByteArray), D.bool true] fun yy9 =>
 .ret [D.bool ((yy9.getD 0 D.nil).toBool)])
 (.ret [D.bool false]))
 (.ret [D.bool false]))
 (.br (((e0.fld 0).toInt) == 15) (.br (((yy1.getD 0 D.nil).toInt) == 2) (.call 45 [] [D.str (e0.fld 2).toStr, D.bool false] fun yy10 =>
 .br ((yy10.getD 0 D.nil).toBool) (.call 44 [] [e0, D.str (⟨#[102, 97]⟩ : ByteArray), D.bool false] fun yy11 =>
 .ret [D.bool ((yy11.getD 0 D.nil).toBool)])
 (.ret [D.bool false]))
 (.ret [D.bool false]))
 (.br (((e0.fld 0).toInt) == 16) (.br (((yy1.getD 0 D.nil).toInt) == 0) (.call 46 [] [D.int ((e0.fld 1).toInt)] fun yy12 =>
 .br ((yy12.getD 0 D.nil).toBool) (.call 44 [] [e0, D.str (⟨#[97]⟩ : ByteArray), D.bool false] fun yy13 =>
 .ret [D.bool ((yy13.getD 0 D.nil).toBool)])
 (.ret [D.bool false]))
 (.br (((yy1.getD 0 D.nil).toInt) == 1) (.call 46 [] [D.int ((e0.fld 1).toInt)] fun yy14 =>
 .br ((yy14.getD 0 D.nil).toBool) (.call 44 [] [e0, D.str (⟨#[97]⟩ : ByteArray), D.bool false] fun yy15 =>
 .ret [D.bool ((yy15.getD 0 D.nil).toBool)])
 (.ret [D.bool false]))
 (.ret [D.bool false])))
 (.br (((e0.fld 0).toInt) == 20) (.br (((yy1.getD 0 D.nil).toInt) == 0) (.call 47 [] [e0, D.bool true] fun yy16 =>
 .ret [D.bool ((yy16.getD 0 D.nil).toBool)])
 (.ret [D.bool false]))
 (.br (((e0.fld 0).toInt) == 22) (.call 48 [] [e0] fun yy17 =>
 .ret [D.bool ((yy17.getD 0 D.nil).toBool)])
 (.br (((e0.fld 0).toInt) == 23) (.call 48 [] [e0] fun yy18 =>
 .ret [D.bool ((yy18.getD 0 D.nil).toBool)])
 (.br (((e0.fld 0).toInt) == 24) (.br (((yy1.getD 0 D.nil).toInt) == 0) (.call 44 [] [e0, D.str (⟨#[112]⟩ : ByteArray), D.bool false] fun yy19 =>
 .ret [D.bool ((yy19.getD 0 D.nil).toBool)])
 (.ret [D.bool false]))
 (.br (((e0.fld 0).toInt) == 25) (.br (((yy1.getD 0 D.nil).toInt) == 0) (.call 44 [] [e0, D.str (⟨#[97, 97]⟩ : ByteArray), D.bool false] fun yy20 =>
 .ret [D.bool ((yy20.getD 0 D.nil).toBool)])
 (.ret [D.bool false]))
 (.br (((e0.fld 0).toInt) == 26) (.br (((yy1.getD 0 D.nil).toInt) == 0) (.call 44 [] [e0, D.str (⟨#[97, 97]⟩ : ByteArray), D.bool false] fun yy21 =>
 .ret [D.bool ((yy21.getD 0 D.nil).toBool)])
 (.ret [D.bool false]))
 (.br (((e0.fld 0).toInt) == 27) (.br (((yy1.getD 0 D.nil).toInt) == 2) (.call 45 [] [D.str (e0.fld 2).toStr, D.bool true] fun yy22 =>
 .br ((yy22.getD 0 D.nil).toBool) (.call 44 [] [e0, D.str (⟨#[102]⟩ : ByteArray), D.bool false] fun yy23 =>
 .ret [D.bool ((yy23.getD 0 D.nil).toBool)])
 (.ret [D.bool false]))
 (.ret [D.bool false]))
 (.br (((e0.fld 0).toInt) == 28) (.br (((yy1.getD 0 D.nil).toInt) == 0) (.call 47 [] [e0, D.bool false] fun yy24 =>
 .ret [D.bool ((yy24.getD 0 D.nil).toBool)])
 (.ret [D.bool false]))
 (.call 49 [] [e0] fun yy25 =>
 .ret [D.bool ((yy25.getD 0 D.nil).toBool)])))))))))))))))) := by kernel_rfl

/-! scrim/scrimref21.fields -/
def ref21_fields_orc : List (Nat × Orc) := []
theorem ref21_fields_tree (n : Nat) (e0 : D) : evFun Tryz.prog md ref21_fields_orc n 43 [] [e0] =
 .br (((e0.fld 1).toInt) != 0) (.br (!(((e0.fld 2).toStr).toList == ByteArray.empty.toList)) (.br (((e0.fld 3).fld 0).toBool) (.br (decide (0 < (((e0.fld 4).els).length : Int))) (.ret [D.int (IntKind.wrap .i64 ((IntKind.wrap .i64 ((IntKind.wrap .i64 ((IntKind.wrap .i64 (0 + 1)) + 2)) + 4)) + 8))])
 (.ret [D.int (IntKind.wrap .i64 ((IntKind.wrap .i64 ((IntKind.wrap .i64 (0 + 1)) + 2)) + 4))]))
 (.br (decide (0 < (IntKind.wrap .i64 (((((e0.fld 3).fld 1).els).length : Int) + ((((e0.fld 3).fld 2).els).length : Int))))) (.br (decide (0 < (((e0.fld 4).els).length : Int))) (.ret [D.int (IntKind.wrap .i64 ((IntKind.wrap .i64 ((IntKind.wrap .i64 ((IntKind.wrap .i64 (0 + 1)) + 2)) + 4)) + 8))])
 (.ret [D.int (IntKind.wrap .i64 ((IntKind.wrap .i64 ((IntKind.wrap .i64 (0 + 1)) + 2)) + 4))]))
 (.br (decide (0 < (((e0.fld 4).els).length : Int))) (.ret [D.int (IntKind.wrap .i64 ((IntKind.wrap .i64 ((IntKind.wrap .i64 (0 + 1)) + 2)) + 8))])
 (.ret [D.int (IntKind.wrap .i64 ((IntKind.wrap .i64 (0 + 1)) + 2))]))))
 (.br (((e0.fld 3).fld 0).toBool) (.br (decide (0 < (((e0.fld 4).els).length : Int))) (.ret [D.int (IntKind.wrap .i64 ((IntKind.wrap .i64 ((IntKind.wrap .i64 (0 + 1)) + 4)) + 8))])
 (.ret [D.int (IntKind.wrap .i64 ((IntKind.wrap .i64 (0 + 1)) + 4))]))
 (.br (decide (0 < (IntKind.wrap .i64 (((((e0.fld 3).fld 1).els).length : Int) + ((((e0.fld 3).fld 2).els).length : Int))))) (.br (decide (0 < (((e0.fld 4).els).length : Int))) (.ret [D.int (IntKind.wrap .i64 ((IntKind.wrap .i64 ((IntKind.wrap .i64 (0 + 1)) + 4)) + 8))])
 (.ret [D.int (IntKind.wrap .i64 ((IntKind.wrap .i64 (0 + 1)) + 4))]))
 (.br (decide (0 < (((e0.fld 4).els).length : Int))) (.ret [D.int (IntKind.wrap .i64 ((IntKind.wrap .i64 (0 + 1)) + 8))])
 (.ret [D.int (IntKind.wrap .i64 (0 + 1))])))))
 (.br (!(((e0.fld 2).toStr).toList == ByteArray.empty.toList)) (.br (((e0.fld 3).fld 0).toBool) (.br (decide (0 < (((e0.fld 4).els).length : Int))) (.ret [D.int (IntKind.wrap .i64 ((IntKind.wrap .i64 ((IntKind.wrap .i64 (0 + 2)) + 4)) + 8))])
 (.ret [D.int (IntKind.wrap .i64 ((IntKind.wrap .i64 (0 + 2)) + 4))]))
 (.br (decide (0 < (IntKind.wrap .i64 (((((e0.fld 3).fld 1).els).length : Int) + ((((e0.fld 3).fld 2).els).length : Int))))) (.br (decide (0 < (((e0.fld 4).els).length : Int))) (.ret [D.int (IntKind.wrap .i64 ((IntKind.wrap .i64 ((IntKind.wrap .i64 (0 + 2)) + 4)) + 8))])
 (.ret [D.int (IntKind.wrap .i64 ((IntKind.wrap .i64 (0 + 2)) + 4))]))
 (.br (decide (0 < (((e0.fld 4).els).length : Int))) (.ret [D.int (IntKind.wrap .i64 ((IntKind.wrap .i64 (0 + 2)) + 8))])
 (.ret [D.int (IntKind.wrap .i64 (0 + 2))]))))
 (.br (((e0.fld 3).fld 0).toBool) (.br (decide (0 < (((e0.fld 4).els).length : Int))) (.ret [D.int (IntKind.wrap .i64 ((IntKind.wrap .i64 (0 + 4)) + 8))])
 (.ret [D.int (IntKind.wrap .i64 (0 + 4))]))
 (.br (decide (0 < (IntKind.wrap .i64 (((((e0.fld 3).fld 1).els).length : Int) + ((((e0.fld 3).fld 2).els).length : Int))))) (.br (decide (0 < (((e0.fld 4).els).length : Int))) (.ret [D.int (IntKind.wrap .i64 ((IntKind.wrap .i64 (0 + 4)) + 8))])
 (.ret [D.int (IntKind.wrap .i64 (0 + 4))]))
 (.br (decide (0 < (((e0.fld 4).els).length : Int))) (.ret [D.int (IntKind.wrap .i64 (0 + 8))])
 (.ret [D.int 0]))))) := by kernel_rfl

/-! scrim/scrimref21.kids -/
def ref21_kids_orc : List (Nat × Orc) := [(4, ⟨[(1, none), (3, none), (7, none)], [(3, true)], []⟩)]
def ref21_kids_ps : List Nat := [28, 9, 4]
def ref21_kids_rs : List ResultVar := [.tmp 6]
def ref21_kids_ts : List Nat := [4]
noncomputable def ref21_kids_l4 (n m4 : Nat) (s1 : ByteArray) (i7 : Int) (e3 : D) : Tree :=
  evLoop Tryz.prog md (ev Tryz.prog md n ref21_kids_orc (cAt (bodyOf Tryz.prog 44) [1, 1, 0, 1, 0, 0])) (orcAt ref21_kids_orc 4) m4 ⟨[.undef, .s s1, .undef, .ptr 3 [], .undef, .undef, .undef, .i .i64 i7, .undef, .undef, .undef, .undef, .undef, .undef, .undef, .undef, .undef, .undef, .undef, .undef, .undef, .undef, .undef, .undef, .undef, .undef, .undef, .undef, .undef, .undef, .undef, .undef, .undef, .undef, .undef, .undef, .undef, .undef, .undef, .undef, .undef, .undef, .undef, .undef, .undef, .undef, .undef, .undef, .undef, .undef, .undef, .undef, .undef, .undef, .undef], [(3, .var 28 (.d 28 e3) true)], [3], [], []⟩
   (blockK 0 (seqK (joinE Tryz.prog md (joinAt ref21_kids_orc (cAt (bodyOf Tryz.prog 44) [1, 1, 1])) (ev Tryz.prog md n ref21_kids_orc (cAt (bodyOf Tryz.prog 44) [1, 1, 1]))) (retK Tryz.prog md (md 44) ref21_kids_ps ref21_kids_rs ref21_kids_ts)))
theorem ref21_kids_l4_succ (n m4 : Nat) (s1 : ByteArray) (i7 : Int) (e3 : D) : ref21_kids_l4 n (m4 + 1) s1 i7 e3 =
 .br (decide (i7 < (((e3.fld 5).els).length : Int))) (.br (decide (0 ≤ IntKind.wrap .i64 ((s1.size : Int) - 1))) (.br (decide (IntKind.wrap .i64 ((s1.size : Int) - 1) < (s1.size : Int))) (.br (decide (i7 < (s1.size : Int))) (.br (decide (0 ≤ i7)) (.br (decide (i7 < (s1.size : Int))) (.br (decide (0 ≤ i7)) (.br (decide (i7 < (((e3.fld 5).els).length : Int))) (.call 63 [] [D.int (((((e3.fld 5).els).getD (Int.toNat i7) D.nil).fld 0).toInt), D.int (((s1.data.toList.getD (Int.toNat i7) 0).toNat : Nat) : Int)] fun yy1 =>
 .br (!((yy1.getD 0 D.nil).toBool)) (.ret [D.bool false])
 (ref21_kids_l4 n m4 s1 (IntKind.wrap .i64 (i7 + 1)) e3)) .fail) .fail) .fail) .fail)
 (.br (decide (0 ≤ i7)) (.br (decide (i7 < (((e3.fld 5).els).length : Int))) (.call 63 [] [D.int (((((e3.fld 5).els).getD (Int.toNat i7) D.nil).fld 0).toInt), D.int (((s1.data.toList.getD (Int.toNat (IntKind.wrap .i64 ((s1.size : Int) - 1))) 0).toNat : Nat) : Int)] fun yy2 =>
 .br (!((yy2.getD 0 D.nil).toBool)) (.ret [D.bool false])
 (ref21_kids_l4 n m4 s1 (IntKind.wrap .i64 (i7 + 1)) e3)) .fail) .fail)) .fail) .fail)
 (.ret [D.bool true]) := by kernel_rfl
theorem ref21_kids_tree (n : Nat) (e0 : D) (s1 : D) (more2 : D) : evFun Tryz.prog md ref21_kids_orc n 44 [] [e0, s1, more2] =
 .br (decide ((((e0.fld 5).els).length : Int) < (s1.toStr.size : Int))) (.ret [D.bool false])
 (.br (decide ((s1.toStr.size : Int) < (((e0.fld 5).els).length : Int))) (.br (!more2.toBool) (.ret [D.bool false])
 (ref21_kids_l4 n n s1.toStr 0 e0))
 (ref21_kids_l4 n n s1.toStr 0 e0)) := by kernel_rfl

/-! scrim/scrimref21.name -/
def ref21_name_orc : List (Nat × Orc) := [(4, ⟨[(0, none), (1, none), (5, none)], [], []⟩)]
def ref21_name_ps : List Nat := [9, 4]
def ref21_name_rs : List ResultVar := [.tmp 4]
def ref21_name_ts : List Nat := [4]
noncomputable def ref21_name_l4 (n m4 : Nat) (s0 : ByteArray) (function1 : Bool) (i5 : Int) : Tree :=
  evLoop Tryz.prog md (ev Tryz.prog md n ref21_name_orc (cAt (bodyOf Tryz.prog 45) [1, 1, 0, 1, 0, 0])) (orcAt ref21_name_orc 4) m4 ⟨[.s s0, .b function1, .undef, .undef, .undef, .i .i64 i5, .undef, .undef, .undef, .undef, .undef, .undef, .undef, .undef, .undef, .undef, .undef, .undef, .undef, .undef, .undef, .undef, .undef, .undef, .undef, .undef, .undef, .undef, .undef, .undef, .undef, .undef, .undef, .undef, .undef, .undef, .undef, .undef, .undef, .undef, .undef, .undef, .undef, .undef, .undef, .undef, .undef, .undef, .undef, .undef, .undef, .undef, .undef, .undef, .undef, .undef, .undef], [], [], [], []⟩
   (blockK 0 (seqK (joinE Tryz.prog md (joinAt ref21_name_orc (cAt (bodyOf Tryz.prog 45) [1, 1, 1])) (ev Tryz.prog md n ref21_name_orc (cAt (bodyOf Tryz.prog 45) [1, 1, 1]))) (retK Tryz.prog md (md 45) ref21_name_ps ref21_name_rs ref21_name_ts)))
theorem ref21_name_l4_succ (n m4 : Nat) (s0 : ByteArray) (function1 : Bool) (i5 : Int) : ref21_name_l4 n (m4 + 1) s0 function1 i5 =
 .br (decide (i5 < (s0.size : Int))) (.br (decide (0 ≤ i5)) (.br (decide (i5 < (s0.size : Int))) (.br (decide (48 ≤ (((s0.data.toList.getD (Int.toNat i5) 0).toNat : Nat) : Int))) (.br (decide (0 ≤ i5)) (.br (decide (i5 < (s0.size : Int))) (.br (decide (0 ≤ i5)) (.br (decide (i5 < (s0.size : Int))) (.call 64 [] [D.int (IntKind.wrap .i64 (((s0.data.toList.getD (Int.toNat i5) 0).toNat : Nat) : Int))] fun yy1 =>
 .br (((yy1.getD 0 D.nil).toInt) != 2) (.br (!(decide ((((s0.data.toList.getD (Int.toNat i5) 0).toNat : Nat) : Int) ≤ 57))) (.ret [D.bool false])
 (.br (i5 == 0) (.ret [D.bool false])
 (ref21_name_l4 n m4 s0 function1 (IntKind.wrap .i64 (i5 + 1)))))
 (ref21_name_l4 n m4 s0 function1 (IntKind.wrap .i64 (i5 + 1)))) .fail) .fail) .fail) .fail)
 (.br (decide (0 ≤ i5)) (.br (decide (i5 < (s0.size : Int))) (.call 64 [] [D.int (IntKind.wrap .i64 (((s0.data.toList.getD (Int.toNat i5) 0).toNat : Nat) : Int))] fun yy2 =>
 .br (((yy2.getD 0 D.nil).toInt) != 2) (.ret [D.bool false])
 (ref21_name_l4 n m4 s0 function1 (IntKind.wrap .i64 (i5 + 1)))) .fail) .fail)) .fail) .fail)
 (.br (decide (0 ≤ 0)) (.br (decide (0 < (s0.size : Int))) (.br (decide (65 ≤ (((s0.data.toList.getD (Int.toNat 0) 0).toNat : Nat) : Int))) (.br (decide (0 ≤ 0)) (.br (decide (0 < (s0.size : Int))) (.ret [D.bool ((decide ((((s0.data.toList.getD (Int.toNat 0) 0).toNat : Nat) : Int) ≤ 90)) == function1)]) .fail) .fail)
 (.ret [D.bool (false == function1)])) .fail) .fail) := by kernel_rfl
theorem ref21_name_tree (n : Nat) (s0 : D) (function1 : D) : evFun Tryz.prog md ref21_name_orc n 45 [] [s0, function1] =
 .br ((s0.toStr.size : Int) == 0) (.ret [D.bool false])
 (.br (decide (16 < (s0.toStr.size : Int))) (.ret [D.bool false])
 (ref21_name_l4 n n s0.toStr function1.toBool 0)) := by kernel_rfl

/-! scrim/scrimref21.port -/
def ref21_port_orc : List (Nat × Orc) := []
theorem ref21_port_tree (n : Nat) (nn0 : D) : evFun Tryz.prog md ref21_port_orc n 46 [] [nn0] =
 .br (decide (0 ≤ nn0.toInt)) (.ret [D.bool (decide (nn0.toInt ≤ 7))])
 (.ret [D.bool false]) := by kernel_rfl

/-! scrim/scrimref21.statements -/
def ref21_statements_orc : List (Nat × Orc) := [(2, ⟨[(1, none), (2, none), (5, none)], [(2, true)], []⟩)]
def ref21_statements_ps : List Nat := [28, 4]
def ref21_statements_rs : List ResultVar := [.tmp 4]
def ref21_statements_ts : List Nat := [4]
noncomputable def ref21_statements_l2 (n m2 : Nat) (braces1 : Bool) (i5 : Int) (e2 : D) : Tree :=
  evLoop Tryz.prog md (ev Tryz.prog md n ref21_statements_orc (cAt (bodyOf Tryz.prog 47) [1, 0, 1, 0, 0])) (orcAt ref21_statements_orc 2) m2 ⟨[.undef, .b braces1, .ptr 2 [], .undef, .undef, .i .i64 i5, .undef, .undef, .undef, .undef, .undef, .undef, .undef, .undef, .undef, .undef, .undef, .undef, .undef, .undef, .undef, .undef, .undef, .undef, .undef, .undef, .undef, .undef, .undef, .undef, .undef, .undef, .undef, .undef, .undef, .undef, .undef, .undef, .undef, .undef, .undef, .undef, .undef], [(2, .var 28 (.d 28 e2) true)], [2], [], []⟩
   (blockK 0 (seqK (joinE Tryz.prog md (joinAt ref21_statements_orc (cAt (bodyOf Tryz.prog 47) [1, 1])) (ev Tryz.prog md n ref21_statements_orc (cAt (bodyOf Tryz.prog 47) [1, 1]))) (retK Tryz.prog md (md 47) ref21_statements_ps ref21_statements_rs ref21_statements_ts)))
theorem ref21_statements_l2_succ (n m2 : Nat) (braces1 : Bool) (i5 : Int) (e2 : D) : ref21_statements_l2 n (m2 + 1) braces1 i5 e2 =
 .br (decide (i5 < (((e2.fld 5).els).length : Int))) (.br (decide (0 ≤ i5)) (.br (decide (i5 < (((e2.fld 5).els).length : Int))) (.call 65 [] [D.int (((((e2.fld 5).els).getD (Int.toNat i5) D.nil).fld 0).toInt)] fun yy1 =>
 .br (!((yy1.getD 0 D.nil).toBool)) (.br ((((((e2.fld 5).els).getD (Int.toNat i5) D.nil).fld 0).toInt) != 27) (.br braces1 (.br ((((((e2.fld 5).els).getD (Int.toNat i5) D.nil).fld 0).toInt) == 25) (ref21_statements_l2 n m2 braces1 (IntKind.wrap .i64 (i5 + 1)) e2)
 (.br (!((((((e2.fld 5).els).getD (Int.toNat i5) D.nil).fld 0).toInt) == 26)) (.ret [D.bool false])
 (ref21_statements_l2 n m2 braces1 (IntKind.wrap .i64 (i5 + 1)) e2)))
 (.ret [D.bool false]))
 (ref21_statements_l2 n m2 braces1 (IntKind.wrap .i64 (i5 + 1)) e2))
 (ref21_statements_l2 n m2 braces1 (IntKind.wrap .i64 (i5 + 1)) e2)) .fail) .fail)
 (.ret [D.bool (decide (0 < (((e2.fld 5).els).length : Int)))]) := by kernel_rfl
theorem ref21_statements_tree (n : Nat) (e0 : D) (braces1 : D) : evFun Tryz.prog md ref21_statements_orc n 47 [] [e0, braces1] =
 ref21_statements_l2 n n braces1.toBool 0 e0 := by kernel_rfl

/-! scrim/scrimref21.operators -/
def ref21_operators_orc : List (Nat × Orc) := []
theorem ref21_operators_tree (n : Nat) (e0 : D) : evFun Tryz.prog md ref21_operators_orc n 48 [] [e0] =
 .call 43 [] [e0] fun yy1 =>
 .br (((yy1.getD 0 D.nil).toInt) != 1) (.ret [D.bool false])
 (.br (((e0.fld 0).toInt) == 22) (.call 67 [] [] fun yy2 =>
 .call 66 [] [yy2.getD 0 D.nil, D.int ((e0.fld 1).toInt)] fun yy3 =>
 .br ((yy3.getD 0 D.nil).toBool) (.call 44 [] [e0, D.str (⟨#[102]⟩ : ByteArray), D.bool false] fun yy4 =>
 .ret [D.bool ((yy4.getD 0 D.nil).toBool)])
 (.ret [D.bool false]))
 (.call 68 [] [] fun yy5 =>
 .call 66 [] [yy5.getD 0 D.nil, D.int ((e0.fld 1).toInt)] fun yy6 =>
 .br (!((yy6.getD 0 D.nil).toBool)) (.ret [D.bool false])
 (.br ((((e0.fld 5).els).length : Int) != 2) (.ret [D.bool false])
 (.br (decide (0 ≤ 0)) (.br (decide (0 < (((e0.fld 5).els).length : Int))) (.call 69 [] [D.int (((((e0.fld 5).els).getD (Int.toNat 0) D.nil).fld 0).toInt)] fun yy7 =>
 .br (!((yy7.getD 0 D.nil).toBool)) (.ret [D.bool false])
 (.br (decide (0 ≤ 1)) (.br (decide (1 < (((e0.fld 5).els).length : Int))) (.br (((e0.fld 1).toInt) == 9060) (.call 65 [] [D.int (((((e0.fld 5).els).getD (Int.toNat 1) D.nil).fld 0).toInt)] fun yy8 =>
 .ret [D.bool ((yy8.getD 0 D.nil).toBool)])
 (.call 70 [] [D.int (((((e0.fld 5).els).getD (Int.toNat 1) D.nil).fld 0).toInt)] fun yy9 =>
 .br ((yy9.getD 0 D.nil).toBool) (.ret [D.bool true])
 (.br (((e0.fld 1).toInt) == 9059) (.call 65 [] [D.int (((((e0.fld 5).els).getD (Int.toNat 1) D.nil).fld 0).toInt)] fun yy10 =>
 .ret [D.bool ((yy10.getD 0 D.nil).toBool)])
 (.ret [D.bool false])))) .fail) .fail)) .fail) .fail)))) := by kernel_rfl

/-! scrim/scrimref21.leaf -/
def ref21_leaf_orc : List (Nat × Orc) := [(2000000, ⟨[], [], []⟩)]
theorem ref21_leaf_tree (n : Nat) (e0 : D) : evFun Tryz.prog md ref21_leaf_orc n 49 [] [e0] =
 .call 43 [] [e0] fun yy1 =>
 .br (decide (0 < (((e0.fld 5).els).length : Int))) (.ret [D.bool false])
 (.br (((e0.fld 0).toInt) == 1) (.br (((yy1.getD 0 D.nil).toInt) == 4) (.call 71 [] [e0.fld 3] fun yy2 =>
 .ret [D.bool ((yy2.getD 0 D.nil).toBool)])
 (.br (((yy1.getD 0 D.nil).toInt) == 0) (.call 71 [] [e0.fld 3] fun yy3 =>
 .ret [D.bool ((yy3.getD 0 D.nil).toBool)])
 (.ret [D.bool false])))
 (.br (((e0.fld 0).toInt) == 2) (.br (((yy1.getD 0 D.nil).toInt) == 8) (.br (decide ((((e0.fld 4).els).length : Int) ≤ 2048)) (.call 72 [] [e0.fld 4] fun yy4 =>
 .ret [D.bool ((yy4.getD 0 D.nil).toBool)])
 (.ret [D.bool false]))
 (.br (((yy1.getD 0 D.nil).toInt) == 0) (.br (decide ((((e0.fld 4).els).length : Int) ≤ 2048)) (.call 72 [] [e0.fld 4] fun yy5 =>
 .ret [D.bool ((yy5.getD 0 D.nil).toBool)])
 (.ret [D.bool false]))
 (.ret [D.bool false])))
 (.br (((e0.fld 0).toInt) == 3) (.br (((yy1.getD 0 D.nil).toInt) == 2) (.call 45 [] [D.str (e0.fld 2).toStr, D.bool false] fun yy6 =>
 .ret [D.bool ((yy6.getD 0 D.nil).toBool)])
 (.ret [D.bool false]))
 (.br (((e0.fld 0).toInt) == 4) (.ret [D.bool (((yy1.getD 0 D.nil).toInt) == 0)])
 (.br (((e0.fld 0).toInt) == 5) (.ret [D.bool (((yy1.getD 0 D.nil).toInt) == 0)])
 (.br (((e0.fld 0).toInt) == 10) (.ret [D.bool (((yy1.getD 0 D.nil).toInt) == 0)])
 (.br (((e0.fld 0).toInt) == 19) (.ret [D.bool (((yy1.getD 0 D.nil).toInt) == 0)])
 (.br (((e0.fld 0).toInt) == 6) (.br (((yy1.getD 0 D.nil).toInt) == 0) (.call 46 [] [D.int ((e0.fld 1).toInt)] fun yy7 =>
 .ret [D.bool ((yy7.getD 0 D.nil).toBool)])
 (.br (((yy1.getD 0 D.nil).toInt) == 1) (.call 46 [] [D.int ((e0.fld 1).toInt)] fun yy8 =>
 .ret [D.bool ((yy8.getD 0 D.nil).toBool)])
 (.ret [D.bool false])))
 (.br (((e0.fld 0).toInt) == 7) (.br (((yy1.getD 0 D.nil).toInt) == 0) (.call 46 [] [D.int ((e0.fld 1).toInt)] fun yy9 =>
 .ret [D.bool ((yy9.getD 0 D.nil).toBool)])
 (.br (((yy1.getD 0 D.nil).toInt) == 1) (.call 46 [] [D.int ((e0.fld 1).toInt)] fun yy10 =>
 .ret [D.bool ((yy10.getD 0 D.nil).toBool)])
 (.ret [D.bool false])))
 (.br (((e0.fld 0).toInt) == 17) (.br (((yy1.getD 0 D.nil).toInt) == 1) (.call 73 [] [D.int ((e0.fld 1).toInt)] fun yy11 =>
 .ret [D.bool ((yy11.getD 0 D.nil).toBool)])
 (.ret [D.bool false]))
 (.br (((e0.fld 0).toInt) == 18) (.br (((yy1.getD 0 D.nil).toInt) == 2) (.call 45 [] [D.str (e0.fld 2).toStr, D.bool true] fun yy12 =>
 .ret [D.bool ((yy12.getD 0 D.nil).toBool)])
 (.ret [D.bool false]))
 (.br (((e0.fld 0).toInt) == 21) (.br (((yy1.getD 0 D.nil).toInt) == 0) (.br (((e0.fld 1).toInt) == 0) (.ret [D.bool true])
 (.ret [D.bool (((e0.fld 1).toInt) == 1)]))
 (.br (((yy1.getD 0 D.nil).toInt) == 1) (.br (((e0.fld 1).toInt) == 0) (.ret [D.bool true])
 (.ret [D.bool (((e0.fld 1).toInt) == 1)]))
 (.ret [D.bool false])))
 (.ret [D.bool false]))))))))))))) := by kernel_rfl

/-! scrim/scrimref21.kid -/
def ref21_kid_orc : List (Nat × Orc) := []
theorem ref21_kid_tree (n : Nat) (k0 : D) (c1 : D) : evFun Tryz.prog md ref21_kid_orc n 63 [] [k0, c1] =
 .br (c1.toInt == 97) (.call 65 [] [D.int k0.toInt] fun yy1 =>
 .ret [D.bool ((yy1.getD 0 D.nil).toBool)])
 (.br (c1.toInt == 102) (.call 69 [] [D.int k0.toInt] fun yy2 =>
 .ret [D.bool ((yy2.getD 0 D.nil).toBool)])
 (.br (c1.toInt == 112) (.call 70 [] [D.int k0.toInt] fun yy3 =>
 .ret [D.bool ((yy3.getD 0 D.nil).toBool)])
 (.br (c1.toInt == 120) (.call 65 [] [D.int k0.toInt] fun yy4 =>
 .br ((yy4.getD 0 D.nil).toBool) (.ret [D.bool true])
 (.ret [D.bool (k0.toInt == 10)]))
 (.ret [D.bool false])))) := by kernel_rfl

/-! scrim/scrimref21.Array -/
def ref21_Array_orc : List (Nat × Orc) := []
theorem ref21_Array_tree (n : Nat) (k0 : D) : evFun Tryz.prog md ref21_Array_orc n 65 [] [k0] =
 .br (decide (1 ≤ k0.toInt)) (.br (decide (k0.toInt ≤ 16)) (.ret [D.bool (k0.toInt != 10)])
 (.ret [D.bool false]))
 (.ret [D.bool false]) := by kernel_rfl

/-! scrim/scrimref21.Monops -/
def ref21_Monops_orc : List (Nat × Orc) := []
theorem ref21_Monops_tree (n : Nat)  : evFun Tryz.prog md ref21_Monops_orc n 67 [] [] =
 .ret [D.sl [D.int 47, D.int 9023, D.int 92, D.int 9024, D.int 168, D.int 9064]] := by kernel_rfl

/-! scrim/scrimref21.Dyops -/
def ref21_Dyops_orc : List (Nat × Orc) := []
theorem ref21_Dyops_tree (n : Nat)  : evFun Tryz.prog md ref21_Dyops_orc n 68 [] [] =
 .ret [D.sl [D.int 46, D.int 8728, D.int 9060, D.int 9059]] := by kernel_rfl

/-! scrim/scrimref21.Func -/
def ref21_Func_orc : List (Nat × Orc) := []
theorem ref21_Func_tree (n : Nat) (k0 : D) : evFun Tryz.prog md ref21_Func_orc n 69 [] [k0] =
 .br (decide (17 ≤ k0.toInt)) (.ret [D.bool (decide (k0.toInt ≤ 24))])
 (.ret [D.bool false]) := by kernel_rfl

/-! scrim/scrimref21.Plain -/
def ref21_Plain_orc : List (Nat × Orc) := []
theorem ref21_Plain_tree (n : Nat) (k0 : D) : evFun Tryz.prog md ref21_Plain_orc n 70 [] [k0] =
 .br (decide (17 ≤ k0.toInt)) (.ret [D.bool (decide (k0.toInt ≤ 21))])
 (.ret [D.bool false]) := by kernel_rfl

/-! scrim/scrimref21.chars -/
def ref21_chars_orc : List (Nat × Orc) := [(2, ⟨[(0, some 25), (3, none)], [], []⟩)]
def ref21_chars_ps : List Nat := [25]
def ref21_chars_rs : List ResultVar := [.tmp 2]
def ref21_chars_ts : List Nat := [4]
noncomputable def ref21_chars_l2 (n m2 : Nat) (l0 : D) (i3 : Int) : Tree :=
  evLoop Tryz.prog md (ev Tryz.prog md n ref21_chars_orc (cAt (bodyOf Tryz.prog 72) [1, 0, 1, 0, 0])) (orcAt ref21_chars_orc 2) m2 ⟨[.d 25 l0, .undef, .undef, .i .i64 i3, .undef, .undef, .undef, .undef, .undef, .undef, .undef, .undef, .undef, .undef, .undef, .undef], [], [], [], []⟩
   (blockK 0 (seqK (joinE Tryz.prog md (joinAt ref21_chars_orc (cAt (bodyOf Tryz.prog 72) [1, 1])) (ev Tryz.prog md n ref21_chars_orc (cAt (bodyOf Tryz.prog 72) [1, 1]))) (retK Tryz.prog md (md 72) ref21_chars_ps ref21_chars_rs ref21_chars_ts)))
theorem ref21_chars_l2_succ (n m2 : Nat) (l0 : D) (i3 : Int) : ref21_chars_l2 n (m2 + 1) l0 i3 =
 .br (decide (i3 < (l0.els.length : Int))) (.br (decide (0 ≤ i3)) (.br (decide (i3 < (l0.els.length : Int))) (.call 88 [] [D.int ((l0.els.getD (Int.toNat i3) D.nil).toInt)] fun yy1 =>
 .br (!((yy1.getD 0 D.nil).toBool)) (.ret [D.bool false])
 (ref21_chars_l2 n m2 l0 (IntKind.wrap .i64 (i3 + 1)))) .fail) .fail)
 (.ret [D.bool true]) := by kernel_rfl
theorem ref21_chars_tree (n : Nat) (l0 : D) : evFun Tryz.prog md ref21_chars_orc n 72 [] [l0] =
 ref21_chars_l2 n n l0 0 := by kernel_rfl

/-! scrim/scrimref21.Glyph -/
def ref21_Glyph_orc : List (Nat × Orc) := []
theorem ref21_Glyph_tree (n : Nat) (c0 : D) : evFun Tryz.prog md ref21_Glyph_orc n 73 [] [c0] =
 .call 81 [] [] fun yy1 =>
 .call 66 [] [yy1.getD 0 D.nil, D.int c0.toInt] fun yy2 =>
 .br ((yy2.getD 0 D.nil).toBool) (.ret [D.bool true])
 (.call 66 [] [D.sl [D.int 47, D.int 9023, D.int 92, D.int 9024], D.int c0.toInt] fun yy3 =>
 .ret [D.bool ((yy3.getD 0 D.nil).toBool)]) := by kernel_rfl

end Go.Proofs.YtcdjifdllibolaaGreat

set_option maxRecDepth 100000
namespace Go.Proofs.YtcdjifdllibolaaGreat
theorem ref21_Array_sp (k : Int) : Sp 65 [.int k] [.bool (arrK k)] := by
  refine sound_ 0 (ref21_Array_tree _ _) ?_
  simp only [toInt_int, int_bne]
  unfold arrK
  refine wp_decs (fun h1 => wp_decs (fun h2 => wp_ret ?_) (fun h2 => wp_ret ?_)) (fun h1 => wp_ret ?_)
  · rw [show decide (1 ≤ k ∧ k ≤ 16 ∧ k ≠ 10) = decide (¬ k = 10) from decide_eq_decide.2 ⟨fun h => h.2.2, fun h => ⟨h1, h2, h⟩⟩]
  · rw [decide_eq_false (by omega)]
  · rw [decide_eq_false (by omega)]
theorem ref21_Func_sp (k : Int) : Sp 69 [.int k] [.bool (funK k)] := by
  refine sound_ 0 (ref21_Func_tree _ _) ?_
  simp only [toInt_int]
  unfold funK
  refine wp_decs (fun h1 => wp_ret ?_) (fun h1 => wp_ret ?_)
  · exact congrArg (fun b => [D.bool b]) (decide_eq_decide.2 ⟨fun h => ⟨h1, h⟩, fun h => h.2⟩)
  · rw [decide_eq_false (by omega)]
theorem ref21_Plain_sp (k : Int) : Sp 70 [.int k] [.bool (plaK k)] := by
  refine sound_ 0 (ref21_Plain_tree _ _) ?_
  simp only [toInt_int]
  unfold plaK
  refine wp_decs (fun h1 => wp_ret ?_) (fun h1 => wp_ret ?_)
  · exact congrArg (fun b => [D.bool b]) (decide_eq_decide.2 ⟨fun h => ⟨h1, h⟩, fun h => h.2⟩)
  · rw [decide_eq_false (by omega)]
theorem ref06_Functions_sp : Sp 81 [] [dI funsL] := sound_ 0 (ref06_Functions_tree _) (wp_ret rfl)
theorem ref06_Operators_sp : Sp 82 [] [dI opsL] := sound_ 0 (ref06_Operators_tree _) (wp_ret rfl)
theorem ref06_Marks_sp : Sp 83 [] [dI marksL] := sound_ 0 (ref06_Marks_tree _) (wp_ret rfl)
theorem ref06_Class_sp (c : Int) : Sp 64 [.int c] [.int (clsC c)] := by
  refine sound_ 0 (ref06_Class_tree _ _) ?_
  simp only [toInt_int, int_beq]
  by_cases h1 : c = 32 ∨ c = 9
  · rw [show clsC c = 1 by unfold clsC; rw [if_pos h1]]
    rcases h1 with h1 | h1
    · exact wp_dec h1 (wp_ret rfl)
    · exact wp_ndec (by omega) (wp_dec h1 (wp_ret rfl))
  by_cases h2 : (97 ≤ c ∧ c ≤ 122) ∨ (65 ≤ c ∧ c ≤ 90) ∨ c = 95
  · rw [show clsC c = 2 by unfold clsC; rw [if_neg h1, if_pos h2]]
    rcases h2 with h2 | h2 | h2
    · repeat (first | exact wp_ret rfl | refine wp_dec (by omega) ?_ | refine wp_ndec (by omega) ?_)
    · repeat (first | exact wp_ret rfl | refine wp_dec (by omega) ?_ | refine wp_ndec (by omega) ?_)
    · repeat (first | exact wp_ret rfl | refine wp_dec (by omega) ?_ | refine wp_ndec (by omega) ?_)
  by_cases h3 : (48 ≤ c ∧ c ≤ 57) ∨ c = 175
  · rw [show clsC c = 3 by unfold clsC; rw [if_neg h1, if_neg h2, if_pos h3]]
    rcases h3 with h3 | h3
    · repeat (first | exact wp_ret rfl | refine wp_dec (by omega) ?_ | refine wp_ndec (by omega) ?_)
    · repeat (first | exact wp_ret rfl | refine wp_dec (by omega) ?_ | refine wp_ndec (by omega) ?_)
  have hc : clsC c = if c ∈ funsL then 4 else if c ∈ opsL then 5 else if c ∈ marksL then 6 else 0 := by unfold clsC; rw [if_neg h1, if_neg h2, if_neg h3]
  have s1 := ref06_In_sp funsL c (by decide)
  have s2 := ref06_In_sp opsL c (by decide)
  have s3 := ref06_In_sp marksL c (by decide)
  have go : Tw (.call 81 [] [] fun y1 => .call 66 [] [y1.getD 0 D.nil, D.int c] fun y2 => .br ((y2.getD 0 D.nil).toBool) (.ret [D.int 4]) (.call 82 [] [] fun y3 => .call 66 [] [y3.getD 0 D.nil, D.int c] fun y4 => .br ((y4.getD 0 D.nil).toBool) (.ret [D.int 5]) (.call 83 [] [] fun y5 => .call 66 [] [y5.getD 0 D.nil, D.int c] fun y6 => .br ((y6.getD 0 D.nil).toBool) (.ret [D.int 6]) (.ret [D.int 0])))) [.int (clsC c)] := by
    rw [hc]
    refine wp_call ref06_Functions_sp (wp_call s1 ?_)
    simp only [getD_c0, toBool_bool]
    refine wp_decs (fun h => wp_ret (by rw [if_pos h])) (fun g1 => wp_call ref06_Operators_sp (wp_call s2 ?_))
    simp only [getD_c0, toBool_bool]
    refine wp_decs (fun h => wp_ret (by rw [if_neg g1, if_pos h])) (fun g2 => wp_call ref06_Marks_sp (wp_call s3 ?_))
    simp only [getD_c0, toBool_bool]
    exact wp_decs (fun h => wp_ret (by rw [if_neg g1, if_neg g2, if_pos h])) (fun g3 => wp_ret (by rw [if_neg g1, if_neg g2, if_neg g3]))
  refine wp_ndec (by omega) (wp_ndec (by omega) ?_)
  rcases Int.lt_or_le c 97 with g1 | g1 <;> rcases Int.lt_or_le c 65 with g2 | g2 <;> rcases Int.lt_or_le c 48 with g3 | g3
  all_goals (try omega)
  all_goals
    repeat (first | refine wp_dec (by omega) ?_ | refine wp_ndec (by omega) ?_)
    exact go
theorem ref21_Monops_sp : Sp 67 [] [dI monsL] := sound_ 0 (ref21_Monops_tree _) (wp_ret rfl)
theorem ref21_Dyops_sp : Sp 68 [] [dI dyosL] := sound_ 0 (ref21_Dyops_tree _) (wp_ret rfl)
theorem ref21_Glyph_sp (c : Int) : Sp 73 [.int c] [.bool (glyC c)] := by
  refine sound_ 0 (ref21_Glyph_tree _ _) (wp_call ref06_Functions_sp (wp_call (ref06_In_sp funsL c (by decide)) ?_))
  simp only [getD_c0, toBool_bool]
  unfold glyC
  refine wp_decs (fun h => wp_ret (by rw [decide_eq_true h]; rfl)) (fun h => ?_)
  rw [decide_eq_false h, Bool.false_or]
  have := ref06_In_sp [47, 9023, 92, 9024] c (by decide)
  exact wp_call this (wp_ret rfl)
/-! Which fields there are. -/
def fieN (e : Ex1) : Int := (if e.op = 0 then 0 else 1) + (if e.name.data.toList = [] then 0 else 2) + (if e.n = .zero then 0 else 4) + (if (e.text.length : Int) = 0 then 0 else 8)
theorem ref21_fields_sp (e : Ex1) (he : FitsE e) : Sp 43 [dE e] [.int (fieN e)] := by
  refine sound_ 0 (ref21_fields_tree _ _) ?_
  have hn := he.num
  simp only [dE_1, dE_2, dE_3, dE_4, dN_0, dN_1, dN_2, toInt_int, toBool_bool, int_bne, els_dI, els_dL, List.length_map, D.toStr, ba_empty, not_dec]
  rw [wrap64 (x := (e.n.top.length : Int) + (e.n.bot.length : Int)) (by omega) (by omega)]
  have z1 : e.n.neg = true → e.n ≠ .zero := fun h hh => by rw [hh] at h; cases h
  have z2 : 0 < (e.n.top.length : Int) + (e.n.bot.length : Int) → e.n ≠ .zero := fun h hh => by rw [hh] at h; simp [Num.zero] at h
  have z3 : e.n.neg = false → ¬ 0 < (e.n.top.length : Int) + (e.n.bot.length : Int) → e.n = .zero := fun h1 h2 => by
    have t1 : e.n.top = [] := List.length_eq_zero_iff.1 (by omega)
    have t2 : e.n.bot = [] := List.length_eq_zero_iff.1 (by omega)
    cases hh : e.n with
    | mk a b c => rw [hh] at h1 t1 t2; simp only at h1 t1 t2; subst h1; subst t1; subst t2; rfl
  have tx : ∀ t b : Int, IntKind.wrap .i64 (b + 8) = b + 8 → t = b + (if (e.text.length : Int) = 0 then 0 else 8) → Tw (.br (decide (0 < (e.text.length : Int))) (.ret [D.int (IntKind.wrap .i64 (b + 8))]) (.ret [D.int b])) [.int t] := fun t b hw ht => by
    rw [hw, ht]
    exact wp_decs (fun h => wp_ret (by rw [if_neg (by omega)])) (fun h => wp_ret (by rw [if_pos (by omega), Int.add_zero]))
  have tl : ∀ t b : Int, 0 ≤ b → b ≤ 3 → t = b + (if e.n = .zero then 0 else 4) + (if (e.text.length : Int) = 0 then 0 else 8) →
      Tw (.br e.n.neg (.br (decide (0 < (e.text.length : Int))) (.ret [D.int (IntKind.wrap .i64 (IntKind.wrap .i64 (b + 4) + 8))]) (.ret [D.int (IntKind.wrap .i64 (b + 4))]))
        (.br (decide (0 < (e.n.top.length : Int) + (e.n.bot.length : Int))) (.br (decide (0 < (e.text.length : Int))) (.ret [D.int (IntKind.wrap .i64 (IntKind.wrap .i64 (b + 4) + 8))]) (.ret [D.int (IntKind.wrap .i64 (b + 4))]))
          (.br (decide (0 < (e.text.length : Int))) (.ret [D.int (IntKind.wrap .i64 (b + 8))]) (.ret [D.int b])))) [.int t] := fun t b h0 h3 ht => by
    have w4 : IntKind.wrap .i64 (b + 4) = b + 4 := wrap64 (by omega) (by omega)
    rw [w4]
    refine wp_br (fun h => tx _ _ (wrap64 (by omega) (by omega)) (by rw [ht, if_neg (z1 h)])) (fun h => wp_decs (fun g => tx _ _ (wrap64 (by omega) (by omega)) (by rw [ht, if_neg (z2 g)])) (fun g => tx _ _ (wrap64 (by omega) (by omega)) (by rw [ht, if_pos (z3 h g), Int.add_zero])))
  unfold fieN
  refine wp_decs (fun h1 => wp_decs (fun h2 => ?_) (fun h2 => ?_)) (fun h1 => wp_decs (fun h2 => ?_) (fun h2 => ?_))
  · exact tl _ (IntKind.wrap .i64 (IntKind.wrap .i64 (0 + 1) + 2)) (by decide) (by decide) (by rw [if_neg h1, if_neg h2]; rfl)
  · exact tl _ (IntKind.wrap .i64 (0 + 1)) (by decide) (by decide) (by rw [if_neg h1, if_pos (Classical.not_not.1 h2)]; rfl)
  · exact tl _ (IntKind.wrap .i64 (0 + 2)) (by decide) (by decide) (by rw [if_pos (Classical.not_not.1 h1), if_neg h2]; rfl)
  · exact tl _ 0 (by decide) (by decide) (by rw [if_pos (Classical.not_not.1 h1), if_pos (Classical.not_not.1 h2)]; rfl)
theorem ref21_name_sp (s : ByteArray) (f : Bool) : Sp 45 [.str s, .bool f] [.bool (nameB s f)] := by
  refine sound_ 4096 (ref21_name_tree _ _ _) ?_
  simp only [D.toStr, toBool_bool, ba_size, int_beq]
  have eb : nameB s f = nameL s.data.toList f := rfl
  rw [eb]
  cases hl : s.data.toList with
  | nil => exact wp_dec rfl (wp_ret rfl)
  | cons c cs =>
    simp only [List.length_cons]
    refine wp_ndec (by omega) (wp_decs (fun h => wp_ret ?_) (fun h2 => ?_))
    · rw [nameL, decide_eq_false (by simp only [List.length_cons]; omega)]; rfl
    have e0 : (c :: cs).getD (Int.toNat 0) 0 = c := rfl
    have hlen : (c :: cs).length ≤ 16 := by simp only [List.length_cons]; omega
    have fin : ∀ m : Nat, Tw (ref21_name_l4 4096 (m + 1) s f (((c :: cs).length : Nat) : Int)) [.bool (decide (65 ≤ (c.toNat : Int) ∧ (c.toNat : Int) ≤ 90) == f)] := by
      intro m
      simp only [ref21_name_l4_succ, ba_size, hl, e0, List.length_cons]
      refine wp_ndec (by omega) (wp_dec (by decide) (wp_dec (by omega) (wp_decs (fun g => wp_dec (by decide) (wp_dec (by omega) (wp_ret ?_))) (fun g => wp_ret ?_))))
      · rw [show decide (65 ≤ (c.toNat : Int) ∧ (c.toNat : Int) ≤ 90) = decide ((c.toNat : Int) ≤ 90) from decide_eq_decide.2 ⟨fun hh => hh.2, fun hh => ⟨g, hh⟩⟩]
      · rw [decide_eq_false (by omega)]
    have step : ∀ (m k : Nat) (x : UInt8) (rest : List UInt8) (Z : Bool), (c :: cs).drop k = x :: rest → (okB x = true → (k = 0 → clsC (x.toNat : Int) = 2) → Tw (ref21_name_l4 4096 m s f ((k + 1 : Nat) : Int)) [.bool Z]) → (Z = true → okB x = true ∧ (k = 0 → clsC (x.toNat : Int) = 2)) → Tw (ref21_name_l4 4096 (m + 1) s f (k : Int)) [.bool Z] := by
      intro m k x rest Z hd hgo hno
      obtain ⟨q1, q2, q3⟩ := drop_cons hd
      have hk : k < 16 := by omega
      have bad : ¬ (okB x = true ∧ (k = 0 → clsC (x.toNat : Int) = 2)) → Z = false := fun h => by
        cases hz : Z with
        | false => rfl
        | true => exact absurd (hno hz) h
      have ok2 : clsC (x.toNat : Int) = 2 → okB x = true := fun h => by unfold okB; rw [decide_eq_true h]; rfl
      simp only [ref21_name_l4_succ, ba_size, hl, Int.toNat_natCast, get8 q2, wrap8, wrap_succ (show k < 9223372036854775807 by omega), int_beq, not_dec]
      refine wp_dec (by omega) (wp_dec (by omega) (wp_dec (by omega) ?_))
      refine wp_decs (fun g => ?_) (fun g => ?_)
      · refine wp_dec (by omega) (wp_dec (by omega) (wp_dec (by omega) (wp_dec (by omega) (wp_call (ref06_Class_sp _) ?_))))
        simp only [getD_c0, toInt_int, int_bne]
        refine wp_decs (fun g2 => wp_decs (fun g3 => wp_ret ?_) (fun g3 => wp_decs (fun g4 => wp_ret ?_) (fun g4 => hgo ?_ ?_))) (fun g2 => hgo (ok2 (Classical.not_not.1 g2)) (fun _ => Classical.not_not.1 g2))
        · rw [bad (fun hh => by
            have := hh.1
            unfold okB at this
            rw [decide_eq_false g2, decide_eq_false (by omega)] at this; cases this)]
        · rw [bad (fun hh => g2 (hh.2 (by omega)))]
        · unfold okB; rw [decide_eq_true (show 48 ≤ (x.toNat : Int) ∧ (x.toNat : Int) ≤ 57 by omega), Bool.or_true]
        · intro h0; omega
      · refine wp_dec (by omega) (wp_dec (by omega) (wp_call (ref06_Class_sp _) ?_))
        simp only [getD_c0, toInt_int, int_bne]
        refine wp_decs (fun g2 => wp_ret ?_) (fun g2 => hgo (ok2 (Classical.not_not.1 g2)) (fun _ => Classical.not_not.1 g2))
        rw [bad (fun hh => by
            have := hh.1
            unfold okB at this
            rw [decide_eq_false g2, decide_eq_false (by omega)] at this; cases this)]
    have key := loop_list (P := Tryz.prog) (md := md) (c :: cs) (fun m k (_ : Unit) => ref21_name_l4 4096 m s f (k : Int)) (fun rest _ => [.bool ((decide (rest.length = cs.length + 1) → clsC (c.toNat : Int) = 2) && rest.all okB && (decide (65 ≤ (c.toNat : Int) ∧ (c.toNat : Int) ≤ 90) == f))]) (fun _ _ => True)
      (fun m k t hk _ => by
        rw [hk]
        refine Tree.wp_mono (fin m) (fun ys hy => hy.trans ?_)
        simp)
      (fun m k t x rest hd _ ih => by
        obtain ⟨q1, q2, q3⟩ := drop_cons hd
        have ih := ih () trivial
        have hle := congrArg List.length hd
        rw [List.length_drop, List.length_cons, List.length_cons] at hle
        have hr : ¬ rest.length = cs.length + 1 := by omega
        have h0 : k = 0 → x = c := fun h => by subst h; simp at q2; exact q2.symm
        have hk0 : (x :: rest).length = cs.length + 1 ↔ k = 0 := by rw [List.length_cons]; omega
        refine step m k x rest _ hd (fun o1 o2 => ?_) (fun hz => ?_)
        · refine Tree.wp_mono ih (fun ys hy => hy.trans ?_)
          have e1 : (decide (rest.length = cs.length + 1) = true → clsC (c.toNat : Int) = 2) := fun h => absurd (of_decide_eq_true h) hr
          have e2 : (decide ((x :: rest).length = cs.length + 1) = true → clsC (c.toNat : Int) = 2) := fun h => by
            have hk := hk0.1 (of_decide_eq_true h)
            have := o2 hk
            rwa [h0 hk] at this
          rw [decide_eq_true e1, decide_eq_true e2, List.all_cons, o1]; simp only [Bool.true_and]
        · simp only [Bool.and_eq_true, decide_eq_true_eq, List.all_cons] at hz
          exact ⟨hz.1.2.1, fun hk => by rw [h0 hk]; exact hz.1.1 (hk0.2 hk)⟩)
      4096 0 () (by omega) (by omega) trivial
    simp only [List.drop_zero] at key
    refine Tree.wp_mono key (fun ys hy => hy.trans ?_)
    rw [nameL, decide_eq_true hlen]
    simp only [List.length_cons, decide_true, forall_const, List.all_cons, Bool.true_and]
    by_cases hc : clsC (c.toNat : Int) = 2
    · have : okB c = true := by unfold okB; rw [decide_eq_true hc]; rfl
      simp [hc, this]
    · simp [hc]
def kidB (k c : Int) : Bool := if c = 97 then arrK k else if c = 102 then funK k else if c = 112 then plaK k else if c = 120 then arrK k || decide (k = 10) else false
theorem ref21_kid_sp (k c : Int) : Sp 63 [.int k, .int c] [.bool (kidB k c)] := by
  refine sound_ 0 (ref21_kid_tree _ _ _) ?_
  simp only [toInt_int, int_beq]
  unfold kidB
  refine wp_decs (fun h => ?_) (fun h1 => wp_decs (fun h => ?_) (fun h2 => wp_decs (fun h => ?_) (fun h3 => wp_decs (fun h => ?_) (fun h4 => wp_ret ?_))))
  · rw [if_pos h]; exact wp_call (ref21_Array_sp k) (wp_ret rfl)
  · rw [if_neg h1, if_pos h]; exact wp_call (ref21_Func_sp k) (wp_ret rfl)
  · rw [if_neg h1, if_neg h2, if_pos h]; exact wp_call (ref21_Plain_sp k) (wp_ret rfl)
  · rw [if_neg h1, if_neg h2, if_neg h3, if_pos h]
    refine wp_call (ref21_Array_sp k) (wp_br (fun g => wp_ret ?_) (fun g => wp_ret ?_))
    · rw [show arrK k = true from g]; rfl
    · rw [show arrK k = false from g]; rfl
  · rw [if_neg h1, if_neg h2, if_neg h3, if_neg h4]
def kidsS : List Ex1 → List UInt8 → UInt8 → Bool
  | [], _, _ => true
  | k :: ks, c :: cs, z => kidB k.kind (c.toNat : Int) && kidsS ks cs z
  | k :: ks, [], z => kidB k.kind (z.toNat : Int) && kidsS ks [] z
def kidsW (ks : List Ex1) (l : List UInt8) (z : UInt8) (more : Bool) : Bool := decide (l.length ≤ ks.length) && (decide (ks.length ≤ l.length) || more) && kidsS ks l z
theorem ref21_kids_sp (e : Ex1) (he : FitsE e) (s : ByteArray) (l : List UInt8) (z : UInt8) (more : Bool) (hs : s.data.toList = l ++ [z]) (hl : l.length ≤ 10) : Sp 44 [dE e, .str s, .bool more] [.bool (kidsW e.kids (l ++ [z]) z more)] := by
  have hkl := he.len
  refine sound_ (e.kids.length + 1) (ref21_kids_tree _ _ _ _) ?_
  simp only [D.toStr, toBool_bool, ba_size, hs, dE_5, els_sl, List.length_map, List.length_append, List.length_cons, List.length_nil]
  have loop : Tw (ref21_kids_l4 (e.kids.length + 1) (e.kids.length + 1) s 0 (dE e)) [.bool (kidsS e.kids (l ++ [z]) z)] := by
    have key := loop_list (P := Tryz.prog) (md := md) e.kids (fun m k (_ : Unit) => ref21_kids_l4 (e.kids.length + 1) m s (k : Int) (dE e)) (fun rest _ => [.bool (kidsS rest ((l ++ [z]).drop (e.kids.length - rest.length)) z)]) (fun _ _ => True)
      (fun m k t hk _ => by
        simp only [ref21_kids_l4_succ, dE_5, els_sl, List.length_map]
        exact wp_ndec (by omega) (wp_ret rfl))
      (fun m k t x rest hd _ ih => by
        obtain ⟨h1, h2, h3⟩ := drop_cons hd
        have ih := ih () trivial
        have hle := congrArg List.length hd
        rw [List.length_drop, List.length_cons] at hle
        have e1 : e.kids.length - (x :: rest).length = k := by rw [List.length_cons]; omega
        have e2 : e.kids.length - rest.length = k + 1 := by omega
        rw [e2] at ih
        rw [e1]
        have w1 : IntKind.wrap .i64 (((l.length + 1 : Nat) : Int) - 1) = (l.length : Int) := by rw [wrap64 (by omega) (by omega)]; omega
        have gz : (l ++ [z]).getD l.length 0 = z := by rw [List.getD_eq_getElem?_getD, List.getElem?_append_right (Nat.le_refl _), Nat.sub_self]; rfl
        have fin : ∀ c : UInt8, kidsS (x :: rest) ((l ++ [z]).drop k) z = (kidB x.kind (c.toNat : Int) && kidsS rest ((l ++ [z]).drop (k + 1)) z) → Tw (.call 63 [] [D.int x.kind, D.int (c.toNat : Int)] fun y => .br (!((y.getD 0 D.nil).toBool)) (.ret [D.bool false]) (ref21_kids_l4 (e.kids.length + 1) m s ((k + 1 : Nat) : Int) (dE e))) [.bool (kidsS (x :: rest) ((l ++ [z]).drop k) z)] := fun c hc => by
          rw [hc]
          refine wp_call (ref21_kid_sp _ _) (wp_br (fun g => wp_ret ?_) (fun g => ?_))
          · rw [show kidB x.kind (c.toNat : Int) = false by simpa using g]; rfl
          · rw [show kidB x.kind (c.toNat : Int) = true by simpa using g, Bool.true_and]; exact ih
        simp only [ref21_kids_l4_succ, dE_5, els_sl, List.length_map, Int.toNat_natCast, getD_map h2, dE_0, toInt_int, ba_size, hs, List.length_append, List.length_cons, List.length_nil, w1, gz, wrap_succ (show k < 9223372036854775807 by omega), Nat.zero_add]
        refine wp_dec (by omega) (wp_dec (by omega) (wp_dec (by omega) ?_))
        refine wp_decs (fun g => ?_) (fun g => ?_)
        · have hkl2 : k < (l ++ [z]).length := by rw [List.length_append, List.length_cons, List.length_nil]; omega
          have gk : (l ++ [z]).getD k 0 = (l ++ [z])[k] := by rw [List.getD_eq_getElem?_getD, List.getElem?_eq_getElem hkl2]; rfl
          rw [gk]
          refine wp_dec (by omega) (wp_dec (by omega) (wp_dec (by omega) (wp_dec (by omega) (fin _ ?_))))
          rw [List.drop_eq_getElem_cons hkl2]; rfl
        · refine wp_dec (by omega) (wp_dec (by omega) (fin z ?_))
          have d0 : (l ++ [z]).drop k = [] := List.drop_eq_nil_of_le (by rw [List.length_append, List.length_cons, List.length_nil]; omega)
          have d1 : (l ++ [z]).drop (k + 1) = [] := List.drop_eq_nil_of_le (by rw [List.length_append, List.length_cons, List.length_nil]; omega)
          rw [d0, d1]; rfl)
      (e.kids.length + 1) 0 () (by omega) (by omega) trivial
    refine Tree.wp_mono key (fun ys hy => hy.trans ?_)
    rw [List.drop_zero, Nat.sub_self, List.drop_zero]
  unfold kidsW
  rw [List.length_append, List.length_cons, List.length_nil]
  refine wp_decs (fun h => wp_ret (by rw [decide_eq_false (by omega)]; rfl)) (fun h => ?_)
  rw [decide_eq_true (show l.length + (0 + 1) ≤ e.kids.length by omega), Bool.true_and]
  refine wp_decs (fun g => ?_) (fun g => ?_)
  · rw [decide_eq_false (show ¬ e.kids.length ≤ l.length + (0 + 1) by omega), Bool.false_or]
    cases more with
    | false => exact wp_tt rfl (wp_ret rfl)
    | true => exact wp_ff rfl loop
  · rw [decide_eq_true (show e.kids.length ≤ l.length + (0 + 1) by omega), Bool.true_or, Bool.true_and]; exact loop
theorem ref21_chars_sp (l : List Int) (hl : l.length ≤ 2048) : Sp 72 [dI l] [.bool (l.all mayC)] := by
  refine sound_ 4096 (ref21_chars_tree _ _) ?_
  have key := loop_list (P := Tryz.prog) (md := md) l (fun m k (_ : Unit) => ref21_chars_l2 4096 m (dI l) (k : Int)) (fun rest _ => [.bool (rest.all mayC)]) (fun _ _ => True)
    (fun m k t hk _ => by
      simp only [ref21_chars_l2_succ, els_dI, List.length_map]
      exact wp_ndec (by omega) (wp_ret rfl))
    (fun m k t x rest hd _ ih => by
      obtain ⟨h1, h2, h3⟩ := drop_cons hd
      have ih := ih () trivial
      simp only [ref21_chars_l2_succ, els_dI, List.length_map, Int.toNat_natCast, getD_map h2, toInt_int, wrap_succ (show k < 9223372036854775807 by omega), List.all_cons]
      refine wp_dec (by omega) (wp_dec (by omega) (wp_dec (by omega) (wp_call (ref06_May_sp x) (wp_br (fun g => wp_ret ?_) (fun g => ?_)))))
      · rw [show mayC x = false by simpa using g]; rfl
      · rw [show mayC x = true by simpa using g, Bool.true_and]; exact ih)
    4096 0 () (by omega) (by omega) trivial
  exact key
theorem ref21_port_sp (n : Int) : Sp 46 [.int n] [.bool (decide (0 ≤ n) && decide (n < 8))] := by
  refine sound_ 0 (ref21_port_tree _ _) ?_
  simp only [toInt_int]
  refine wp_decs (fun h => wp_ret ?_) (fun h => wp_ret (by rw [decide_eq_false h]; rfl))
  rw [decide_eq_true h, Bool.true_and]
  exact congrArg (fun b => [D.bool b]) (decide_eq_decide.2 (show n ≤ 7 ↔ n < 8 by omega))
def staB (braces : Bool) (k : Ex1) : Bool := arrK k.kind || decide (k.kind = 27) || (braces && (decide (k.kind = 25) || decide (k.kind = 26)))
theorem ref21_statements_sp (e : Ex1) (he : FitsE e) (b : Bool) : Sp 47 [dE e, .bool b] [.bool (decide (0 < (e.kids.length : Int)) && e.kids.all (staB b))] := by
  have hkl := he.len
  refine sound_ (e.kids.length + 1) (ref21_statements_tree _ _ _) ?_
  have key := loop_list (P := Tryz.prog) (md := md) e.kids (fun m k (_ : Unit) => ref21_statements_l2 (e.kids.length + 1) m b (k : Int) (dE e)) (fun rest _ => [.bool (decide (0 < (e.kids.length : Int)) && rest.all (staB b))]) (fun _ _ => True)
    (fun m k t hk _ => by
      simp only [ref21_statements_l2_succ, dE_5, els_sl, List.length_map]
      exact wp_ndec (by omega) (wp_ret (by simp)))
    (fun m k t x rest hd _ ih => by
      obtain ⟨h1, h2, h3⟩ := drop_cons hd
      have ih := ih () trivial
      have yes : staB b x = true → Tw (ref21_statements_l2 (e.kids.length + 1) m b ((k + 1 : Nat) : Int) (dE e)) [.bool (decide (0 < (e.kids.length : Int)) && (staB b x && rest.all (staB b)))] := fun h => by rw [h, Bool.true_and]; exact ih
      simp only [ref21_statements_l2_succ, dE_5, els_sl, List.length_map, Int.toNat_natCast, getD_map h2, dE_0, toInt_int, wrap_succ (show k < 9223372036854775807 by omega), List.all_cons, int_beq, int_bne, not_dec]
      refine wp_dec (by omega) (wp_dec (by omega) (wp_dec (by omega) (wp_call (ref21_Array_sp _) ?_)))
      simp only [getD_c0, toBool_bool]
      refine wp_br (fun g => ?_) (fun g => yes (by unfold staB; rw [show arrK x.kind = true by simpa using g]; rfl))
      have g : arrK x.kind = false := by simpa using g
      refine wp_decs (fun g2 => ?_) (fun g2 => yes (by unfold staB; rw [decide_eq_true (Classical.not_not.1 g2), Bool.or_true]; rfl))
      cases b with
      | false => exact wp_ff rfl (wp_ret (by unfold staB; rw [g, decide_eq_false g2]; simp))
      | true =>
        refine wp_tt rfl (wp_decs (fun g3 => yes (by unfold staB; rw [decide_eq_true g3]; simp)) (fun g3 => wp_decs (fun g4 => wp_ret (by unfold staB; rw [g, decide_eq_false g2, decide_eq_false g3, decide_eq_false g4]; simp)) (fun g4 => yes (by unfold staB; rw [decide_eq_true (Classical.not_not.1 g4)]; simp)))))
    (e.kids.length + 1) 0 () (by omega) (by omega) trivial
  exact key
def dyoK (op : Int) : List Ex1 → Bool
  | [a, b] => funK a.kind && (if op = 9060 then arrK b.kind else plaK b.kind || (decide (op = 9059) && arrK b.kind))
  | _ => false
def opeB (e : Ex1) : Bool := decide (fieN e = 1) && (if e.kind = 22 then decide (e.op ∈ monsL) && kidsW e.kids [102] 102 false
  else decide (e.op ∈ dyosL) && dyoK e.op e.kids)
theorem ref21_operators_sp (e : Ex1) (he : FitsE e) : Sp 48 [dE e] [.bool (opeB e)] := by
  refine sound_ 0 (ref21_operators_tree _ _) (wp_call (ref21_fields_sp e he) ?_)
  simp only [getD_c0, toInt_int, int_bne, int_beq, dE_0, dE_1, dE_5, els_sl, List.length_map]
  unfold opeB
  refine wp_decs (fun h => wp_ret (by rw [decide_eq_false h]; rfl)) (fun h => ?_)
  rw [decide_eq_true (Classical.not_not.1 h), Bool.true_and]
  refine wp_decs (fun g => ?_) (fun g => ?_)
  · rw [if_pos g]
    refine wp_call ref21_Monops_sp (wp_call (ref06_In_sp monsL e.op (by decide)) (wp_decs (fun q => ?_) (fun q => wp_ret (by rw [decide_eq_false q]; rfl))))
    rw [decide_eq_true q, Bool.true_and]
    exact wp_call (ref21_kids_sp e he ⟨#[102]⟩ [] 102 false rfl (by simp)) (wp_ret rfl)
  · rw [if_neg g]
    refine wp_call ref21_Dyops_sp (wp_call (ref06_In_sp dyosL e.op (by decide)) ?_)
    simp only [getD_c0, toBool_bool, not_dec]
    refine wp_decs (fun q => wp_ret (by rw [decide_eq_false q]; rfl)) (fun q => ?_)
    rw [decide_eq_true (Classical.not_not.1 q), Bool.true_and]
    refine wp_decs (fun q2 => wp_ret ?_) (fun q2 => ?_)
    · have : dyoK e.op e.kids = false := by
        match hk : e.kids, q2 with
        | [a, b], q2 => exact absurd rfl q2
        | [], _ => rfl
        | [a], _ => rfl
        | a :: b :: c :: l, _ => rfl
      rw [this]
    · obtain ⟨a, b, hk⟩ : ∃ a b, e.kids = [a, b] := by
        match hk : e.kids, q2 with
        | [a, b], _ => exact ⟨a, b, rfl⟩
        | [], q2 => exact absurd (by simp) q2
        | [a], q2 => exact absurd (by simp) q2
        | a :: b :: c :: l, q2 => exact absurd (by simp only [List.length_cons]; omega) q2
      rw [hk, show dyoK e.op [a, b] = (funK a.kind && (if e.op = 9060 then arrK b.kind else plaK b.kind || (decide (e.op = 9059) && arrK b.kind))) from rfl]
      have e0 : (([a, b].map dE).getD (Int.toNat 0) D.nil) = dE a := rfl
      have e1 : (([a, b].map dE).getD (Int.toNat 1) D.nil) = dE b := rfl
      rw [e0, e1]
      simp only [dE_0, toInt_int, List.length_cons, List.length_nil]
      refine wp_dec (by decide) (wp_dec (by decide) (wp_call (ref21_Func_sp _) ?_))
      simp only [getD_c0, toBool_bool]
      refine wp_br (fun r => wp_ret (by rw [show funK a.kind = false by simpa using r]; rfl)) (fun r => ?_)
      rw [show funK a.kind = true by simpa using r, Bool.true_and]
      refine wp_dec (by decide) (wp_dec (by decide) (wp_decs (fun t => ?_) (fun t => ?_)))
      · rw [if_pos t]; exact wp_call (ref21_Array_sp _) (wp_ret rfl)
      · rw [if_neg t]
        refine wp_call (ref21_Plain_sp _) (wp_br (fun u => wp_ret ?_) (fun u => wp_decs (fun w => ?_) (fun w => wp_ret ?_)))
        · rw [show plaK b.kind = true from u]; rfl
        · rw [show plaK b.kind = false from u, decide_eq_true w, Bool.false_or, Bool.true_and]; exact wp_call (ref21_Array_sp _) (wp_ret rfl)
        · rw [show plaK b.kind = false from u, decide_eq_false w]; rfl
end Go.Proofs.YtcdjifdllibolaaGreat

