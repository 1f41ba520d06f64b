/- Proved: lemmas for the law of this folder, part 5. No condition. -/
import Derived.Test.YtjmddikeadbmjaaGreatRows
import Derived.WalkKit
import Derived.WalkSpells
import Derived.WalkLawsBesides
import Derived.Lib.Hide
import Derived.Laws.CopyOwn
import Derived.Deep.QuietTactic
import Derived.BigQuiet
import Derived.Orders
import Derived.Defers
import Derived.Recover
import Derived.Test.YtjmddikeadbmjaaGreatProg
import Derived.KernelRfl
import Derived.ProofKit
import Derived.OpenShut
import Derived.Test.YtjmddikeadbmjaaGreatZd12ac208
set_option linter.unusedSimpArgs false
set_option linter.unusedVariables false
set_option maxRecDepth 100000
namespace Go.Proofs.YtjmddikeadbmjaaGreat

theorem can_len {x k : Nat} (h : (lb x).length = k + 1) : B ^ k ≤ x := by
  rcases Nat.lt_or_ge x (B ^ k) with h1 | h1
  · have := lb_len.2 h1; omega
  · exact h1
theorem lb_of {r : List Limb} (h : ∀ k, r.length = k + 1 → B ^ k ≤ nv r) : lb (nv r) = r := by
  refine lb_can (fun hne hz => ?_)
  have hd := List.dropLast_concat_getLast hne
  have hl : 0 < r.length := List.length_pos_iff.2 hne
  have h1 := h (r.length - 1) (by omega)
  have e : nv r = nv r.dropLast := by
    have e2 := nv_snoc r.dropLast (r.getLast hne)
    rw [hd, hz, show (0 : Limb).toNat = 0 from rfl, Nat.mul_zero, Nat.add_zero] at e2
    exact e2
  have h2 := nv_lt r.dropLast
  rw [List.length_dropLast] at h2
  omega
theorem pre_get {α : Type} {pre l : List α} {k : Nat} (hp : pre.length = k) (hk : k < l.length) : (pre ++ l.drop k)[k]? = some l[k] := by
  rw [List.getElem?_append_right (by omega), hp, Nat.sub_self, List.getElem?_drop, Nat.add_zero, List.getElem?_eq_getElem hk]
theorem pre_set {α : Type} {pre l : List α} {k : Nat} (v : α) (hp : pre.length = k) (hk : k < l.length) : (pre ++ l.drop k).set k v = (pre ++ [v]) ++ l.drop (k + 1) := by
  rw [List.set_append_right _ _ (by omega), hp, Nat.sub_self, List.drop_eq_getElem_cons hk, List.set_cons_zero]; simp
theorem map_set {α : Type} {f : α → D} {l : List α} {k : Nat} {v : α} : (l.map f).set k (f v) = (l.set k v).map f := by rw [List.map_set]
theorem nv_set (l : List Limb) (i : Nat) (hi : i < l.length) (v : Limb) : nv (l.set i v) + B ^ i * (l[i]).toNat = nv l + B ^ i * v.toNat := by
  induction l generalizing i with
  | nil => simp at hi
  | cons y l ih =>
    cases i with
    | zero => simp [nv]; omega
    | succ i =>
      have hi' : i < l.length := by simpa using hi
      have := ih i hi'
      simp only [List.set_cons_succ, nv, List.getElem_cons_succ, Nat.pow_succ]
      have h2 := congrArg (fun n => B * n) this
      simp only [Nat.mul_add] at h2
      rw [show B ^ i * B * (l[i]).toNat = B * (B ^ i * (l[i]).toNat) by rw [Nat.mul_comm (B ^ i) B, Nat.mul_assoc], show B ^ i * B * v.toNat = B * (B ^ i * v.toNat) by rw [Nat.mul_comm (B ^ i) B, Nat.mul_assoc]]
      omega
theorem bits32 {X Y : Nat} (hX : X < 4294967296) (hY : Y < 4294967296) : bits_ .xor .u32 (X : Int) (Y : Int) = ((X ^^^ Y : Nat) : Int) ∧ bits_ .and .u32 (X : Int) (Y : Int) = ((X &&& Y : Nat) : Int) ∧ bits_ .or .u32 (X : Int) (Y : Int) = ((X ||| Y : Nat) : Int) := by
  have b : IntKind.bits .u32 = 32 := rfl
  have e1 : (X ^^^ Y) < 2 ^ 32 := Nat.xor_lt_two_pow (by omega) (by omega)
  have e2 : (X &&& Y) < 2 ^ 32 := Nat.and_lt_two_pow _ (by omega)
  have e3 : (X ||| Y) < 2 ^ 32 := Nat.or_lt_two_pow (by omega) (by omega)
  simp only [bits_, b, BitVec.ofInt_natCast, BitVec.toNat_xor, BitVec.toNat_and, BitVec.toNat_or, BitVec.toNat_ofNat, Nat.mod_eq_of_lt (show X < 2 ^ 32 by omega), Nat.mod_eq_of_lt (show Y < 2 ^ 32 by omega)]
  exact ⟨wrapU32 (by omega) (by omega), wrapU32 (by omega) (by omega), wrapU32 (by omega) (by omega)⟩
theorem top_bit (n : Nat) (h : n < 4294967296) : n.testBit 31 = decide (2147483648 ≤ n) := by
  rw [Nat.testBit_eq_decide_div_mod_eq]
  have : n / 2 ^ 31 % 2 = 1 ↔ 2147483648 ≤ n := by omega
  simp only [this]
theorem sub_nat (X Y D c : Nat) (hX : X < 4294967296) (hY : Y < 4294967296) (hc : c ≤ 1) (hD : (D : Int) = ((X : Int) - Y - c) % 4294967296) :
    ((((4294967295 ^^^ X) &&& Y) ||| ((4294967295 ^^^ (X ^^^ Y)) &&& D) : Nat) : Int) / 2147483648 = if X < Y + c then 1 else 0 := by
  have hDl : D < 4294967296 := by omega
  have hN : (((4294967295 ^^^ X) &&& Y) ||| ((4294967295 ^^^ (X ^^^ Y)) &&& D)) < 2 ^ 32 :=
    Nat.or_lt_two_pow (Nat.and_lt_two_pow _ (by omega)) (Nat.and_lt_two_pow _ (by omega))
  have ht := top_bit _ (show _ < 4294967296 from hN)
  rw [Nat.testBit_or, Nat.testBit_and, Nat.testBit_and, Nat.testBit_xor, Nat.testBit_xor, Nat.testBit_xor, top_bit X hX, top_bit Y hY, top_bit D hDl, show Nat.testBit 4294967295 31 = true by decide] at ht
  generalize (((4294967295 ^^^ X) &&& Y) ||| ((4294967295 ^^^ (X ^^^ Y)) &&& D)) = N at *
  by_cases h1 : 2147483648 ≤ X <;> by_cases h2 : 2147483648 ≤ Y <;> by_cases h3 : 2147483648 ≤ D <;> simp [h1, h2, h3] at ht <;> split <;> omega
theorem bits_Add32_sp (x y c : Nat) (hx : x < B) (hy : y < B) (hc : c ≤ 1) : Sp 158 [.int (x : Int), .int (y : Int), .int (c : Int)] [.int (((x + y + c) % B : Nat) : Int), .int (((x + y + c) / B : Nat) : Int)] := by
  rw [B_eq] at *
  refine sound_ 0 (bits_Add32_tree _ _ _ _) (wp_tt (by decide) (wp_ret ?_))
  simp only [toInt_int]
  have t1 : IntKind.wrap .u64 (IntKind.wrap .u64 (IntKind.wrap .u64 (x : Int) + IntKind.wrap .u64 (y : Int)) + IntKind.wrap .u64 (c : Int)) = ((x + y + c : Nat) : Int) := by
    rw [wrapU64 (x := (x : Int)) (by omega) (by omega), wrapU64 (x := (y : Int)) (by omega) (by omega), wrapU64 (x := (c : Int)) (by omega) (by omega), wrapU64 (x := (x : Int) + y) (by omega) (by omega), wrapU64 (by omega) (by omega)]; omega
  rw [t1, fdiv32, wrapU32 (x := (((x + y + c) / 4294967296 : Nat) : Int)) (by omega) (by omega)]
  have t2 : IntKind.wrap .u32 ((x + y + c : Nat) : Int) = (((x + y + c) % 4294967296 : Nat) : Int) := by rw [IntKind.wrap_u32]; omega
  rw [t2]
theorem bits_Sub32_sp (x y c : Nat) (hx : x < B) (hy : y < B) (hc : c ≤ 1) (z c' : Nat) (hz : z < B) (hc' : c' ≤ 1) (e : x + B * c' = z + y + c) : Sp 159 [.int (x : Int), .int (y : Int), .int (c : Int)] [.int (z : Int), .int (c' : Int)] := by
  rw [B_eq] at *
  refine sound_ 0 (bits_Sub32_tree _ _ _ _) (wp_tt (by decide) (wp_ret ?_))
  simp only [toInt_int]
  have t1 : IntKind.wrap .u32 (IntKind.wrap .u32 ((x : Int) - (y : Int)) - (c : Int)) = (z : Int) := by rw [IntKind.wrap_u32, IntKind.wrap_u32]; omega
  have hm : IntKind.max .u32 = ((4294967295 : Nat) : Int) := by decide
  have e1 : (4294967295 ^^^ x) < 2 ^ 32 := Nat.xor_lt_two_pow (by omega) (by omega)
  have e2 : (x ^^^ y) < 2 ^ 32 := Nat.xor_lt_two_pow (by omega) (by omega)
  have e3 : (4294967295 ^^^ (x ^^^ y)) < 2 ^ 32 := Nat.xor_lt_two_pow (by omega) e2
  have e4 : ((4294967295 ^^^ x) &&& y) < 2 ^ 32 := Nat.and_lt_two_pow _ (by omega)
  have e5 : ((4294967295 ^^^ (x ^^^ y)) &&& z) < 2 ^ 32 := Nat.and_lt_two_pow _ (by omega)
  have hs := sub_nat x y z c (by omega) (by omega) hc (by omega)
  rw [t1, hm, (bits32 (X := 4294967295) (Y := x) (by omega) (by omega)).1, (bits32 (X := x) (Y := y) (by omega) (by omega)).1, (bits32 (X := 4294967295) (Y := x ^^^ y) (by omega) (by omega)).1, (bits32 (X := 4294967295 ^^^ x) (Y := y) (by omega) (by omega)).2.1, (bits32 (X := 4294967295 ^^^ (x ^^^ y)) (Y := z) (by omega) (by omega)).2.1, (bits32 (by omega) (by omega)).2.2]
  have t3 : ∀ q : Nat, Int.fdiv (q : Int) (2 ^ (min (Int.toNat 31) (IntKind.bits .u32))) = (q : Int) / 2147483648 := fun q => by
    rw [show (2 : Int) ^ (min (Int.toNat 31) (IntKind.bits .u32)) = 2147483648 by decide, Int.fdiv_eq_ediv_of_nonneg _ (by omega)]
  rw [t3, hs]
  congr 2
  split <;> congr 1 <;> omega
theorem nat_Cmp_sp (a b : List Limb) (ha : a.length ≤ 1000000) (hb : b.length ≤ 1000000) : Sp 142 [dL a, dL b] [.int (cmpN (nv a) (nv b))] := by
  refine sound_ (a.length + 1) (nat_Cmp_tree _ _ _) (wp_call (nat_trim_sp a (by omega)) (wp_call (nat_trim_sp b (by omega)) ?_))
  have la : (lb (nv a)).length ≤ a.length := lb_len.2 (nv_lt a)
  have lb_ : (lb (nv b)).length ≤ b.length := lb_len.2 (nv_lt b)
  simp only [getD_c0, els_dL, List.length_map]
  refine wp_decs (fun h => wp_ret ?_) (fun h => wp_decs (fun h' => wp_ret ?_) (fun h' => ?_))
  · have h1 : nv a < nv b := by
      have e1 : nv a < B ^ (lb (nv a)).length := lb_len.1 (Nat.le_refl _)
      rcases Nat.lt_or_ge (nv b) (B ^ (lb (nv a)).length) with h2 | h2
      · have := lb_len.2 h2; omega
      · omega
    rw [cmpN, if_pos h1]
  · have h1 : nv b < nv a := by
      have e1 : nv b < B ^ (lb (nv b)).length := lb_len.1 (Nat.le_refl _)
      rcases Nat.lt_or_ge (nv a) (B ^ (lb (nv b)).length) with h2 | h2
      · have := lb_len.2 h2; omega
      · omega
    rw [cmpN, if_neg (by omega), if_neg (by omega)]
  · have hl : (lb (nv b)).length = (lb (nv a)).length := by omega
    have key := loop_down (P := Tryz.prog) (md := md) (fun m k (_ : Unit) => nat_Cmp_l7 (a.length + 1) m (dL (lb (nv a))) (dL (lb (nv b))) ((k : Int) - 1)) (fun _ _ => [.int (cmpN (nv a) (nv b))]) (fun k _ => k ≤ (lb (nv a)).length ∧ nv a / B ^ k = nv b / B ^ k)
      (fun m s ⟨_, h⟩ => by
        simp only [nat_Cmp_l7_succ]
        refine wp_ndec (by omega) (wp_ret ?_)
        simp at h
        simp [cmpN, h])
      (fun m k s ⟨h0, h⟩ ih => by
        have g1 := nv_limb (lb (nv a)) k (by omega)
        have g2 := nv_limb (lb (nv b)) k (by omega)
        rw [nv_lb] at g1 g2
        have ga : ((lb (nv a)).map dB).getD k D.nil = D.int ((nv a / B ^ k % B : Nat) : Int) := by rw [getD_map (List.getElem?_eq_getElem (show k < (lb (nv a)).length by omega)), ← g1]; rfl
        have gb : ((lb (nv b)).map dB).getD k D.nil = D.int ((nv b / B ^ k % B : Nat) : Int) := by rw [getD_map (List.getElem?_eq_getElem (show k < (lb (nv b)).length by omega)), ← g2]; rfl
        simp only [nat_Cmp_l7_succ, show ((k + 1 : Nat) : Int) - 1 = (k : Int) by omega, dA_0, dA_1, dA_2, dC_0, dC_1, dC_2, dC_3, dC_4, dN_0, dN_1, dN_2, els_sl, els_dI, els_dL, List.length_map, Int.toNat_natCast, toInt_int, toInt_dB, toBool_bool, getD_c0, getD_c1, int_beq, int_bne, not_dec, dInt_dB, Int.toNat_zero, ga, gb]
        have ea := Nat.div_add_mod (nv a / B ^ k) B
        have eb := Nat.div_add_mod (nv b / B ^ k) B
        rw [Nat.div_div_eq_div_mul, ← Nat.pow_succ] at ea eb
        rw [h] at ea
        generalize B * (nv b / B ^ (k + 1)) = q at ea eb
        refine wp_dec (by omega) (wp_dec (by omega) (wp_dec (by omega) (wp_dec (by omega) (wp_dec (by omega) (wp_decs (fun h' => wp_ret ?_) (fun h' => wp_dec (by omega) (wp_dec (by omega) (wp_dec (by omega) (wp_dec (by omega) (wp_decs (fun h2 => wp_ret ?_) (fun h2 => ?_)))))))))))
        · have hlt := lt_of_div (show nv a / B ^ k < nv b / B ^ k by omega)
          simp only [cmpN]; rw [if_pos hlt]
        · have hlt := lt_of_div (show nv b / B ^ k < nv a / B ^ k by omega)
          simp only [cmpN]; rw [if_neg (by omega), if_neg (by omega)]
        · rw [wrap64 (by omega) (by omega)]
          exact ih () ⟨by omega, by omega⟩)
      (a.length + 1) (lb (nv a)).length () (by omega) ⟨by omega, by
        rw [Nat.div_eq_of_lt (lb_len.1 (Nat.le_refl _)), Nat.div_eq_of_lt (lb_len.1 (by omega))]⟩
    rw [wrap64 (by omega) (by omega)]
    exact key
theorem nat_Add_loop (x y N : Nat) (hA : (lb x).length ≤ 100000) (hb : (lb y).length ≤ (lb x).length) (hN : (lb x).length < N) : Tw (nat_Add_l8 N N (dL (lb y)) ((lb x).map dB) 0 ((lb x).length : Int) 0) [dL (lb (x + y))] := by
  have hx : x < B ^ (lb x).length := lb_len.1 (Nat.le_refl _)
  have hy : y < B ^ (lb x).length := lb_len.1 hb
  have key := loop_up (P := Tryz.prog) (md := md) (lb x).length (fun m k (s : List Limb × Nat) => nat_Add_l8 N m (dL (lb y)) ((s.1 ++ (lb x).drop k).map dB) (s.2 : Int) ((lb x).length : Int) (k : Int)) (fun _ _ => [dL (lb (x + y))])
    (fun k s => s.1.length = k ∧ nv s.1 = (x + y) % B ^ k ∧ s.2 = (x % B ^ k + y % B ^ k) / B ^ k)
    (fun m s ⟨h1, h2, h3⟩ => by
      simp only [nat_Add_l8_succ, List.drop_length, List.append_nil, dA_0, dA_1, dA_2, dC_0, dC_1, dC_2, dC_3, dC_4, dN_0, dN_1, dN_2, els_sl, els_dI, els_dL, List.length_map, Int.toNat_natCast, toInt_int, toInt_dB, toBool_bool, getD_c0, getD_c1, int_beq, int_bne, not_dec, dInt_dB, Int.toNat_zero]
      rw [Nat.mod_eq_of_lt hx, Nat.mod_eq_of_lt hy] at h3
      have hs : x + y = nv s.1 + B ^ (lb x).length * s.2 := by rw [h2, h3]; exact (Nat.mod_add_div _ _).symm
      have hc : s.2 ≤ 1 := by
        have : s.2 < 2 := by rw [h3, Nat.div_lt_iff_lt_mul (Bp _)]; omega
        omega
      refine wp_ndec (by omega) (wp_decs (fun h0 => wp_dec (by simp only [List.length_cons, List.length_nil, bigN]; omega) (wp_ret ?_)) (fun h0 => wp_ret ?_))
      · have e1 : s.2 = 1 := by omega
        rw [hs, e1]
        have e2 : nv (s.1 ++ [1]) = nv s.1 + B ^ (lb x).length * 1 := by rw [nv_snoc, h1]; rfl
        rw [← e2, lb_of (r := s.1 ++ [1]) (fun k hk => by
          rw [e2]
          have : k = (lb x).length := by simp at hk; omega
          rw [this]; omega)]
        simp [dL, dB]
      · have e1 : s.2 = 0 := by omega
        rw [e1, Nat.mul_zero, Nat.add_zero] at hs
        rw [hs, lb_of (r := s.1) (fun k hk => by rw [← hs]; have := can_len (x := x) (k := k) (by omega); omega)]; rfl)
    (fun m k s hk ⟨h1, h2, h3⟩ ih => by
      have hd := add_digit x y k
      have hc := add_carry x y k
      have la := Nat.mod_lt (x / B ^ k) B_pos
      have lb' := Nat.mod_lt (y / B ^ k) B_pos
      have lc : s.2 ≤ 1 := by
        rw [h3]
        have r1 := Nat.mod_lt x (Bp k)
        have r2 := Nat.mod_lt y (Bp k)
        have : (x % B ^ k + y % B ^ k) / B ^ k < 2 := by rw [Nat.div_lt_iff_lt_mul (Bp k)]; omega
        omega
      have hlen : (s.1 ++ (lb x).drop k).length = (lb x).length := by simp [h1]; omega
      have gx := nv_limb (lb x) k hk
      rw [nv_lb] at gx
      have hget : ((s.1 ++ (lb x).drop k).map dB).getD k D.nil = D.int ((x / B ^ k % B : Nat) : Int) := by rw [getD_map (pre_get h1 hk), ← gx]; rfl
      have hm := Nat.mod_lt (x / B ^ k % B + y / B ^ k % B + s.2) B_pos
      have hset : ((s.1 ++ (lb x).drop k).map dB).set k (D.int (((x / B ^ k % B + y / B ^ k % B + s.2) % B : Nat) : Int)) = ((s.1 ++ [BitVec.ofNat 32 ((x / B ^ k % B + y / B ^ k % B + s.2) % B)]) ++ (lb x).drop (k + 1)).map dB := by
        rw [dB_ofNat hm, map_set, pre_set _ h1 hk]
      have go := ih (s.1 ++ [BitVec.ofNat 32 ((x / B ^ k % B + y / B ^ k % B + s.2) % B)], (x / B ^ k % B + y / B ^ k % B + s.2) / B) ⟨by simp [h1], nv_step h1 h2 (by rw [ofNat_lt hm, hd, h3]), by rw [hc, h3]⟩
      simp only [nat_Add_l8_succ, dA_0, dA_1, dA_2, dC_0, dC_1, dC_2, dC_3, dC_4, dN_0, dN_1, dN_2, els_sl, els_dI, els_dL, List.length_map, Int.toNat_natCast, toInt_int, toInt_dB, toBool_bool, getD_c0, getD_c1, int_beq, int_bne, not_dec, dInt_dB, Int.toNat_zero, hget, hlen, wrap_succ (show k < 9223372036854775807 by omega)]
      refine wp_dec (by omega) (wp_decs (fun hb' => ?_) (fun hb' => ?_))
      · have gy := nv_limb (lb y) k (by omega)
        rw [nv_lb] at gy
        rw [getD_map (List.getElem?_eq_getElem (show k < (lb y).length by omega)), toInt_dB, gy]
        refine wp_dec (by omega) (wp_dec (by omega) (wp_dec (by omega) (wp_dec (by omega) (wp_call (bits_Add32_sp _ _ s.2 la lb' lc) (wp_dec (by omega) (wp_dec (by omega) ?_))))))
        simp only [getD_c0, getD_c1, toInt_int, hset]
        exact go
      · have gy := nv_limb' (lb y) k (by omega)
        rw [nv_lb] at gy
        refine wp_decs (fun h0 => wp_ndec (by omega) (wp_ret ?_)) (fun h0 => ?_)
        · have e0 : s.2 = 0 := by omega
          rw [e0] at h3
          have hyk : y < B ^ k := lb_len.1 (by omega)
          rw [Nat.mod_eq_of_lt hyk] at h3
          have hsum : x % B ^ k + y < B ^ k := by
            rcases Nat.lt_or_ge (x % B ^ k + y) (B ^ k) with h | h
            · exact h
            · have := Nat.div_pos h (Bp k); omega
          have e1 : nv s.1 = x % B ^ k + y := by rw [h2, Nat.add_mod, Nat.mod_eq_of_lt hyk, Nat.mod_eq_of_lt hsum]
          have hs : nv (s.1 ++ (lb x).drop k) = x + y := by
            rw [nv_append, h1, nv_drop, nv_lb, e1]
            have := Nat.mod_add_div x (B ^ k)
            omega
          rw [← hs, lb_of (fun j hj => by rw [hs]; have := can_len (x := x) (k := j) (by omega); omega)]; rfl
        · rw [gy] at hset go lb'
          refine wp_dec (by omega) (wp_dec (by omega) (wp_call (bits_Add32_sp _ 0 s.2 la B_pos lc) (wp_dec (by omega) (wp_dec (by omega) ?_))))
          simp only [getD_c0, getD_c1, toInt_int, hset]
          exact go)
    N 0 ([], 0) (by omega) (by omega) ⟨rfl, by simp [Nat.mod_one], by simp [Nat.mod_one]⟩
  exact key
theorem copy_all (l : List D) : l.take (List.replicate l.length (D.int 0)).length ++ (List.replicate l.length (D.int 0)).drop l.length = l := by simp
theorem nat_Add_sp (a b : List Limb) (ha : a.length ≤ 100000) (hb : b.length ≤ 100000) : Sp 148 [dL a, dL b] [dL (lb (nv a + nv b))] := by
  refine sound_ 100001 (nat_Add_tree _ _ _) (wp_call (nat_trim_sp a (by omega)) (wp_call (nat_trim_sp b (by omega)) ?_))
  have la : (lb (nv a)).length ≤ a.length := lb_len.2 (nv_lt a)
  have lb_ : (lb (nv b)).length ≤ b.length := lb_len.2 (nv_lt b)
  have c1 := copy_all ((lb (nv a)).map dB)
  have c2 := copy_all ((lb (nv b)).map dB)
  simp only [List.length_map] at c1 c2
  simp only [getD_c0, els_dL, List.length_map, Int.toNat_natCast, c1, c2]
  refine wp_decs (fun h => ?_) (fun h => ?_)
  · rw [wrap64 (by omega) (by omega)]
    refine wp_dec (by omega) (wp_dec (by omega) (wp_dec (by simp only [bigN]; omega) ?_))
    rw [Nat.add_comm (nv a)]
    exact nat_Add_loop (nv b) (nv a) 100001 (by omega) (by omega) (by omega)
  · rw [wrap64 (by omega) (by omega)]
    refine wp_dec (by omega) (wp_dec (by omega) (wp_dec (by simp only [bigN]; omega) ?_))
    exact nat_Add_loop (nv a) (nv b) 100001 (by omega) (by omega) (by omega)
theorem nat_Sub_sp (a b : List Limb) (ha : a.length ≤ 100000) (hb : b.length ≤ 100000) : Sp 149 [dL a, dL b] [dL (lb (nv a - nv b)), .bool (decide (nv b ≤ nv a))] := by
  refine sound_ 100001 (nat_Sub_tree _ _ _) (wp_call (nat_Cmp_sp a b (by omega) (by omega)) ?_)
  simp only [getD_c0, toInt_int]
  refine wp_decs (fun h => wp_ret ?_) (fun h => wp_call (nat_Norm_sp a (by omega)) (wp_call (nat_trim_sp b (by omega)) ?_))
  · have hlt : nv a < nv b := by
      unfold cmpN at h
      rcases Nat.lt_or_ge (nv a) (nv b) with h1 | h1
      · exact h1
      · rw [if_neg (by omega)] at h; split at h <;> omega
    rw [Nat.sub_eq_zero_of_le (by omega), lb_zero, decide_eq_false (by omega)]; rfl
  have hge : nv b ≤ nv a := by
    unfold cmpN at h
    rcases Nat.lt_or_ge (nv a) (nv b) with h1 | h1
    · rw [if_pos h1] at h; omega
    · exact h1
  rw [decide_eq_true hge]
  have la : (lb (nv a)).length ≤ a.length := lb_len.2 (nv_lt a)
  have lb_ : (lb (nv b)).length ≤ (lb (nv a)).length := lb_len.2 (by have := lb_len.1 (Nat.le_refl (lb (nv a)).length); omega)
  simp only [getD_c0, els_dL, List.length_map]
  generalize nv a = x at *
  generalize nv b = y at *
  have hx : x < B ^ (lb x).length := lb_len.1 (Nat.le_refl _)
  have fin : ∀ l : List Limb, l.length ≤ 100000 → nv l = x - y → Tw (.call 150 [] [D.sl (l.map dB)] fun yy5 => .ret [yy5.getD 0 D.nil, D.bool true]) [dL (lb (x - y)), .bool true] := fun l hl he => wp_call (nat_trim_sp l (by omega)) (wp_ret (by rw [he]; rfl))
  have key := loop_up (P := Tryz.prog) (md := md) (lb x).length (fun m k (s : List Limb × Nat) => nat_Sub_l6 100001 m (dL (lb y)) ((s.1 ++ (lb x).drop k).map dB) (s.2 : Int) ((lb x).length : Int) (k : Int)) (fun _ _ => [dL (lb (x - y)), .bool true])
    (fun k s => s.1.length = k ∧ nv s.1 = (x - y) % B ^ k ∧ s.2 = ((x - y) % B ^ k + y % B ^ k) / B ^ k)
    (fun m s ⟨h1, h2, h3⟩ => by
      simp only [nat_Sub_l6_succ, List.drop_length, List.append_nil, dA_0, dA_1, dA_2, dC_0, dC_1, dC_2, dC_3, dC_4, dN_0, dN_1, dN_2, els_sl, els_dI, els_dL, List.length_map, Int.toNat_natCast, toInt_int, toInt_dB, toBool_bool, getD_c0, getD_c1, int_beq, int_bne, not_dec, dInt_dB, Int.toNat_zero]
      refine wp_ndec (by omega) (fin s.1 (by omega) ?_)
      rw [h2, Nat.mod_eq_of_lt (by omega)])
    (fun m k s hk ⟨h1, h2, h3⟩ ih => by
      obtain ⟨zi, c, c', e1, e2, e3, e4, e5⟩ := sub_digit hge k
      have la := Nat.mod_lt (x / B ^ k) B_pos
      have lb' := Nat.mod_lt (y / B ^ k) B_pos
      have lz := Nat.mod_lt ((x - y) / B ^ k) B_pos
      rw [← e1] at lz
      rw [← e2] at h3
      have lc : c ≤ 1 := by
        rw [e2]
        have r1 := Nat.mod_lt (x - y) (Bp k)
        have r2 := Nat.mod_lt y (Bp k)
        have : ((x - y) % B ^ k + y % B ^ k) / B ^ k < 2 := by rw [Nat.div_lt_iff_lt_mul (Bp k)]; omega
        omega
      have hlen : (s.1 ++ (lb x).drop k).length = (lb x).length := by simp [h1]; omega
      have gx := nv_limb (lb x) k hk
      rw [nv_lb] at gx
      have hget : ((s.1 ++ (lb x).drop k).map dB).getD k D.nil = D.int ((x / B ^ k % B : Nat) : Int) := by rw [getD_map (pre_get h1 hk), ← gx]; rfl
      have hset : ((s.1 ++ (lb x).drop k).map dB).set k (D.int (zi : Int)) = ((s.1 ++ [BitVec.ofNat 32 zi]) ++ (lb x).drop (k + 1)).map dB := by
        rw [dB_ofNat lz, map_set, pre_set _ h1 hk]
      have go := ih (s.1 ++ [BitVec.ofNat 32 zi], c') ⟨by simp [h1], nv_step h1 h2 (by rw [ofNat_lt lz, e1]), e3⟩
      simp only [nat_Sub_l6_succ, dA_0, dA_1, dA_2, dC_0, dC_1, dC_2, dC_3, dC_4, dN_0, dN_1, dN_2, els_sl, els_dI, els_dL, List.length_map, Int.toNat_natCast, toInt_int, toInt_dB, toBool_bool, getD_c0, getD_c1, int_beq, int_bne, not_dec, dInt_dB, Int.toNat_zero, hget, hlen, wrap_succ (show k < 9223372036854775807 by omega), h3]
      refine wp_dec (by omega) (wp_decs (fun hb' => ?_) (fun hb' => ?_))
      · have gy := nv_limb (lb y) k (by omega)
        rw [nv_lb] at gy
        rw [getD_map (List.getElem?_eq_getElem (show k < (lb y).length by omega)), toInt_dB, gy]
        refine wp_dec (by omega) (wp_dec (by omega) (wp_dec (by omega) (wp_dec (by omega) (wp_call (bits_Sub32_sp _ _ c la lb' lc zi c' lz e4 e5) (wp_dec (by omega) (wp_dec (by omega) ?_))))))
        simp only [getD_c0, getD_c1, toInt_int, hset]
        exact go
      · have gy := nv_limb' (lb y) k (by omega)
        rw [nv_lb] at gy
        refine wp_decs (fun h0 => ?_) (fun h0 => ?_)
        · have e0 : c = 0 := by omega
          rw [e0] at e2
          have hyk : y < B ^ k := lb_len.1 (by omega)
          rw [Nat.mod_eq_of_lt hyk] at e2
          have hsum : (x - y) % B ^ k + y < B ^ k := by
            rcases Nat.lt_or_ge ((x - y) % B ^ k + y) (B ^ k) with h | h
            · exact h
            · have := Nat.div_pos h (Bp k); omega
          have q1 := Nat.mod_add_div (x - y) (B ^ k)
          have q2 : x = ((x - y) % B ^ k + y) + B ^ k * ((x - y) / B ^ k) := by omega
          have q3 : x / B ^ k = (x - y) / B ^ k := by
            have : x / B ^ k = (((x - y) % B ^ k + y) + B ^ k * ((x - y) / B ^ k)) / B ^ k := by rw [← q2]
            rw [this, Nat.add_mul_div_left _ _ (Bp k), Nat.div_eq_of_lt hsum, Nat.zero_add]
          refine fin _ (by rw [hlen]; omega) ?_
          rw [nv_append, h1, nv_drop, nv_lb, h2, q3]; exact q1
        · rw [gy] at e5
          refine wp_dec (by omega) (wp_dec (by omega) (wp_call (bits_Sub32_sp _ 0 c la B_pos lc zi c' lz e4 e5) (wp_dec (by omega) (wp_dec (by omega) ?_))))
          simp only [getD_c0, getD_c1, toInt_int, hset]
          exact go)
    100001 0 ([], 0) (by omega) (by omega) ⟨rfl, by simp [Nat.mod_one], by simp [Nat.mod_one]⟩
  exact key
end Go.Proofs.YtjmddikeadbmjaaGreat
set_option maxRecDepth 100000
namespace Go.Proofs.YtjmddikeadbmjaaGreat

theorem mul_bound {x y o c : Nat} (hx : x < B) (hy : y < B) (ho : o < B) (hc : c < B) : x * y + o + c < 18446744073709551616 ∧ x * y < 18446744073709551616 ∧ x * y + o < 18446744073709551616 := by
  have h1 : x * y ≤ (B - 1) * (B - 1) := Nat.mul_le_mul (by omega) (by omega)
  rw [B_eq] at *
  omega
theorem nat_Mul_sp (a b : List Limb) (ha : a.length ≤ 100000) (hb : b.length ≤ 100000) : Sp 144 [dL a, dL b] [dL (lb (nv a * nv b))] := by
  refine sound_ 100001 (nat_Mul_tree _ _ _) (wp_call (nat_trim_sp a (by omega)) (wp_call (nat_trim_sp b (by omega)) ?_))
  have la : (lb (nv a)).length ≤ a.length := lb_len.2 (nv_lt a)
  have lb_ : (lb (nv b)).length ≤ b.length := lb_len.2 (nv_lt b)
  simp only [getD_c0, els_dL, List.length_map, int_beq]
  generalize nv a = x at *
  generalize nv b = y at *
  refine wp_decs (fun h => wp_ret ?_) (fun h => wp_decs (fun h' => wp_ret ?_) (fun h' => ?_))
  · have : x = 0 := lb_len0.1 (by omega)
    rw [this, Nat.zero_mul, lb_zero]; rfl
  · have : y = 0 := lb_len0.1 (by omega)
    rw [this, Nat.mul_zero, lb_zero]; rfl
  have hm : (lb y).length = (lb y).length := rfl
  generalize hmm : (lb y).length = mm at *
  rw [wrap64 (by omega) (by omega)]
  refine wp_dec (by omega) (wp_dec (by omega) (wp_dec (by simp only [bigN]; omega) ?_))
  have hyB : y < B ^ mm := lb_len.1 (by omega)
  have hxB : x < B ^ (lb x).length := lb_len.1 (Nat.le_refl _)
  rw [show ((lb x).length : Int) + (mm : Int) = (((lb x).length + mm : Nat) : Int) by omega, Int.toNat_natCast]
  have key := loop_up (P := Tryz.prog) (md := md) (lb x).length (fun m i (lo : List Limb) => nat_Mul_l6 100001 m (dL (lb y)) ((lo ++ List.replicate ((lb x).length - i) 0).map dB) (dL (lb x)) ((lb x).length : Int) (i : Int)) (fun _ _ => [dL (lb (x * y))])
    (fun i lo => lo.length = i + mm ∧ nv lo = (x % B ^ i) * y)
    (fun m lo ⟨h1, h2⟩ => by
      simp only [nat_Mul_l6_succ, Nat.sub_self, List.replicate_zero, List.append_nil, dA_0, dA_1, dA_2, dC_0, dC_1, dC_2, dC_3, dC_4, dN_0, dN_1, dN_2, els_sl, els_dI, els_dL, List.length_map, Int.toNat_natCast, toInt_int, toInt_dB, toBool_bool, getD_c0, getD_c1, int_beq, int_bne, not_dec, dInt_dB, Int.toNat_zero]
      refine wp_ndec (by omega) (wp_call (nat_trim_sp lo (by omega)) (wp_ret ?_))
      rw [h2, Nat.mod_eq_of_lt hxB]; rfl)
    (fun m i lo hi ⟨h1, h2⟩ ih => by
      have gx := nv_limb (lb x) i hi
      rw [nv_lb] at gx
      have xl : x / B ^ i % B < B := Nat.mod_lt _ B_pos
      have gX : ((lb x).map dB).getD i D.nil = D.int ((x / B ^ i % B : Nat) : Int) := by rw [getD_map (List.getElem?_eq_getElem hi), ← gx]; rfl
      simp only [nat_Mul_l6_succ, dA_0, dA_1, dA_2, dC_0, dC_1, dC_2, dC_3, dC_4, dN_0, dN_1, dN_2, els_sl, els_dI, els_dL, List.length_map, Int.toNat_natCast, toInt_int, toInt_dB, toBool_bool, getD_c0, getD_c1, int_beq, int_bne, not_dec, dInt_dB, Int.toNat_zero, gX, hmm]
      refine wp_dec (by omega) (wp_dec (by omega) (wp_dec (by omega) ?_))
      have hxs : x % B ^ (i + 1) = x % B ^ i + B ^ i * (x / B ^ i % B) := Nat.mod_pow_succ
      generalize x / B ^ i % B = xi at *
      have key := loop_up (P := Tryz.prog) (md := md) mm (fun m' j (s : List Limb × Nat) => nat_Mul_l10 100001 m m' (dL (lb y)) ((s.1 ++ List.replicate ((lb x).length - i) 0).map dB) (i : Int) (xi : Int) (s.2 : Int) (dL (lb x)) ((lb x).length : Int) (i : Int) (dL (lb y)) (mm : Int) (j : Int)) (fun _ _ => [dL (lb (x * y))])
        (fun j s => s.1.length = i + mm ∧ s.2 < B ∧ nv s.1 + B ^ (i + j) * s.2 = nv lo + B ^ i * (xi * (y % B ^ j)))
        (fun m' s ⟨g1, g2, g3⟩ => by
          have ew : IntKind.wrap .i64 ((i : Int) + (mm : Int)) = ((i + mm : Nat) : Int) := by rw [wrap64 (by omega) (by omega)]; omega
          have hB := B_eq
          have ec : IntKind.wrap .u32 (s.2 : Int) = (s.2 : Int) := wrapU32 (by omega) (by omega)
          have hlen : (s.1 ++ List.replicate ((lb x).length - i) (0 : Limb)).length = (lb x).length + mm := by simp [g1]; omega
          simp only [nat_Mul_l10_succ, dA_0, dA_1, dA_2, dC_0, dC_1, dC_2, dC_3, dC_4, dN_0, dN_1, dN_2, els_sl, els_dI, els_dL, List.length_map, Int.toNat_natCast, toInt_int, toInt_dB, toBool_bool, getD_c0, getD_c1, int_beq, int_bne, not_dec, dInt_dB, Int.toNat_zero, hmm, ew, ec, hlen, wrap_succ (show i < 9223372036854775807 by omega)]
          refine wp_ndec (by omega) (wp_dec (by omega) (wp_dec (by omega) ?_))
          have hset : ((s.1 ++ List.replicate ((lb x).length - i) 0).map dB).set (i + mm) (D.int (s.2 : Int)) = ((s.1 ++ [BitVec.ofNat 32 s.2]) ++ List.replicate ((lb x).length - (i + 1)) 0).map dB := by
            rw [dB_ofNat g2, map_set, List.set_append_right _ _ (by omega), g1, Nat.sub_self, show (lb x).length - i = ((lb x).length - (i + 1)) + 1 by omega, List.replicate_succ, List.set_cons_zero]; simp
          rw [hset]
          refine ih _ ⟨by simp [g1]; omega, ?_⟩
          rw [nv_snoc, g1, ofNat_lt g2, g3, h2, Nat.mod_eq_of_lt hyB, hxs, Nat.add_mul, Nat.mul_assoc])
        (fun m' j s hj ⟨g1, g2, g3⟩ ih' => by
          have gy := nv_limb (lb y) j (by omega)
          rw [nv_lb] at gy
          have yl : y / B ^ j % B < B := Nat.mod_lt _ B_pos
          have gY : ((lb y).map dB).getD j D.nil = D.int ((y / B ^ j % B : Nat) : Int) := by rw [getD_map (List.getElem?_eq_getElem (by omega)), ← gy]; rfl
          have hys : y % B ^ (j + 1) = y % B ^ j + B ^ j * (y / B ^ j % B) := Nat.mod_pow_succ
          have hij : i + j < s.1.length := by omega
          have ew : IntKind.wrap .i64 ((i : Int) + (j : Int)) = ((i + j : Nat) : Int) := by rw [wrap64 (by omega) (by omega)]; omega
          have hlen : (s.1 ++ List.replicate ((lb x).length - i) (0 : Limb)).length = (lb x).length + mm := by simp [g1]; omega
          have gO : ((s.1 ++ List.replicate ((lb x).length - i) 0).map dB).getD (i + j) D.nil = D.int ((s.1[i + j]).toNat : Int) := by rw [getD_map (x := s.1[i + j]) (by rw [List.getElem?_append_left hij, List.getElem?_eq_getElem hij])]; rfl
          simp only [nat_Mul_l10_succ, dA_0, dA_1, dA_2, dC_0, dC_1, dC_2, dC_3, dC_4, dN_0, dN_1, dN_2, els_sl, els_dI, els_dL, List.length_map, Int.toNat_natCast, toInt_int, toInt_dB, toBool_bool, getD_c0, getD_c1, int_beq, int_bne, not_dec, dInt_dB, Int.toNat_zero, ew, gO, gY, hlen, wrap_succ (show j < 9223372036854775807 by omega)]
          generalize y / B ^ j % B = yj at *
          have ol := limb_lt (s.1[i + j])
          have hns := nv_set s.1 (i + j) hij (BitVec.ofNat 32 ((xi * yj + (s.1[i + j]).toNat + s.2) % B))
          have hmd := Nat.mod_lt (xi * yj + (s.1[i + j]).toNat + s.2) B_pos
          rw [ofNat_lt hmd] at hns
          generalize hoo : (s.1[i + j]).toNat = o at *
          have hbd := mul_bound xl yl ol g2
          have hB := B_eq
          have t0 : IntKind.wrap .u64 (xi : Int) = (xi : Int) := wrapU64 (by omega) (by omega)
          have t0' : IntKind.wrap .u64 (yj : Int) = (yj : Int) := wrapU64 (by omega) (by omega)
          have t0'' : IntKind.wrap .u64 (o : Int) = (o : Int) := wrapU64 (by omega) (by omega)
          have t1 : IntKind.wrap .u64 ((xi : Int) * (yj : Int)) = ((xi * yj : Nat) : Int) := by rw [← Int.natCast_mul]; exact wrapU64 (by omega) (by omega)
          have t2 : IntKind.wrap .u64 (((xi * yj : Nat) : Int) + (o : Int)) = ((xi * yj + o : Nat) : Int) := by rw [wrapU64 (by omega) (by omega)]; omega
          have t3 : IntKind.wrap .u64 (((xi * yj + o : Nat) : Int) + (s.2 : Int)) = ((xi * yj + o + s.2 : Nat) : Int) := by rw [wrapU64 (by omega) (by omega)]; omega
          simp only [t0, t0', t0'', t1, t2, t3, fdiv32]
          have t4 : IntKind.wrap .u32 ((xi * yj + o + s.2 : Nat) : Int) = (((xi * yj + o + s.2) % B : Nat) : Int) := by rw [IntKind.wrap_u32, B_eq]; omega
          have hset : ((s.1 ++ List.replicate ((lb x).length - i) 0).map dB).set (i + j) (D.int (((xi * yj + o + s.2) % B : Nat) : Int)) = ((s.1.set (i + j) (BitVec.ofNat 32 ((xi * yj + o + s.2) % B))) ++ List.replicate ((lb x).length - i) 0).map dB := by
            rw [dB_ofNat hmd, map_set, List.set_append_left _ _ hij]
          rw [t4, hset]
          refine wp_dec (by omega) (wp_dec (by omega) (wp_dec (by omega) (wp_dec (by omega) (wp_dec (by omega) (wp_dec (by omega) (wp_dec (by omega) (wp_tt (by decide) ?_)))))))
          have hcl : (xi * yj + o + s.2) / 4294967296 < B := by rw [B_eq]; omega
          refine ih' (s.1.set (i + j) (BitVec.ofNat 32 ((xi * yj + o + s.2) % B)), (xi * yj + o + s.2) / 4294967296) ⟨by simp [g1], hcl, ?_⟩
          show nv (s.1.set (i + j) _) + B ^ (i + (j + 1)) * ((xi * yj + o + s.2) / B) = _
          have q1 : B ^ (i + (j + 1)) * ((xi * yj + o + s.2) / B) = B ^ (i + j) * (B * ((xi * yj + o + s.2) / B)) := by rw [← Nat.add_assoc, Nat.pow_succ, Nat.mul_assoc]
          have q2 : B ^ (i + j) * ((xi * yj + o + s.2) % B) + B ^ (i + j) * (B * ((xi * yj + o + s.2) / B)) = B ^ (i + j) * (xi * yj + o + s.2) := by rw [← Nat.mul_add, Nat.mod_add_div]
          have q3 : B ^ (i + j) * (xi * yj + o + s.2) = B ^ (i + j) * (xi * yj) + B ^ (i + j) * o + B ^ (i + j) * s.2 := by rw [Nat.mul_add, Nat.mul_add]
          have q4 : B ^ i * (xi * (y % B ^ (j + 1))) = B ^ i * (xi * (y % B ^ j)) + B ^ (i + j) * (xi * yj) := by
            rw [hys, Nat.mul_add, Nat.mul_add, Nat.pow_add, Nat.mul_left_comm xi, Nat.mul_assoc]
          rw [q1, q4]
          omega)
        100001 0 (lo, 0) (by omega) (by omega) ⟨h1, B_pos, by simp [Nat.mod_one]⟩
      exact key)
    100001 0 (List.replicate mm 0) (by omega) (by omega) ⟨by simp, by rw [nv_zeros]; simp [Nat.mod_one]⟩
  have e0 : (List.replicate mm (0 : Limb) ++ List.replicate ((lb x).length - 0) 0).map dB = List.replicate ((lb x).length + mm) (D.int 0) := by
    rw [List.replicate_append_replicate, List.map_replicate, show mm + ((lb x).length - 0) = (lb x).length + mm by omega]; rfl
  rw [e0] at key
  exact key
theorem lb_two (z : Nat) : (lb (2 * z)).length ≤ (lb z).length + 1 := by
  refine lb_len.2 ?_
  have h : z < B ^ (lb z).length := lb_len.1 (Nat.le_refl _)
  rw [Nat.pow_succ]
  generalize B ^ (lb z).length = q at *
  rw [B_eq]; omega
theorem ref02_Mul_sp (a b : List Limb) (ha : a.length ≤ 10000) (hb : b.length ≤ 10000) : Sp 147 [dL a, dL b] [dL (lb (nv a * nv b))] := by
  refine sound_ (32 * a.length + 1) (ref02_Mul_tree _ _ _) ?_
  simp only [dA_0, dA_1, dA_2, dC_0, dC_1, dC_2, dC_3, dC_4, dN_0, dN_1, dN_2, els_sl, els_dI, els_dL, List.length_map, Int.toNat_natCast, toInt_int, toInt_dB, toBool_bool, getD_c0, getD_c1, int_beq, int_bne, not_dec, dInt_dB, Int.toNat_zero]
  have key := loop_down (P := Tryz.prog) (md := md) (fun m k (out : Nat) => ref02_Mul_l3 (32 * a.length + 1) m (dL a) (dL b) (dL (lb out)) ((k : Int) - 1)) (fun _ _ => [dL (lb (nv a * nv b))]) (fun k out => k ≤ 32 * a.length ∧ out = nv a / 2 ^ k * nv b)
    (fun m out ⟨_, h⟩ => by
      simp only [ref02_Mul_l3_succ]
      refine wp_ndec (by omega) (wp_ret ?_)
      simp at h; rw [h])
    (fun m k out ⟨h0, h⟩ ih => by
      simp only [ref02_Mul_l3_succ, show ((k + 1 : Nat) : Int) - 1 = (k : Int) by omega]
      have hl1 : (lb out).length ≤ a.length + b.length := by
        rw [h]
        refine lb_len.2 ?_
        have h1 : nv a / 2 ^ (k + 1) * nv b ≤ nv a * nv b := Nat.mul_le_mul_right _ (Nat.div_le_self _ _)
        have h2 : nv a * nv b < B ^ a.length * B ^ b.length := Nat.mul_lt_mul'' (nv_lt a) (nv_lt b)
        rw [← Nat.pow_add] at h2
        exact Nat.lt_of_le_of_lt h1 h2
      have hbit : nv a / 2 ^ k = 2 * (nv a / 2 ^ (k + 1)) + nv a / 2 ^ k % 2 := by
        have := Nat.div_add_mod (nv a / 2 ^ k) 2
        rw [Nat.div_div_eq_div_mul, ← Nat.pow_succ] at this
        exact this.symm
      have tw := ref02_twice_sp (lb out) 0 (by omega) (by omega)
      rw [nv_lb, Nat.add_zero] at tw
      refine wp_dec (by omega) (wp_call tw (wp_call (ref02_Bit_sp a k (by omega)) ?_))
      simp only [getD_c0, toInt_int]
      rw [wrap64 (by omega) (by omega)]
      refine wp_decs (fun h1 => ?_) (fun h1 => ?_)
      · have ad := ref02_Add_sp (lb (2 * out)) b (by have := lb_two out; omega) (by omega)
        rw [nv_lb] at ad
        refine wp_call ad ?_
        refine ih (2 * out + nv b) ⟨by omega, ?_⟩
        rw [hbit, show nv a / 2 ^ k % 2 = 1 by omega, Nat.add_mul, Nat.one_mul, Nat.mul_assoc, ← h]
      · refine ih (2 * out) ⟨by omega, ?_⟩
        have h2 := Nat.mod_lt (nv a / 2 ^ k) (show 0 < 2 by decide)
        rw [hbit, show nv a / 2 ^ k % 2 = 0 by omega, Nat.add_zero, Nat.mul_assoc, ← h])
    (32 * a.length + 1) (32 * a.length) 0 (by omega) ⟨by omega, by
      rw [Nat.div_eq_of_lt (by rw [← B_two]; exact nv_lt a), Nat.zero_mul]⟩
  rw [lb_zero] at key
  have e1 : IntKind.wrap .i64 (IntKind.wrap .i64 (32 * (a.length : Int)) - 1) = ((32 * a.length : Nat) : Int) - 1 := by rw [wrap64 (x := 32 * (a.length : Int)) (by omega) (by omega), wrap64 (by omega) (by omega)]; omega
  rw [e1]
  exact key
theorem or_limb' {r d : Nat} (hr : r < 4294967296) (hd : d < 4294967296) : bits_ .or .u64 ((r * 4294967296 : Nat) : Int) (d : Int) = ((r * 4294967296 + d : Nat) : Int) := by
  have h := or_limb hd hr
  have hc : bits_ .or .u64 ((r * 4294967296 : Nat) : Int) (d : Int) = bits_ .or .u64 (d : Int) ((r * 4294967296 : Nat) : Int) := by unfold bits_; simp only; rw [BitVec.or_comm]
  rw [hc, h, Nat.add_comm]
theorem nat_shorten_ex (l : List Limb) (y : Nat) (hy : 0 < y) (hyB : y < B) (hl : l.length ≤ 1000000) : ∃ q : List Limb, q.length = l.length ∧ nv q = nv l / y ∧ Sp 156 [.sl (l.map dB), .int (y : Int)] [.int ((nv l % y : Nat) : Int), .sl (q.map dB)] := by
  have hq : ∃ q : List Limb, q.length = l.length ∧ nv q = nv l / y := by
    have h1 : nv l / y < B ^ l.length := Nat.lt_of_le_of_lt (Nat.div_le_self _ _) (nv_lt l)
    have h2 := lb_len.2 h1
    refine ⟨lb (nv l / y) ++ List.replicate (l.length - (lb (nv l / y)).length) 0, by simp; omega, ?_⟩
    rw [nv_append, nv_zeros, nv_lb]; simp
  obtain ⟨q0, hq1, hq2⟩ := hq
  refine ⟨q0, hq1, hq2, sound_ (l.length + 1) (nat_shorten_tree _ _ _) ?_⟩
  simp only [els_sl, toInt_int, List.length_map]
  have uniq : ∀ q : List Limb, q.length = l.length → nv q = nv l / y → q = q0 := by
    intro q h1 h2
    apply List.ext_getElem (by omega)
    intro i g1 g2
    apply BitVec.eq_of_toNat_eq
    rw [nv_limb q i g1, nv_limb q0 i g2, h2, hq2]
  have key := loop_down (P := Tryz.prog) (md := md) (fun m k (s : List Limb × Nat) => nat_shorten_l3 (l.length + 1) m ((l.take k ++ s.1).map dB) (y : Int) (s.2 : Int) ((k : Int) - 1)) (fun _ _ => [.int ((nv l % y : Nat) : Int), .sl (q0.map dB)])
    (fun k s => k ≤ l.length ∧ s.1.length = l.length - k ∧ nv s.1 = nv l / B ^ k / y ∧ s.2 = nv l / B ^ k % y)
    (fun m s ⟨h0, h1, h2, h3⟩ => by
      simp only [nat_shorten_l3_succ, List.take_zero, List.nil_append]
      refine wp_ndec (by omega) (wp_ret ?_)
      simp at h2 h3
      rw [uniq s.1 (by omega) h2, h3]
      have := Nat.mod_lt (nv l) hy
      rw [B_eq] at hyB
      rw [wrapU32 (by omega) (by omega)])
    (fun m k s ⟨h0, h1, h2, h3⟩ ih => by
      have hk : k < l.length := by omega
      have hlen : ((l.take (k + 1) ++ s.1).map dB).length = l.length := by simp; omega
      have gd := nv_limb l k hk
      have hget : ((l.take (k + 1) ++ s.1).map dB).getD k D.nil = D.int ((l[k]).toNat : Int) := by rw [getD_map (x := l[k]) (by rw [List.getElem?_append_left (by simp; omega), List.getElem?_take, if_pos (by omega), List.getElem?_eq_getElem hk])]; rfl
      have hs2 : s.2 < y := by rw [h3]; exact Nat.mod_lt _ hy
      have dl := limb_lt l[k]
      have hQ : nv l / B ^ k = B * (nv l / B ^ (k + 1)) + (l[k]).toNat := by
        rw [gd, Nat.pow_succ, ← Nat.div_div_eq_div_mul]; exact (Nat.div_add_mod _ _).symm
      generalize hdd : (l[k]).toNat = d at *
      have e1 := Nat.div_add_mod (nv l / B ^ (k + 1)) y
      rw [← h2, ← h3] at e1
      have hQ2 : nv l / B ^ k = y * (B * nv s.1) + (s.2 * B + d) := by
        rw [hQ, ← e1, Nat.mul_add, Nat.mul_left_comm, Nat.mul_comm B s.2]; omega
      have hd1 : nv l / B ^ k / y = B * nv s.1 + (s.2 * B + d) / y := by rw [hQ2, Nat.mul_add_div hy]
      have hd2 : nv l / B ^ k % y = (s.2 * B + d) % y := by rw [hQ2, Nat.mul_add_mod]
      have hlt : (s.2 * B + d) / y < B := by
        rw [Nat.div_lt_iff_lt_mul hy]
        have : (s.2 + 1) * B ≤ y * B := Nat.mul_le_mul_right _ hs2
        rw [Nat.add_mul, Nat.one_mul] at this
        rw [Nat.mul_comm B y]; omega
      rw [B_eq] at hyB dl hlt
      have b64 : (2 : Int) ^ (min (Int.toNat 32) (IntKind.bits .u64)) = 4294967296 := by decide
      have t1 : IntKind.wrap .u64 ((s.2 : Int) * 4294967296) = ((s.2 * 4294967296 : Nat) : Int) := by rw [wrapU64 (by omega) (by omega)]; omega
      have t2 : IntKind.wrap .u64 (d : Int) = (d : Int) := wrapU64 (by omega) (by omega)
      have t3 : IntKind.wrap .u64 (y : Int) = (y : Int) := wrapU64 (by omega) (by omega)
      have t4 : IntKind.wrap .u64 (Int.tdiv ((s.2 * 4294967296 + d : Nat) : Int) (y : Int)) = (((s.2 * 4294967296 + d) / y : Nat) : Int) := by
        rw [show Int.tdiv ((s.2 * 4294967296 + d : Nat) : Int) (y : Int) = (((s.2 * 4294967296 + d) / y : Nat) : Int) from rfl]
        generalize (s.2 * 4294967296 + d) / y = qq at hlt ⊢
        exact wrapU64 (by omega) (by omega)
      have t5 : Int.tmod ((s.2 * 4294967296 + d : Nat) : Int) (y : Int) = (((s.2 * 4294967296 + d) % y : Nat) : Int) := rfl
      have t6 : IntKind.wrap .u32 (((s.2 * 4294967296 + d) / y : Nat) : Int) = (((s.2 * 4294967296 + d) / y : Nat) : Int) := by
        generalize (s.2 * 4294967296 + d) / y = qq at hlt ⊢
        exact wrapU32 (by omega) (by omega)
      simp only [nat_shorten_l3_succ, show ((k + 1 : Nat) : Int) - 1 = (k : Int) by omega, Int.toNat_natCast, hget, hlen, toInt_int, b64, t1, t2, t3, or_limb' (show s.2 < 4294967296 by omega) dl, t4, t5, t6]
      have hset : ((l.take (k + 1) ++ s.1).map dB).set k (D.int (((s.2 * 4294967296 + d) / y : Nat) : Int)) = (l.take k ++ (BitVec.ofNat 32 ((s.2 * 4294967296 + d) / y) :: s.1)).map dB := by
        rw [dB_ofNat hlt, map_set, List.take_succ_eq_append_getElem hk, List.append_assoc, List.set_append_right _ _ (by rw [List.length_take]; omega), List.length_take, Nat.min_eq_left (by omega), Nat.sub_self]; rfl
      rw [hset, wrap64 (by omega) (by omega)]
      have hne : (!((y : Int) == 0)) = true := by simp; omega
      refine wp_dec (by omega) (wp_tt (by decide) (wp_dec (by omega) (wp_dec (by omega) (wp_tt hne (wp_dec (by omega) (wp_dec (by omega) (wp_tt hne ?_)))))))
      refine ih (BitVec.ofNat 32 ((s.2 * 4294967296 + d) / y) :: s.1, (s.2 * 4294967296 + d) % y) ⟨by omega, by simp; omega, ?_, hd2.symm⟩
      rw [nv, ofNat_lt hlt]
      show (s.2 * B + d) / y + B * nv s.1 = _
      rw [hd1, Nat.add_comm])
    (l.length + 1) l.length ([], 0) (by omega) ⟨by omega, by simp, by rw [Nat.div_eq_of_lt (nv_lt l)]; simp, by rw [Nat.div_eq_of_lt (nv_lt l)]; simp⟩
  rw [List.take_length, List.append_nil] at key
  rw [wrap64 (by omega) (by omega)]
  exact key
/-- What the long division has to tell. -/
def LongOk (x y : Nat) : Prop := 1 < (lb y).length → y ≤ x → Sp 157 [dL (lb x), dL (lb y)] [dL (lb (x / y)), dL (lb (x % y))]
theorem nat_DivMod_sp (a b : List Limb) (ha : a.length ≤ 100000) (hb : b.length ≤ 100000) (hL : LongOk (nv a) (nv b)) : Sp 143 [dL a, dL b] [dL (lb (nv a / nv b)), dL (lb (if nv b = 0 then 0 else nv a % nv b)), .bool (decide (nv b ≠ 0))] := by
  refine sound_ 0 (nat_DivMod_tree _ _ _) (wp_call (nat_trim_sp a (by omega)) (wp_call (nat_trim_sp b (by omega)) ?_))
  have la : (lb (nv a)).length ≤ a.length := lb_len.2 (nv_lt a)
  have lb_ : (lb (nv b)).length ≤ b.length := lb_len.2 (nv_lt b)
  simp only [getD_c0, els_dL, List.length_map, int_beq]
  refine wp_decs (fun h => wp_ret ?_) (fun h => ?_)
  · have h0 : nv b = 0 := lb_len0.1 (by omega)
    rw [h0, Nat.div_zero, if_pos rfl, lb_zero]; rfl
  have h0 : nv b ≠ 0 := fun hh => h (by rw [hh, lb_zero]; rfl)
  rw [if_neg h0, decide_eq_true h0]
  have cm := nat_Cmp_sp (lb (nv a)) (lb (nv b)) (by omega) (by omega)
  rw [nv_lb, nv_lb] at cm
  refine wp_call cm ?_
  simp only [getD_c0, toInt_int]
  refine wp_decs (fun h1 => ?_) (fun h1 => ?_)
  · have hlt : nv a < nv b := by
      unfold cmpN at h1
      rcases Nat.lt_or_ge (nv a) (nv b) with h2 | h2
      · exact h2
      · rw [if_neg (by omega)] at h1; split at h1 <;> omega
    have nm := nat_Norm_sp (lb (nv a)) (by omega)
    rw [nv_lb] at nm
    refine wp_call nm (wp_ret ?_)
    rw [Nat.div_eq_of_lt hlt, Nat.mod_eq_of_lt hlt, lb_zero]; rfl
  have hge : nv b ≤ nv a := by
    unfold cmpN at h1
    rcases Nat.lt_or_ge (nv a) (nv b) with h2 | h2
    · rw [if_pos h2] at h1; omega
    · exact h2
  refine wp_decs (fun h2 => ?_) (fun h2 => ?_)
  · obtain ⟨d, hd⟩ : ∃ d, lb (nv b) = [d] := by
      match hh : lb (nv b) with
      | [d] => exact ⟨d, rfl⟩
      | [] => rw [hh] at h2; simp at h2
      | _ :: _ :: _ => rw [hh] at h2; simp at h2; omega
    have hbv : nv b = d.toNat := by rw [← nv_lb (nv b), hd]; simp [nv]
    have nm := nat_Norm_sp (lb (nv a)) (by omega)
    rw [nv_lb] at nm
    refine wp_call nm ?_
    simp only [hd, List.map_cons, List.map_nil, List.length_cons, List.length_nil, Int.toNat_zero, getD_c0, els_dL, toInt_dB]
    rw [← hbv]
    have hdB : nv b < B := by rw [hbv]; exact limb_lt d
    obtain ⟨q, q1, q2, q3⟩ := nat_shorten_ex (lb (nv a)) (nv b) (by omega) hdB (by omega)
    rw [nv_lb] at q2 q3
    refine wp_dec (by omega) (wp_dec (by omega) (wp_call q3 ?_))
    have hr : nv a % nv b < B := Nat.lt_of_lt_of_le (Nat.mod_lt _ (by omega)) (by omega)
    simp only [getD_c0, getD_c1, els_sl, toInt_int]
    refine wp_call (nat_trim_sp q (by omega)) ?_
    rw [dB_ofNat hr]
    refine wp_call (nat_Norm_sp [BitVec.ofNat 32 (nv a % nv b)] (by simp)) (wp_ret ?_)
    have e : nv [BitVec.ofNat 32 (nv a % nv b)] = nv a % nv b := by simp only [nv]; rw [ofNat_lt hr]; omega
    rw [e, q2]; rfl
  · exact wp_call (hL (by omega) hge) (wp_ret rfl)
theorem longOk_one (x y : Nat) (h : y < B) : LongOk x y := fun h1 => by
  have : (lb y).length ≤ 1 := lb_len.2 (by simpa using h)
  omega
end Go.Proofs.YtjmddikeadbmjaaGreat
set_option maxRecDepth 100000
namespace Go.Proofs.YtjmddikeadbmjaaGreat

theorem zv_mk (b : Bool) (l : List Limb) : zv ⟨b, l⟩ = if b then -(nv l : Int) else (nv l : Int) := rfl
theorem sgn_cases (z : Int) : (sgnZ z = -1 ∧ z < 0) ∨ (sgnZ z = 0 ∧ z = 0) ∨ (sgnZ z = 1 ∧ 0 < z) := by
  unfold sgnZ
  by_cases h1 : z < 0
  · exact .inl ⟨if_pos h1, h1⟩
  · by_cases h2 : z = 0
    · exact .inr (.inl ⟨by rw [if_neg h1, if_pos h2], h2⟩)
    · exact .inr (.inr ⟨by rw [if_neg h1, if_neg h2], by omega⟩)
theorem whole_Sign_sp (a : Wh) (h : a.mag.length ≤ 1000000) : Sp 112 [dW a] [.int (sgnZ (zv a))] := by
  refine sound_ 0 (whole_Sign_tree _ _) ?_
  have cm := nat_Cmp_sp a.mag [] h (by simp)
  simp only [dW_0, dW_1, toBool_bool]
  refine wp_call cm ?_
  simp only [getD_c0, toInt_int, int_beq, nv_nil]
  unfold sgnZ zv cmpN
  refine wp_decs (fun h0 => wp_ret ?_) (fun h0 => wp_br (fun h1 => wp_ret ?_) (fun h1 => wp_ret ?_))
  · have : nv a.mag = 0 := by
      rw [if_neg (by omega)] at h0
      split at h0
      · assumption
      · omega
    rw [this]; cases a.neg <;> simp
  · have : nv a.mag ≠ 0 := fun hh => h0 (by rw [hh]; simp)
    rw [if_pos (by rw [if_pos h1]; omega)]
  · have : nv a.mag ≠ 0 := fun hh => h0 (by rw [hh]; simp)
    rw [if_neg (by rw [if_neg (by simp [h1])]; omega), if_neg (by rw [if_neg (by simp [h1])]; omega)]
theorem whole_Cmp_sp (a b : Wh) (ha : a.mag.length ≤ 1000000) (hb : b.mag.length ≤ 1000000) : Sp 126 [dW a, dW b] [.int (cmpZ (zv a) (zv b))] := by
  refine sound_ 0 (whole_Cmp_tree _ _ _) (wp_call (whole_Sign_sp a ha) (wp_call (whole_Sign_sp b hb) ?_))
  simp only [getD_c0, toInt_int, dW_1]
  have za := zv_abs a
  have zb := zv_abs b
  refine wp_decs (fun h => wp_ret ?_) (fun h => wp_decs (fun h' => wp_ret ?_) (fun h' => wp_decs (fun h2 => wp_call (nat_Cmp_sp b.mag a.mag hb ha) (wp_ret ?_)) (fun h2 => wp_call (nat_Cmp_sp a.mag b.mag ha hb) (wp_ret ?_))))
  · have : zv a < zv b := by rcases sgn_cases (zv a) with h1 | h1 | h1 <;> rcases sgn_cases (zv b) with h2 | h2 | h2 <;> omega
    rw [cmpZ, if_pos this]
  · have : zv b < zv a := by rcases sgn_cases (zv a) with h1 | h1 | h1 <;> rcases sgn_cases (zv b) with h2 | h2 | h2 <;> omega
    rw [cmpZ, if_neg (by omega), if_neg (by omega)]
  · have h3 : zv a < 0 ∧ zv b < 0 := by rcases sgn_cases (zv a) with h1 | h1 | h1 <;> rcases sgn_cases (zv b) with h2 | h2 | h2 <;> omega
    simp only [getD_c0, toInt_int]
    have : cmpN (nv b.mag) (nv a.mag) = cmpZ (zv a) (zv b) := by
      unfold cmpN cmpZ
      by_cases g1 : nv b.mag < nv a.mag
      · rw [if_pos g1, if_pos (show zv a < zv b by omega)]
      · rw [if_neg g1, if_neg (show ¬ zv a < zv b by omega)]
        by_cases g2 : nv b.mag = nv a.mag
        · rw [if_pos g2, if_pos (show zv a = zv b by omega)]
        · rw [if_neg g2, if_neg (show ¬ zv a = zv b by omega)]
    rw [this]
  · have h3 : 0 ≤ zv a ∧ 0 ≤ zv b := by rcases sgn_cases (zv a) with h1 | h1 | h1 <;> rcases sgn_cases (zv b) with h2 | h2 | h2 <;> omega
    simp only [getD_c0, toInt_int]
    have : cmpN (nv a.mag) (nv b.mag) = cmpZ (zv a) (zv b) := by
      unfold cmpN cmpZ
      by_cases g1 : nv a.mag < nv b.mag
      · rw [if_pos g1, if_pos (show zv a < zv b by omega)]
      · rw [if_neg g1, if_neg (show ¬ zv a < zv b by omega)]
        by_cases g2 : nv a.mag = nv b.mag
        · rw [if_pos g2, if_pos (show zv a = zv b by omega)]
        · rw [if_neg g2, if_neg (show ¬ zv a = zv b by omega)]
    rw [this]
theorem whole_Add_sp (a b : Wh) (ha : a.mag.length ≤ 100000) (hb : b.mag.length ≤ 100000) : Sp 125 [dW a, dW b] [dW (wz (zv a + zv b))] := by
  refine sound_ 0 (whole_Add_tree _ _ _) ?_
  simp only [dW_0, dW_1, toBool_bool, bool_beq]
  refine wp_decs (fun h => wp_call (nat_Add_sp a.mag b.mag ha hb) (wp_call (whole_signed_sp a.neg _) (wp_ret ?_))) (fun h => wp_call (nat_Sub_sp a.mag b.mag ha hb) ?_)
  · have : (if a.neg = true then -((nv a.mag + nv b.mag : Nat) : Int) else ((nv a.mag + nv b.mag : Nat) : Int)) = zv a + zv b := by
      unfold zv; rw [← h]; cases a.neg <;> simp <;> omega
    rw [getD_c0, this]
  simp only [getD_c0, getD_c1, toBool_bool]
  refine wp_decs (fun h1 => wp_call (whole_signed_sp a.neg _) (wp_ret ?_)) (fun h1 => wp_call (nat_Sub_sp b.mag a.mag hb ha) (wp_call (whole_signed_sp b.neg _) (wp_ret ?_)))
  · have : (if a.neg = true then -((nv a.mag - nv b.mag : Nat) : Int) else ((nv a.mag - nv b.mag : Nat) : Int)) = zv a + zv b := by
      unfold zv; cases ea : a.neg <;> cases eb : b.neg <;> simp [ea, eb] at h ⊢ <;> omega
    rw [getD_c0, this]
  · have : (if b.neg = true then -((nv b.mag - nv a.mag : Nat) : Int) else ((nv b.mag - nv a.mag : Nat) : Int)) = zv a + zv b := by
      unfold zv; cases ea : a.neg <;> cases eb : b.neg <;> simp [ea, eb] at h ⊢ <;> omega
    rw [getD_c0, this]
theorem zv_flip (b : Wh) : zv ⟨!b.neg, b.mag⟩ = -zv b := by unfold zv; cases b.neg <;> simp
theorem whole_Sub_sp (a b : Wh) (ha : a.mag.length ≤ 100000) (hb : b.mag.length ≤ 100000) : Sp 145 [dW a, dW b] [dW (wz (zv a - zv b))] := by
  refine sound_ 0 (whole_Sub_tree _ _ _) ?_
  simp only [dW_0, dW_1, toBool_bool, dW_mk]
  refine wp_call (whole_Add_sp a ⟨!b.neg, b.mag⟩ ha hb) (wp_ret ?_)
  rw [zv_flip, ← Int.sub_eq_add_neg]; rfl
theorem zv_mul (a b : Wh) : (if (!(a.neg == b.neg)) = true then -((nv a.mag * nv b.mag : Nat) : Int) else ((nv a.mag * nv b.mag : Nat) : Int)) = zv a * zv b := by
  unfold zv; cases a.neg <;> cases b.neg <;> simp [Int.neg_mul, Int.mul_neg, Int.natCast_mul]
theorem whole_Mul_sp (a b : Wh) (ha : a.mag.length ≤ 100000) (hb : b.mag.length ≤ 100000) : Sp 115 [dW a, dW b] [dW (wz (zv a * zv b))] := by
  refine sound_ 0 (whole_Mul_tree _ _ _) ?_
  simp only [dW_0, dW_1, toBool_bool]
  refine wp_call (nat_Mul_sp a.mag b.mag ha hb) (wp_call (whole_signed_sp (!(a.neg == b.neg)) _) (wp_ret ?_))
  rw [zv_mul]; rfl
theorem ref03_Mul_sp (a b : Wh) (ha : a.mag.length ≤ 10000) (hb : b.mag.length ≤ 10000) : Sp 123 [dW a, dW b] [dW (wz (zv a * zv b))] := by
  have la : (lb (nv a.mag)).length ≤ a.mag.length := lb_len.2 (nv_lt _)
  have lb_ : (lb (nv b.mag)).length ≤ b.mag.length := lb_len.2 (nv_lt _)
  have ml := ref02_Mul_sp (lb (nv a.mag)) (lb (nv b.mag)) (by omega) (by omega)
  rw [nv_lb, nv_lb] at ml
  have hlen : (lb (nv a.mag * nv b.mag)).length ≤ a.mag.length + b.mag.length := lb_len.2 (by
    rw [Nat.pow_add]; exact Nat.mul_lt_mul'' (nv_lt _) (nv_lt _))
  refine sound_ 0 (ref03_Mul_tree _ _ _) (wp_call (ref03_Norm_sp a (by omega)) (wp_call (ref03_Norm_sp b (by omega)) ?_))
  simp only [dW_1]
  refine wp_call (ref02_Norm_sp a.mag (by omega)) (wp_call (ref02_Norm_sp b.mag (by omega)) (wp_call ml ?_))
  simp only [getD_c0, dW_0, toBool_bool]
  refine wp_call (ref03_Norm_sp ⟨!((wz (zv a)).neg == (wz (zv b)).neg), lb (nv a.mag * nv b.mag)⟩ (by show (lb _).length ≤ _; omega)) (wp_ret ?_)
  rw [getD_c0]
  congr 3
  have h1 : ∀ w : Wh, nv w.mag ≠ 0 → (wz (zv w)).neg = w.neg := fun w hw => by rw [wz_zv, if_neg hw]
  by_cases ha0 : nv a.mag = 0
  · have : zv a = 0 := by unfold zv; rw [ha0]; simp
    rw [this, Int.zero_mul, zv_lb, ha0, Nat.zero_mul]; simp
  · by_cases hb0 : nv b.mag = 0
    · have : zv b = 0 := by unfold zv; rw [hb0]; simp
      rw [this, Int.mul_zero, zv_lb, hb0, Nat.mul_zero]; simp
    · rw [h1 a ha0, h1 b hb0, zv_lb]
      exact zv_mul a b
/-- A quotient, rounded down, and the rest. -/
def dmZ (x y : Int) : Int × Int :=
  if (x < 0) = (y < 0) then (((x.natAbs / y.natAbs : Nat) : Int), if x < 0 then -((x.natAbs % y.natAbs : Nat) : Int) else ((x.natAbs % y.natAbs : Nat) : Int))
  else if x.natAbs % y.natAbs = 0 then (-((x.natAbs / y.natAbs : Nat) : Int), 0)
  else (-((x.natAbs / y.natAbs : Nat) : Int) - 1, (if x < 0 then -((x.natAbs % y.natAbs : Nat) : Int) else ((x.natAbs % y.natAbs : Nat) : Int)) + y)
def dmD (x y : Int) : List D := if y = 0 then [dW (wz 0), dW (wz 0), .bool false] else [dW (wz (dmZ x y).1), dW (wz (dmZ x y).2), .bool true]
theorem zv_neg {w : Wh} (h : nv w.mag ≠ 0) : (zv w < 0) ↔ w.neg = true := by unfold zv; cases w.neg <;> simp <;> omega
theorem zv_zero {w : Wh} : zv w = 0 ↔ nv w.mag = 0 := by unfold zv; cases w.neg <;> simp
theorem dmZ_neg {a b : Wh} (hb : nv b.mag ≠ 0) (hr : nv a.mag % nv b.mag ≠ 0) (hs : a.neg ≠ b.neg) : dmZ (zv a) (zv b) = ((if (!(a.neg == b.neg)) = true then -((nv a.mag / nv b.mag : Nat) : Int) else ((nv a.mag / nv b.mag : Nat) : Int)) - 1, (if a.neg = true then -((nv a.mag % nv b.mag : Nat) : Int) else ((nv a.mag % nv b.mag : Nat) : Int)) + zv b) := by
  have ha : nv a.mag ≠ 0 := fun h => hr (by rw [h]; simp)
  have h1 := zv_neg ha
  have h2 := zv_neg hb
  unfold dmZ
  rw [zv_abs, zv_abs, if_neg (by rw [eq_iff_iff, h1, h2]; cases ea : a.neg <;> cases eb : b.neg <;> simp [ea, eb] at hs ⊢), if_neg hr]
  have e1 : (!(a.neg == b.neg)) = true := by cases ea : a.neg <;> cases eb : b.neg <;> simp [ea, eb] at hs ⊢
  rw [if_pos e1]
  by_cases h : a.neg = true
  · rw [if_pos (h1.2 h), if_pos h]
  · rw [if_neg (fun hh => h (h1.1 hh)), if_neg h]
theorem dmZ_same {a b : Wh} (hb : nv b.mag ≠ 0) (hr : a.neg = b.neg ∨ nv a.mag % nv b.mag = 0) : dmZ (zv a) (zv b) = (if (!(a.neg == b.neg)) = true then -((nv a.mag / nv b.mag : Nat) : Int) else ((nv a.mag / nv b.mag : Nat) : Int), if a.neg = true then -((nv a.mag % nv b.mag : Nat) : Int) else ((nv a.mag % nv b.mag : Nat) : Int)) := by
  have h2 := zv_neg hb
  unfold dmZ
  rw [zv_abs, zv_abs]
  by_cases ha : nv a.mag = 0
  · have h0 : zv a = 0 := zv_zero.2 ha
    rw [h0, ha]
    simp
  · have h1 := zv_neg ha
    by_cases hs : a.neg = b.neg
    · rw [if_pos (by rw [eq_iff_iff, h1, h2, hs])]
      have e1 : (!(a.neg == b.neg)) = false := by rw [hs]; simp
      rw [e1]
      by_cases h : a.neg = true
      · rw [if_pos (h1.2 h), if_pos h]; simp
      · rw [if_neg (fun hh => h (h1.1 hh)), if_neg h]; simp
    · have h3 := hr.resolve_left hs
      rw [if_neg (by rw [eq_iff_iff, h1, h2]; cases ea : a.neg <;> cases eb : b.neg <;> simp [ea, eb] at hs ⊢), if_pos h3, h3]
      have e1 : (!(a.neg == b.neg)) = true := by cases ea : a.neg <;> cases eb : b.neg <;> simp [ea, eb] at hs ⊢
      rw [if_pos e1]
      cases a.neg <;> simp
theorem wz_len_le {n : Nat} {z : Int} (h : z.natAbs < B ^ n) : (wz z).mag.length ≤ n := lb_len.2 h
theorem whole_DivMod_sp (a b : Wh) (ha : a.mag.length ≤ 10000) (hb : b.mag.length ≤ 10000) (hL : LongOk (nv a.mag) (nv b.mag)) : Sp 117 [dW a, dW b] (dmD (zv a) (zv b)) := by
  refine sound_ 0 (whole_DivMod_tree _ _ _) ?_
  simp only [dW_0, dW_1, toBool_bool]
  refine wp_call (nat_DivMod_sp a.mag b.mag (by omega) (by omega) hL) ?_
  simp only [getD_c0, getD_c1, getD_c2, toBool_bool, dW_zero, els_dL, List.length_map]
  unfold dmD
  refine wp_br (fun h => wp_ret ?_) (fun h => ?_)
  · have h0 : nv b.mag = 0 := by simpa using h
    rw [if_pos (zv_zero.2 h0)]
  have h0 : nv b.mag ≠ 0 := by simpa using h
  rw [if_neg (fun hh => h0 (zv_zero.1 hh)), if_neg h0]
  have hq : nv a.mag / nv b.mag < B ^ a.mag.length := Nat.lt_of_le_of_lt (Nat.div_le_self _ _) (nv_lt _)
  have hr : nv a.mag % nv b.mag < B ^ b.mag.length := Nat.lt_of_lt_of_le (Nat.mod_lt _ (by omega)) (Nat.le_of_lt (nv_lt _))
  refine wp_call (whole_signed_sp _ (nv a.mag / nv b.mag)) (wp_call (whole_signed_sp a.neg (nv a.mag % nv b.mag)) ?_)
  simp only [getD_c0]
  refine wp_br (fun h1 => wp_decs (fun h2 => ?_) (fun h2 => wp_ret ?_)) (fun h1 => wp_ret ?_)
  · have hr0 : nv a.mag % nv b.mag ≠ 0 := fun hh => by rw [hh, lb_zero] at h2; simp at h2
    have hs : a.neg ≠ b.neg := by simpa using h1
    refine wp_call (whole_Of_sp 1 (by unfold inR; decide)) ?_
    refine wp_call (whole_Sub_sp _ _ (Nat.le_trans (wz_len_le (n := a.mag.length) (by split <;> simp <;> exact hq)) (by omega)) (Nat.le_trans (wz_len_le (n := 1) (by simp [B_eq])) (by omega))) ?_
    refine wp_call (whole_Add_sp _ b (Nat.le_trans (wz_len_le (n := b.mag.length) (by split <;> simp <;> exact hr)) (by omega)) (by omega)) (wp_ret ?_)
    rw [dmZ_neg h0 hr0 hs, zv_wz, zv_wz, zv_wz]; rfl
  · have hr0 : nv a.mag % nv b.mag = 0 := lb_len0.1 (by omega)
    rw [dmZ_same h0 (.inr hr0)]
  · rw [dmZ_same h0 (.inl (by simpa using h1))]
theorem ref03_DivMod_sp (a b : Wh) (ha : a.mag.length ≤ 5000) (hb : b.mag.length ≤ 5000) : Sp 124 [dW a, dW b] (dmD (zv a) (zv b)) := by
  have la : (wz (zv a)).mag.length ≤ a.mag.length := wz_len a
  have lb_ : (wz (zv b)).mag.length ≤ b.mag.length := wz_len b
  have na : nv (wz (zv a)).mag = (zv a).natAbs := nv_lb _
  have nb : nv (wz (zv b)).mag = (zv b).natAbs := nv_lb _
  refine sound_ 0 (ref03_DivMod_tree _ _ _) (wp_call (ref03_Norm_sp a (by omega)) (wp_call (ref03_Norm_sp b (by omega)) ?_))
  simp only [getD_c0, dW_0, dW_1, toBool_bool]
  refine wp_call (ref02_DivMod_sp _ _ (by omega) (by omega)) ?_
  simp only [getD_c0, getD_c1, getD_c2, toBool_bool, dW_zero, els_dL, List.length_map, na, nb]
  unfold dmD
  refine wp_br (fun h => wp_ret ?_) (fun h => ?_)
  · have h0 : (zv b).natAbs = 0 := by simpa using h
    rw [if_pos (by omega)]
  have h0 : (zv b).natAbs ≠ 0 := by simpa using h
  rw [if_neg (show ¬ zv b = 0 by omega), if_neg h0]
  have hq : (zv a).natAbs / (zv b).natAbs < B ^ a.mag.length := Nat.lt_of_le_of_lt (Nat.div_le_self _ _) (by rw [zv_abs]; exact nv_lt _)
  have hr : (zv a).natAbs % (zv b).natAbs < B ^ b.mag.length := Nat.lt_of_lt_of_le (Nat.mod_lt _ (by omega)) (by rw [zv_abs]; exact Nat.le_of_lt (nv_lt _))
  have lq := lb_len.2 hq
  have lr := lb_len.2 hr
  generalize zv a = x at *
  generalize zv b = y at *
  have sx : (wz x).neg = decide (x < 0) := rfl
  have sy : (wz y).neg = decide (y < 0) := rfl
  rw [sx, sy]
  unfold dmZ
  refine wp_br (fun h1 => ?_) (fun h1 => ?_)
  · have hs : (x < 0) = (y < 0) := by rw [eq_iff_iff]; simpa using h1
    rw [if_pos hs]
    refine wp_call (ref03_Norm_sp ⟨false, _⟩ (by show (lb _).length ≤ _; omega)) (wp_call (ref03_Norm_sp ⟨decide (x < 0), _⟩ (by show (lb _).length ≤ _; omega)) (wp_ret ?_))
    rw [zv_lb, zv_lb]
    simp only [getD_c0, Bool.false_eq_true, if_false]
    by_cases hx : x < 0 <;> simp [hx]
  · have hs : ¬ (x < 0) = (y < 0) := by rw [eq_iff_iff]; simpa using h1
    rw [if_neg hs]
    refine wp_decs (fun h2 => ?_) (fun h2 => ?_)
    · have hr0 := lb_len0.1 (show (lb (x.natAbs % y.natAbs)).length = 0 by omega)
      rw [if_pos hr0]
      refine wp_call (ref03_Norm_sp ⟨true, _⟩ (by show (lb _).length ≤ _; omega)) (wp_ret ?_)
      rw [zv_lb]; rfl
    · have hr0 : x.natAbs % y.natAbs ≠ 0 := fun hh => h2 (by rw [hh, lb_zero]; rfl)
      rw [if_neg hr0]
      have sb := ref02_Sub_sp (wz y).mag (lb (x.natAbs % y.natAbs)) (by omega) (by omega)
      have ad := ref02_Add_sp (lb (x.natAbs / y.natAbs)) [1] (by omega) (by simp)
      rw [nv_lb] at sb ad
      rw [nb] at sb
      have hlt := Nat.mod_lt x.natAbs (show 0 < y.natAbs by omega)
      have n1 : nv [1] = 1 := by simp [nv]
      rw [n1] at ad
      refine wp_call sb (wp_call ad ?_)
      have l1 : (lb (x.natAbs / y.natAbs + 1)).length ≤ 5001 := Nat.le_trans ((lb_len (n := x.natAbs / y.natAbs + 1) (k := a.mag.length + 1)).2 (by
        rw [Nat.pow_succ]
        have key : ∀ q r : Nat, r < q → r + 1 < q * 4294967296 := by intros; omega
        exact key _ _ hq)) (by omega)
      have l2 : (lb (y.natAbs - x.natAbs % y.natAbs)).length ≤ 5000 := by
        refine Nat.le_trans ((lb_len (k := (wz y).mag.length)).2 ?_) (by omega)
        have : y.natAbs < B ^ (wz y).mag.length := by rw [← nb]; exact nv_lt _
        omega
      simp only [getD_c0]
      refine wp_call (ref03_Norm_sp ⟨true, _⟩ (by show (lb _).length ≤ _; omega)) (wp_call (ref03_Norm_sp ⟨decide (y < 0), _⟩ (by show (lb _).length ≤ _; omega)) (wp_ret ?_))
      rw [zv_lb, zv_lb]
      simp only [getD_c0, if_true]
      generalize x.natAbs / y.natAbs = q at *
      generalize x.natAbs % y.natAbs = r at *
      have e1 : -((q + 1 : Nat) : Int) = -(q : Int) - 1 := by omega
      have e2 : (if decide (y < 0) = true then -((y.natAbs - r : Nat) : Int) else ((y.natAbs - r : Nat) : Int)) = (if x < 0 then -(r : Int) else (r : Int)) + y := by
        by_cases hy : y < 0
        · have hx : ¬ x < 0 := fun h => hs (by rw [eq_iff_iff]; exact ⟨fun _ => hy, fun _ => h⟩)
          simp [hy, hx]; omega
        · have hx : x < 0 := Classical.byContradiction fun h => hs (by rw [eq_iff_iff]; exact ⟨fun g => absurd g h, fun g => absurd g hy⟩)
          simp [hy, hx]; omega
      rw [e1, e2]
def lenZ (z : Int) : Nat := (lb z.natAbs).length
/-- A power by squares; an error. -/
def powR : Nat → Nat → Int → Int → Int × Int
  | 0, _, out, _ => (out, 0)
  | k + 1, n, out, base => if n = 0 then (out, 0) else if 32 < lenZ base then (0, 7) else
    if 32 < lenZ (if n % 2 = 1 then out * base else out) then (0, 7) else
    if n / 2 = 0 then (if n % 2 = 1 then out * base else out, 0) else powR k (n / 2) (if n % 2 = 1 then out * base else out) (base * base)
def powD (r : Int × Int) : List D := [dW (wz r.1), .int r.2]
theorem lenZ_mul (x y : Int) : lenZ (x * y) ≤ lenZ x + lenZ y := by
  unfold lenZ
  refine lb_len.2 ?_
  rw [Int.natAbs_mul, Nat.pow_add]
  exact Nat.mul_lt_mul'' (lb_len.1 (Nat.le_refl _)) (lb_len.1 (Nat.le_refl _))
theorem and_one (n : Nat) (h : n ≤ 9223372036854775807) : bits_ .and .i64 (n : Int) 1 = ((n % 2 : Nat) : Int) := by
  have b : IntKind.bits .i64 = 64 := rfl
  have h1 : n % 2 < 2 := Nat.mod_lt _ (by decide)
  have e : (BitVec.ofInt 64 (n : Int) &&& BitVec.ofInt 64 1).toNat = n % 2 := by
    rw [BitVec.ofInt_natCast, show BitVec.ofInt 64 1 = BitVec.ofNat 64 1 from rfl, BitVec.toNat_and, BitVec.toNat_ofNat, BitVec.toNat_ofNat, Nat.mod_eq_of_lt (show n < 2 ^ 64 by omega)]
    exact Nat.and_one_is_mod n
  show IntKind.wrap .i64 ((BitVec.ofInt 64 (n : Int) &&& BitVec.ofInt 64 1).toNat : Int) = _
  rw [e]
  exact wrap64 (x := ((n % 2 : Nat) : Int)) (by omega) (by omega)
theorem fdiv_two (n : Nat) : Int.fdiv (n : Int) (2 ^ (min (Int.toNat 1) (IntKind.bits .i64))) = ((n / 2 : Nat) : Int) := by
  rw [show (2 : Int) ^ (min (Int.toNat 1) (IntKind.bits .i64)) = 2 by decide, Int.fdiv_eq_ediv_of_nonneg _ (by omega)]; omega
theorem whole_Pow_loop (N : Nat) : ∀ (k m n : Nat) (out base : Int), n < 2 ^ k → k < m → n ≤ 1000000 → lenZ out ≤ 100 → lenZ base ≤ 100 → Tw (whole_Pow_l4 N m (n : Int) false (dW (wz out)) (dW (wz base))) (powD (powR k n out base))
  | k, 0, n, out, base, hk, hm, _, _, _ => by omega
  | 0, m + 1, n, out, base, hk, hm, hn, ho, hb => by
    have : n = 0 := by simp at hk; omega
    subst this
    simp only [whole_Pow_l4_succ]
    exact wp_ndec (by omega) (wp_ret rfl)
  | k + 1, m + 1, n, out, base, hk, hm, hn, ho, hb => by
    have hk' : n / 2 < 2 ^ k := by rw [Nat.pow_succ] at hk; omega
    simp only [whole_Pow_l4_succ, dW_1, els_dL, List.length_map, and_one n (by omega), fdiv_two, int_beq, dW_zero]
    rw [powR]
    refine wp_decs (fun h0 => ?_) (fun h0 => wp_ret ?_)
    · rw [if_neg (by omega)]
      have lo : (wz out).mag.length = lenZ out := rfl
      have lb_ : (wz base).mag.length = lenZ base := rfl
      rw [lb_, lo]
      refine wp_decs (fun h1 => wp_ret ?_) (fun h1 => ?_)
      · rw [if_pos (by omega)]; rfl
      rw [if_neg (by omega)]
      have m1 := whole_Mul_sp (wz out) (wz base) (by omega) (by omega)
      have m2 := whole_Mul_sp (wz base) (wz base) (by omega) (by omega)
      rw [zv_wz, zv_wz] at m1
      rw [zv_wz] at m2
      have l2 := lenZ_mul base base
      refine wp_decs (fun h2 => wp_call m1 ?_) (fun h2 => ?_)
      · rw [if_pos (show n % 2 = 1 by omega)]
        simp only [getD_c0, dW_1, els_dL, List.length_map]
        have lo' : (wz (out * base)).mag.length = lenZ (out * base) := rfl
        rw [lo']
        refine wp_decs (fun h3 => wp_ret (by rw [if_pos (by omega)]; rfl)) (fun h3 => wp_tt (by decide) ?_)
        rw [if_neg (by omega)]
        refine wp_decs (fun h4 => wp_call m2 ?_) (fun h4 => ?_)
        · rw [if_neg (by omega)]
          exact whole_Pow_loop N k m (n / 2) _ _ hk' (by omega) (by omega) (by omega) (by omega)
        · rw [if_pos (by omega)]
          have e0 : n / 2 = 0 := by omega
          rw [e0]
          have := whole_Pow_loop N k m 0 (out * base) base (Nat.pow_pos (by decide)) (by omega) (by omega) (by omega) hb
          have e1 : powR k 0 (out * base) base = (out * base, 0) := by cases k <;> simp [powR]
          rw [e1] at this; exact this
      · rw [if_neg (show ¬ n % 2 = 1 by omega)]
        refine wp_decs (fun h3 => wp_ret (by rw [if_pos (by omega)]; rfl)) (fun h3 => wp_tt (by decide) ?_)
        rw [if_neg (by omega)]
        refine wp_decs (fun h4 => wp_call m2 ?_) (fun h4 => ?_)
        · rw [if_neg (by omega)]
          exact whole_Pow_loop N k m (n / 2) _ _ hk' (by omega) (by omega) (by omega) (by omega)
        · rw [if_pos (by omega)]
          have e0 : n / 2 = 0 := by omega
          rw [e0]
          have := whole_Pow_loop N k m 0 out base (Nat.pow_pos (by decide)) (by omega) (by omega) (by omega) hb
          have e1 : powR k 0 out base = (out, 0) := by cases k <;> simp [powR]
          rw [e1] at this; exact this
    · rw [if_pos (by omega)]; rfl
def powZ (x n : Int) : Int × Int := if n < 0 then (0, 3) else powR 20 n.toNat 1 x
theorem whole_Pow_sp (a : Wh) (n : Int) (ha : a.mag.length ≤ 100) (hn : n ≤ 1000000) : Sp 127 [dW a, .int n] (powD (powZ (zv a) n)) := by
  refine sound_ 21 (whole_Pow_tree _ _ _) ?_
  simp only [toInt_int, dW_zero]
  unfold powZ
  refine wp_decs (fun h => wp_ret (by rw [if_pos h]; rfl)) (fun h => wp_call (whole_Of_sp 1 (by unfold inR; decide)) (wp_call (whole_Norm_sp a (by omega)) ?_))
  rw [if_neg h]
  obtain ⟨k, rfl⟩ : ∃ k : Nat, n = (k : Int) := ⟨n.toNat, by omega⟩
  rw [Int.toNat_natCast]
  have l1 : lenZ 1 ≤ 1 := lb_len.2 (by decide)
  have l2 : lenZ (zv a) ≤ 100 := Nat.le_trans (wz_len a) ha
  exact whole_Pow_loop 21 20 21 k 1 (zv a) (by omega) (by omega) (by omega) (by omega) l2
theorem tmod_two (n : Nat) : Int.tmod (n : Int) 2 = ((n % 2 : Nat) : Int) := rfl
theorem tdiv_two (n : Nat) (h : n ≤ 9223372036854775807) : IntKind.wrap .i64 (Int.tdiv (n : Int) 2) = ((n / 2 : Nat) : Int) := by
  rw [show Int.tdiv (n : Int) 2 = ((n / 2 : Nat) : Int) from rfl]; exact wrap64 (x := ((n / 2 : Nat) : Int)) (by omega) (by omega)
theorem ref03_Pow_loop (N : Nat) : ∀ (k m n : Nat) (out base : Int), n < 2 ^ k → k < m → n ≤ 1000000 → lenZ out ≤ 100 → lenZ base ≤ 100 → (0 < n → lenZ base ≤ 32) → Tw (ref03_Pow_l6 N m (n : Int) false (dW (wz out)) (dW (wz base))) (powD (powR k n out base))
  | k, 0, n, out, base, hk, hm, _, _, _, _ => by omega
  | 0, m + 1, n, out, base, hk, hm, hn, ho, hb, _ => by
    have : n = 0 := by simp at hk; omega
    subst this
    simp only [ref03_Pow_l6_succ]
    exact wp_ndec (by omega) (wp_ret rfl)
  | k + 1, m + 1, n, out, base, hk, hm, hn, ho, hb, hb32 => by
    have hk' : n / 2 < 2 ^ k := by rw [Nat.pow_succ] at hk; omega
    simp only [ref03_Pow_l6_succ, dW_1, els_dL, List.length_map, tmod_two, tdiv_two n (by omega), int_beq, dW_zero]
    rw [powR]
    refine wp_decs (fun h0 => ?_) (fun h0 => wp_ret ?_)
    · rw [if_neg (by omega)]
      have hb3 := hb32 (by omega)
      have lo : (wz out).mag.length = lenZ out := rfl
      have lb_ : (wz base).mag.length = lenZ base := rfl
      rw [if_neg (by omega)]
      have m1 := ref03_Mul_sp (wz out) (wz base) (by omega) (by omega)
      have m2 := ref03_Mul_sp (wz base) (wz base) (by omega) (by omega)
      rw [zv_wz, zv_wz] at m1
      rw [zv_wz] at m2
      have l2 := lenZ_mul base base
      have e1 : ∀ o : Int, powR k 0 o base = (o, 0) := fun o => by cases k <;> simp [powR]
      have rest : ∀ o : Int, 0 < n / 2 → lenZ o ≤ 32 → (32 < lenZ (base * base) → powD (powR k (n / 2) o (base * base)) = powD (0, 7)) := fun o h4 _ h5 => by
        cases k with
        | zero => simp at hk'; omega
        | succ k => rw [powR, if_neg (by omega), if_pos h5]
      have nt : (!((2 : Int) == 0)) = true := by decide
      refine wp_tt nt (wp_decs (fun h2 => wp_call m1 (wp_tt nt ?_)) (fun h2 => wp_tt nt ?_))
      · rw [if_pos (show n % 2 = 1 by omega)]
        simp only [getD_c0, dW_1, els_dL, List.length_map]
        have lo' : (wz (out * base)).mag.length = lenZ (out * base) := rfl
        have lb' : (wz (base * base)).mag.length = lenZ (base * base) := rfl
        refine wp_decs (fun h4 => wp_call m2 ?_) (fun h4 => ?_)
        · simp only [getD_c0, dW_1, els_dL, List.length_map]
          rw [lo', lb']
          refine wp_decs (fun h3 => wp_ret (by rw [if_pos (by omega)]; rfl)) (fun h3 => ?_)
          rw [if_neg (by omega), if_neg (by omega)]
          refine wp_decs (fun h5 => wp_ret (by rw [rest _ (by omega) (by omega) (by omega)]; rfl)) (fun h5 => ?_)
          exact ref03_Pow_loop N k m (n / 2) _ _ hk' (by omega) (by omega) (by omega) (by omega) (fun _ => by omega)
        · rw [lo', lb_]
          refine wp_decs (fun h3 => wp_ret (by rw [if_pos (by omega)]; rfl)) (fun h3 => ?_)
          rw [if_neg (by omega), if_pos (by omega)]
          refine wp_ndec (by omega) ?_
          have e0 : n / 2 = 0 := by omega
          rw [e0]
          have := ref03_Pow_loop N k m 0 (out * base) base (Nat.pow_pos (by decide)) (by omega) (by omega) (by omega) hb (fun h => by omega)
          rw [e1] at this; exact this
      · rw [if_neg (show ¬ n % 2 = 1 by omega)]
        have lb' : (wz (base * base)).mag.length = lenZ (base * base) := rfl
        refine wp_decs (fun h4 => wp_call m2 ?_) (fun h4 => ?_)
        · simp only [getD_c0, dW_1, els_dL, List.length_map]
          rw [lo, lb']
          refine wp_decs (fun h3 => wp_ret (by rw [if_pos (by omega)]; rfl)) (fun h3 => ?_)
          rw [if_neg (by omega), if_neg (by omega)]
          refine wp_decs (fun h5 => wp_ret (by rw [rest _ (by omega) (by omega) (by omega)]; rfl)) (fun h5 => ?_)
          exact ref03_Pow_loop N k m (n / 2) _ _ hk' (by omega) (by omega) (by omega) (by omega) (fun _ => by omega)
        · rw [lo, lb_]
          refine wp_decs (fun h3 => wp_ret (by rw [if_pos (by omega)]; rfl)) (fun h3 => ?_)
          rw [if_neg (by omega), if_pos (by omega)]
          refine wp_ndec (by omega) ?_
          have e0 : n / 2 = 0 := by omega
          rw [e0]
          have := ref03_Pow_loop N k m 0 out base (Nat.pow_pos (by decide)) (by omega) (by omega) (by omega) hb (fun h => by omega)
          rw [e1] at this; exact this
    · rw [if_pos (by omega)]; rfl
theorem ref03_Pow_sp (a : Wh) (n : Int) (ha : a.mag.length ≤ 100) (hn : n ≤ 1000000) : Sp 130 [dW a, .int n] (powD (powZ (zv a) n)) := by
  refine sound_ 21 (ref03_Pow_tree _ _ _) ?_
  simp only [toInt_int, dW_zero]
  unfold powZ
  refine wp_decs (fun h => wp_ret (by rw [if_pos h]; rfl)) (fun h => wp_call (ref03_Of_sp 1 (by unfold inR; decide)) (wp_call (ref03_Norm_sp a (by omega)) ?_))
  rw [if_neg h]
  obtain ⟨k, rfl⟩ : ∃ k : Nat, n = (k : Int) := ⟨n.toNat, by omega⟩
  rw [Int.toNat_natCast]
  have l1 : lenZ 1 ≤ 1 := lb_len.2 (by decide)
  have l2 : lenZ (zv a) ≤ 100 := Nat.le_trans (wz_len a) ha
  simp only [getD_c0, dW_1, els_dL, List.length_map]
  have lb_ : (wz (zv a)).mag.length = lenZ (zv a) := rfl
  rw [lb_]
  refine wp_decs (fun h1 => wp_decs (fun h2 => wp_ret ?_) (fun h2 => ?_)) (fun h1 => ?_)
  · rw [show (20 : Nat) = 19 + 1 from rfl, powR, if_neg (by omega), if_pos (by omega)]; rfl
  · exact ref03_Pow_loop 21 20 21 k 1 (zv a) (by omega) (by omega) (by omega) (by omega) l2 (fun h => by omega)
  · exact ref03_Pow_loop 21 20 21 k 1 (zv a) (by omega) (by omega) (by omega) (by omega) l2 (fun _ => by omega)
end Go.Proofs.YtjmddikeadbmjaaGreat
set_option maxRecDepth 100000
namespace Go.Proofs.YtjmddikeadbmjaaGreat

theorem inr (z : Int) (h1 : -100000 ≤ z := by decide) (h2 : z ≤ 100000 := by decide) : inR z := by unfold inR; omega
theorem lenZ_le {z : Int} {k : Nat} (h : z.natAbs < B ^ k) : lenZ z ≤ k := lb_len.2 h
theorem lenZ_lt (z : Int) : z.natAbs < B ^ lenZ z := lb_len.1 (Nat.le_refl _)
theorem lenZ_add (x y : Int) : lenZ (x + y) ≤ max (lenZ x) (lenZ y) + 1 := by
  refine lenZ_le ?_
  have h1 : x.natAbs < B ^ max (lenZ x) (lenZ y) := Nat.lt_of_lt_of_le (lenZ_lt x) (Nat.pow_le_pow_right B_pos (Nat.le_max_left _ _))
  have h2 : y.natAbs < B ^ max (lenZ x) (lenZ y) := Nat.lt_of_lt_of_le (lenZ_lt y) (Nat.pow_le_pow_right B_pos (Nat.le_max_right _ _))
  have h3 := Int.natAbs_add_le x y
  rw [Nat.pow_succ]
  generalize B ^ max (lenZ x) (lenZ y) = q at *
  rw [B_eq]; omega
theorem lenZ_neg (x : Int) : lenZ (-x) = lenZ x := by unfold lenZ; rw [Int.natAbs_neg]
theorem lenZ_zv (w : Wh) : lenZ (zv w) ≤ w.mag.length := wz_len w
theorem wzl (z : Int) : (wz z).mag.length = lenZ z := rfl
theorem powR_len : ∀ (k n : Nat) (out base : Int), lenZ out ≤ 100 → lenZ (powR k n out base).1 ≤ 100
  | 0, _, out, base, h => h
  | k + 1, n, out, base, h => by
    have z0 : lenZ 0 ≤ 100 := by unfold lenZ; rw [show Int.natAbs 0 = 0 from rfl, lb_zero]; simp
    rw [powR]
    generalize (if n % 2 = 1 then out * base else out) = o
    split
    · exact h
    split
    · exact z0
    split
    · exact z0
    rename_i h3
    split
    · show lenZ o ≤ 100; omega
    · exact powR_len k _ o _ (by omega)
theorem dmZ_spec (x y : Int) (hy : y ≠ 0) : (dmZ x y).1 * y + (dmZ x y).2 = x ∧ (dmZ x y).1.natAbs ≤ x.natAbs + 1 ∧ (dmZ x y).2.natAbs < y.natAbs ∧ (0 < y → 0 ≤ (dmZ x y).2) ∧ (y < 0 → (dmZ x y).2 ≤ 0) := by
  have hdm := Nat.div_add_mod x.natAbs y.natAbs
  have hml := Nat.mod_lt x.natAbs (show 0 < y.natAbs by omega)
  have hdl := Nat.div_le_self x.natAbs y.natAbs
  unfold dmZ
  generalize x.natAbs / y.natAbs = q at *
  generalize x.natAbs % y.natAbs = r at *
  generalize hX : x.natAbs = X at *
  generalize hY : y.natAbs = Y at *
  have hdm' : (Y : Int) * (q : Int) + (r : Int) = (X : Int) := by rw [← hdm]; simp
  by_cases hx0 : x < 0 <;> by_cases hy0 : y < 0
  · obtain rfl : x = -(X : Int) := by omega
    obtain rfl : y = -(Y : Int) := by omega
    simp only [hx0, hy0, if_true]
    refine ⟨by rw [Int.mul_neg, Int.mul_comm]; omega, by omega, by omega, fun h => by first | omega | exact False.elim h, fun h => by first | omega | exact False.elim h⟩
  · obtain rfl : x = -(X : Int) := by omega
    obtain rfl : y = (Y : Int) := by omega
    simp only [hx0, hy0, if_true]
    rw [if_neg (by simp)]
    split
    · rename_i h0
      subst h0
      refine ⟨by rw [Int.neg_mul, Int.mul_comm]; omega, by omega, by omega, fun h => by first | omega | exact False.elim h, fun h => by first | omega | exact False.elim h⟩
    · refine ⟨by rw [Int.sub_mul, Int.neg_mul, Int.mul_comm (q : Int)]; omega, by omega, by omega, fun h => by first | omega | exact False.elim h, fun h => by first | omega | exact False.elim h⟩
  · obtain rfl : x = (X : Int) := by omega
    obtain rfl : y = -(Y : Int) := by omega
    simp only [hx0, hy0, if_false]
    rw [if_neg (by simp)]
    split
    · rename_i h0
      subst h0
      refine ⟨by rw [Int.neg_mul_neg, Int.mul_comm]; omega, by omega, by omega, fun h => by first | omega | exact False.elim h, fun h => by first | omega | exact False.elim h⟩
    · refine ⟨by rw [Int.sub_mul, Int.neg_mul_neg, Int.mul_comm (q : Int)]; omega, by omega, by omega, fun h => by first | omega | exact False.elim h, fun h => by first | omega | exact False.elim h⟩
  · obtain rfl : x = (X : Int) := by omega
    obtain rfl : y = (Y : Int) := by omega
    simp only [hx0, hy0, if_false, if_true]
    refine ⟨by rw [Int.mul_comm]; omega, by omega, by omega, fun h => by first | omega | exact False.elim h, fun h => by first | omega | exact False.elim h⟩
theorem lenZ_dm (x y : Int) (hy : y ≠ 0) : lenZ (dmZ x y).1 ≤ lenZ x + 1 ∧ lenZ (dmZ x y).2 ≤ lenZ y := by
  obtain ⟨_, h1, h2, _⟩ := dmZ_spec x y hy
  have a := lenZ_lt x
  have b := lenZ_lt y
  refine ⟨lenZ_le ?_, lenZ_le (Nat.lt_trans h2 b)⟩
  rw [Nat.pow_succ]
  have := Bp (lenZ x)
  have hB := B_eq
  generalize B ^ lenZ x = P at *
  rw [hB]; omega
end Go.Proofs.YtjmddikeadbmjaaGreat
set_option maxRecDepth 100000
namespace Go.Proofs.YtjmddikeadbmjaaGreat

def len8tab : ByteArray := (⟨#[0, 1, 2, 2, 3, 3, 3, 3, 4, 4, 4, 4, 4, 4, 4, 4, 5, 5, 5, 5, 5, 5, 5, 5, 5, 5, 5, 5, 5, 5, 5, 5, 6, 6, 6, 6, 6, 6, 6, 6, 6, 6, 6, 6, 6, 6, 6, 6, 6, 6, 6, 6, 6, 6, 6, 6, 6, 6, 6, 6, 6, 6, 6, 6, 7, 7, 7, 7, 7, 7, 7, 7, 7, 7, 7, 7, 7, 7, 7, 7, 7, 7, 7, 7, 7, 7, 7, 7, 7, 7, 7, 7, 7, 7, 7, 7, 7, 7, 7, 7, 7, 7, 7, 7, 7, 7, 7, 7, 7, 7, 7, 7, 7, 7, 7, 7, 7, 7, 7, 7, 7, 7, 7, 7, 7, 7, 7, 7, 8, 8, 8, 8, 8, 8, 8, 8, 8, 8, 8, 8, 8, 8, 8, 8, 8, 8, 8, 8, 8, 8, 8, 8, 8, 8, 8, 8, 8, 8, 8, 8, 8, 8, 8, 8, 8, 8, 8, 8, 8, 8, 8, 8, 8, 8, 8, 8, 8, 8, 8, 8, 8, 8, 8, 8, 8, 8, 8, 8, 8, 8, 8, 8, 8, 8, 8, 8, 8, 8, 8, 8, 8, 8, 8, 8, 8, 8, 8, 8, 8, 8, 8, 8, 8, 8, 8, 8, 8, 8, 8, 8, 8, 8, 8, 8, 8, 8, 8, 8, 8, 8, 8, 8, 8, 8, 8, 8, 8, 8, 8, 8, 8, 8, 8, 8, 8, 8, 8, 8, 8, 8, 8, 8, 8, 8, 8, 8]⟩ : ByteArray)
def len8 (i : Nat) : Nat := (len8tab.data.toList.getD i 0).toNat
theorem len8_ok : ((List.range 256).all fun i => decide (i < 2 ^ len8 i) && (i == 0 || decide (2 ^ len8 i ≤ 2 * i)) && decide (len8 i ≤ 8)) = true := by kernel_rfl
theorem len8_is {i : Nat} (h : i < 256) : i < 2 ^ len8 i ∧ (0 < i → 2 ^ len8 i ≤ 2 * i) ∧ len8 i ≤ 8 := by
  have := List.all_eq_true.1 len8_ok i (List.mem_range.2 h)
  simp only [Bool.and_eq_true, decide_eq_true_eq, Bool.or_eq_true, beq_iff_eq] at this
  exact ⟨this.1.1, fun h0 => by rcases this.1.2 with h | h <;> omega, this.2⟩
theorem wrapU8 {x : Int} (h1 : 0 ≤ x) (h2 : x < 256) : IntKind.wrap .u8 x = x := by rw [IntKind.wrap_u8]; omega
theorem fdivN (x y : Nat) : Int.fdiv (x : Int) (y : Int) = ((x / y : Nat) : Int) := by
  rw [Int.fdiv_eq_ediv_of_nonneg _ (Int.natCast_nonneg _)]; rfl
theorem bits_Len32_ex (x : Nat) (hx : x < B) : ∃ k : Nat, Sp 166 [.int (x : Int)] [.int (k : Int)] ∧ k ≤ 32 ∧ x < 2 ^ k ∧ (0 < x → 2 ^ k ≤ 2 * x) := by
  have e16 : (2 : Int) ^ (min (Int.toNat 16) (IntKind.bits .u32)) = ((65536 : Nat) : Int) := by decide
  have e8 : (2 : Int) ^ (min (Int.toNat 8) (IntKind.bits .u32)) = ((256 : Nat) : Int) := by decide
  have hsz : (len8tab.size : Int) = 256 := by have : len8tab.size = 256 := by kernel_rfl
                                              omega
  rw [B_eq] at hx
  have tr := bits_Len32_tree 0 (.int (x : Int))
  rw [show (⟨#[0, 1, 2, 2, 3, 3, 3, 3, 4, 4, 4, 4, 4, 4, 4, 4, 5, 5, 5, 5, 5, 5, 5, 5, 5, 5, 5, 5, 5, 5, 5, 5, 6, 6, 6, 6, 6, 6, 6, 6, 6, 6, 6, 6, 6, 6, 6, 6, 6, 6, 6, 6, 6, 6, 6, 6, 6, 6, 6, 6, 6, 6, 6, 6, 7, 7, 7, 7, 7, 7, 7, 7, 7, 7, 7, 7, 7, 7, 7, 7, 7, 7, 7, 7, 7, 7, 7, 7, 7, 7, 7, 7, 7, 7, 7, 7, 7, 7, 7, 7, 7, 7, 7, 7, 7, 7, 7, 7, 7, 7, 7, 7, 7, 7, 7, 7, 7, 7, 7, 7, 7, 7, 7, 7, 7, 7, 7, 7, 8, 8, 8, 8, 8, 8, 8, 8, 8, 8, 8, 8, 8, 8, 8, 8, 8, 8, 8, 8, 8, 8, 8, 8, 8, 8, 8, 8, 8, 8, 8, 8, 8, 8, 8, 8, 8, 8, 8, 8, 8, 8, 8, 8, 8, 8, 8, 8, 8, 8, 8, 8, 8, 8, 8, 8, 8, 8, 8, 8, 8, 8, 8, 8, 8, 8, 8, 8, 8, 8, 8, 8, 8, 8, 8, 8, 8, 8, 8, 8, 8, 8, 8, 8, 8, 8, 8, 8, 8, 8, 8, 8, 8, 8, 8, 8, 8, 8, 8, 8, 8, 8, 8, 8, 8, 8, 8, 8, 8, 8, 8, 8, 8, 8, 8, 8, 8, 8, 8, 8, 8, 8, 8, 8, 8, 8, 8, 8]⟩ : ByteArray) = len8tab from rfl] at tr
  simp only [toInt_int, e16, e8, fdivN, hsz] at tr
  have fin : ∀ i c : Nat, i < 256 → c ≤ 24 → IntKind.wrap .i64 ((c : Int) + IntKind.wrap .i64 (((len8tab.data.toList.getD (Int.toNat (IntKind.wrap .u8 (i : Int))) 0).toNat : Nat) : Int)) = ((c + len8 i : Nat) : Int) := by
    intro i c hi hc
    have h8 := (len8_is hi).2.2
    rw [wrapU8 (by omega) (by omega), Int.toNat_natCast]
    show IntKind.wrap .i64 ((c : Int) + IntKind.wrap .i64 ((len8 i : Nat) : Int)) = _
    rw [wrap64 (x := ((len8 i : Nat) : Int)) (by omega) (by omega), wrap64 (by omega) (by omega)]; omega
  have up : ∀ i c : Nat, i < 256 → 0 < i → i = x / 2 ^ c → x < 2 ^ (c + len8 i) ∧ 2 ^ (c + len8 i) ≤ 2 * x := by
    intro i c hi h0 he
    obtain ⟨h1, h2, _⟩ := len8_is hi
    have h3 := h2 h0
    rw [Nat.pow_add]
    have hp : 0 < 2 ^ c := Nat.pow_pos (by decide)
    constructor
    · have : x / 2 ^ c < 2 ^ len8 i := by omega
      rw [Nat.div_lt_iff_lt_mul hp] at this
      rwa [Nat.mul_comm]
    · have h4 : i * 2 ^ c ≤ x := by rw [he]; exact Nat.div_mul_le_self _ _
      calc 2 ^ c * 2 ^ len8 i ≤ 2 ^ c * (2 * i) := Nat.mul_le_mul_left _ h3
        _ = 2 * (i * 2 ^ c) := by rw [Nat.mul_left_comm, Nat.mul_comm (2 ^ c) i]
        _ ≤ 2 * x := Nat.mul_le_mul_left _ h4
  by_cases h1 : 65536 ≤ x
  · by_cases h2 : 256 ≤ x / 65536
    · have hi : x / 65536 / 256 < 256 := by omega
      obtain ⟨u1, u2⟩ := up _ 24 hi (by omega) (by rw [Nat.div_div_eq_div_mul])
      have f1 := fin _ 24 hi (by omega)
      refine ⟨24 + len8 (x / 65536 / 256), sound_ 0 tr ?_, by have := (len8_is hi).2.2; omega, u1, fun _ => u2⟩
      refine wp_dec (by omega) (wp_tt (by decide) (wp_dec (by omega) (wp_tt (by decide) (wp_dec (by rw [wrapU8 (by omega) (by omega)]; omega) (wp_dec (by rw [wrapU8 (by omega) (by omega)]; omega) (wp_ret ?_))))))
      rw [show IntKind.wrap .i64 (16 + 8) = ((24 : Nat) : Int) by decide, f1]
    · have hi : x / 65536 < 256 := by omega
      obtain ⟨u1, u2⟩ := up _ 16 hi (by omega) (by rfl)
      have f1 := fin _ 16 hi (by omega)
      refine ⟨16 + len8 (x / 65536), sound_ 0 tr ?_, by have := (len8_is hi).2.2; omega, u1, fun _ => u2⟩
      refine wp_dec (by omega) (wp_tt (by decide) (wp_ndec (by omega) (wp_dec (by rw [wrapU8 (by omega) (by omega)]; omega) (wp_dec (by rw [wrapU8 (by omega) (by omega)]; omega) (wp_ret ?_)))))
      rw [show (16 : Int) = ((16 : Nat) : Int) from rfl, f1]
  · by_cases h2 : 256 ≤ x
    · have hi : x / 256 < 256 := by omega
      obtain ⟨u1, u2⟩ := up _ 8 hi (by omega) (by rfl)
      have f1 := fin _ 8 hi (by omega)
      refine ⟨8 + len8 (x / 256), sound_ 0 tr ?_, by have := (len8_is hi).2.2; omega, u1, fun _ => u2⟩
      refine wp_ndec (by omega) (wp_dec (by omega) (wp_tt (by decide) (wp_dec (by rw [wrapU8 (by omega) (by omega)]; omega) (wp_dec (by rw [wrapU8 (by omega) (by omega)]; omega) (wp_ret ?_)))))
      rw [show IntKind.wrap .i64 (0 + 8) = ((8 : Nat) : Int) by decide, f1]
    · have hi : x < 256 := by omega
      have f1 := fin _ 0 hi (by omega)
      have h8 := len8_is hi
      refine ⟨0 + len8 x, sound_ 0 tr ?_, by omega, by rw [Nat.zero_add]; exact h8.1, fun h0 => by rw [Nat.zero_add]; exact h8.2.1 h0⟩
      refine wp_ndec (by omega) (wp_ndec (by omega) (wp_dec (by rw [wrapU8 (by omega) (by omega)]; omega) (wp_dec (by rw [wrapU8 (by omega) (by omega)]; omega) (wp_ret ?_))))
      rw [show (0 : Int) = ((0 : Nat) : Int) from rfl, f1]
/-- How far a limb is to be shifted. -/
theorem bits_Lz_ex (x : Nat) (hx : x < B) (h0 : 0 < x) : ∃ s : Nat, Sp 160 [.int (x : Int)] [.int (s : Int)] ∧ s < 32 ∧ x * 2 ^ s < B ∧ B ≤ 2 * (x * 2 ^ s) := by
  obtain ⟨k, h1, h2, h3, h4⟩ := bits_Len32_ex x hx
  have h5 := h4 h0
  have hk : 0 < k := by
    rcases Nat.eq_zero_or_pos k with e | e
    · subst e; simp at h3; omega
    · exact e
  have hb : B = 2 ^ k * 2 ^ (32 - k) := by rw [← Nat.pow_add, show k + (32 - k) = 32 by omega]; rfl
  have hp : 0 < 2 ^ (32 - k) := Nat.pow_pos (by decide)
  refine ⟨32 - k, sound_ 0 (bits_LeadingZeros32_tree _ _) (wp_call h1 (wp_ret ?_)), by omega, ?_, ?_⟩
  · simp only [getD_c0, toInt_int]
    rw [wrap64 (by omega) (by omega)]; congr 2; omega
  · rw [hb]; exact Nat.mul_lt_mul_of_pos_right h3 hp
  · rw [hb, ← Nat.mul_assoc]; exact Nat.mul_le_mul_right _ h5
theorem nv_inj {l m : List Limb} (hl : l.length = m.length) (h : nv l = nv m) : l = m := by
  apply List.ext_getElem hl
  intro i g1 g2
  apply BitVec.eq_of_toNat_eq
  rw [nv_limb l i g1, nv_limb m i g2, h]
/-- A number as so many limbs. -/
theorem nv_pad {v k : Nat} (h : v < B ^ k) : ∃ q : List Limb, q.length = k ∧ nv q = v := by
  have h2 := lb_len.2 h
  refine ⟨lb v ++ List.replicate (k - (lb v).length) 0, by simp; omega, ?_⟩
  rw [nv_append, nv_zeros, nv_lb]; simp
theorem or64 {X Y : Nat} (hX : X < 18446744073709551616) (hY : Y < 18446744073709551616) : bits_ .or .u64 (X : Int) (Y : Int) = ((X ||| Y : Nat) : Int) := by
  have h : bits_ .or .u64 (X : Int) (Y : Int) = bits .or .u64 (X : Int) (Y : Int) := by unfold bits_ bits; simp
  rw [h, u64_or_nat X Y hX hY]
theorem or_shl {x c s : Nat} (hx : x < B) (hs : s < 32) (hc : c < 2 ^ s) : bits_ .or .u64 ((x * 2 ^ s : Nat) : Int) (c : Int) = ((x * 2 ^ s + c : Nat) : Int) ∧ x * 2 ^ s + c < 9223372036854775808 := by
  have h2 : 2 ^ s ≤ 2 ^ 31 := Nat.pow_le_pow_right (by decide) (by omega)
  have h3 : x * 2 ^ s ≤ (B - 1) * 2 ^ 31 := Nat.mul_le_mul (by omega) h2
  rw [B_eq] at *
  refine ⟨?_, by omega⟩
  rw [or64 (by omega) (by omega)]
  congr 1
  have := Nat.shiftLeft_add_eq_or_of_lt (i := s) (b := c) hc x
  rw [Nat.shiftLeft_eq] at this
  exact this.symm
theorem pw_s {s : Nat} (hs : s < 32) : (2 : Int) ^ (min (Int.toNat (IntKind.wrap .u64 (s : Int))) (IntKind.bits .u64)) = ((2 ^ s : Nat) : Int) := by
  rw [wrapU64 (by omega) (by omega), Int.toNat_natCast, show IntKind.bits .u64 = 64 from rfl, Nat.min_eq_left (by omega)]; simp
theorem nat_up_ex (l : List Limb) (s : Nat) (hs : s < 32) (hl : l.length ≤ 1000000) : ∃ q : List Limb, q.length = l.length + 1 ∧ nv q = nv l * 2 ^ s ∧ Sp 161 [dL l, .int (s : Int)] [dL q] := by
  have hps : 2 ^ s ≤ 2 ^ 31 := Nat.pow_le_pow_right (by decide) (by omega)
  have hs0 : 0 < 2 ^ s := Nat.pow_pos (by decide)
  have hv : nv l * 2 ^ s < B ^ (l.length + 1) := by
    rw [Nat.pow_succ]
    exact Nat.mul_lt_mul'' (nv_lt l) (by rw [B_eq]; omega)
  obtain ⟨q, hq1, hq2⟩ := nv_pad hv
  refine ⟨q, hq1, hq2, sound_ (l.length + 2) (nat_up_tree _ _ _) ?_⟩
  simp only [dA_0, dA_1, dA_2, dC_0, dC_1, dC_2, dC_3, dC_4, dN_0, dN_1, dN_2, els_sl, els_dI, els_dL, List.length_map, Int.toNat_natCast, toInt_int, toInt_dB, toBool_bool, getD_c0, getD_c1, int_beq, int_bne, not_dec, dInt_dB, Int.toNat_zero]
  rw [wrap64 (by omega) (by omega)]
  refine wp_dec (by omega) (wp_dec (by omega) (wp_dec (by simp only [bigN]; omega) ?_))
  rw [show (l.length : Int) + 1 = ((l.length + 1 : Nat) : Int) by omega, Int.toNat_natCast]
  have key := loop_up (P := Tryz.prog) (md := md) l.length (fun m i (t : List Limb × Nat) => nat_up_l4 (l.length + 2) m (dL l) (s : Int) ((t.1 ++ List.replicate (l.length + 1 - i) 0).map dB) (t.2 : Int) (dL l) (l.length : Int) (i : Int)) (fun _ _ => [dL q])
    (fun i t => t.1.length = i ∧ t.2 < 2 ^ s ∧ nv t.1 + B ^ i * t.2 = (nv l % B ^ i) * 2 ^ s)
    (fun m t ⟨h1, h2, h3⟩ => by
      have hlen : (t.1 ++ List.replicate (l.length + 1 - l.length) (0 : Limb)).length = l.length + 1 := by simp [h1]
      have hc : t.2 < B := by rw [B_eq]; omega
      rw [Nat.mod_eq_of_lt (nv_lt l)] at h3
      simp only [nat_up_l4_succ, dA_0, dA_1, dA_2, dC_0, dC_1, dC_2, dC_3, dC_4, dN_0, dN_1, dN_2, els_sl, els_dI, els_dL, List.length_map, Int.toNat_natCast, toInt_int, toInt_dB, toBool_bool, getD_c0, getD_c1, int_beq, int_bne, not_dec, dInt_dB, Int.toNat_zero, hlen]
      rw [B_eq] at hc
      rw [wrapU32 (x := (t.2 : Int)) (by omega) (by omega)]
      rw [← B_eq] at hc
      refine wp_ndec (by omega) (wp_dec (by omega) (wp_dec (by omega) (wp_ret ?_)))
      rw [dB_ofNat hc, map_set, List.set_append_right _ _ (by omega), h1, Nat.sub_self, show l.length + 1 - l.length = 1 by omega]
      have : t.1 ++ [BitVec.ofNat 32 t.2] = q := nv_inj (by simp [h1, hq1]) (by rw [nv_snoc, h1, ofNat_lt hc, h3, hq2])
      rw [← this]; rfl)
    (fun m i t hi ⟨h1, h2, h3⟩ ih => by
      have gx := nv_limb l i hi
      have xl : nv l / B ^ i % B < B := Nat.mod_lt _ B_pos
      have hms : nv l % B ^ (i + 1) = nv l % B ^ i + B ^ i * (nv l / B ^ i % B) := Nat.mod_pow_succ
      have hlen : (t.1 ++ List.replicate (l.length + 1 - i) (0 : Limb)).length = l.length + 1 := by simp [h1]; omega
      have gX : (l.map dB).getD i D.nil = D.int ((nv l / B ^ i % B : Nat) : Int) := by rw [getD_map (List.getElem?_eq_getElem hi), ← gx]; rfl
      simp only [nat_up_l4_succ, dA_0, dA_1, dA_2, dC_0, dC_1, dC_2, dC_3, dC_4, dN_0, dN_1, dN_2, els_sl, els_dI, els_dL, List.length_map, Int.toNat_natCast, toInt_int, toInt_dB, toBool_bool, getD_c0, getD_c1, int_beq, int_bne, not_dec, dInt_dB, Int.toNat_zero, gX, hlen, pw_s hs, wrap_succ (show i < 9223372036854775807 by omega)]
      generalize nv l / B ^ i % B = x at *
      obtain ⟨ho, hT⟩ := or_shl xl hs h2
      have hxB := xl
      rw [B_eq] at hxB
      rw [wrapU64 (x := (x : Int)) (by omega) (by omega), ← Int.natCast_mul, wrapU64 (x := ((x * 2 ^ s : Nat) : Int)) (by omega) (by omega), ho]
      generalize hTT : x * 2 ^ s + t.2 = T at *
      have hTl := Nat.mod_lt T B_pos
      have t4 : IntKind.wrap .u32 (T : Int) = ((T % B : Nat) : Int) := by rw [IntKind.wrap_u32, B_eq]; omega
      have hset : ((t.1 ++ List.replicate (l.length + 1 - i) 0).map dB).set i (D.int ((T % B : Nat) : Int)) = ((t.1 ++ [BitVec.ofNat 32 (T % B)]) ++ List.replicate (l.length + 1 - (i + 1)) 0).map dB := by
        rw [dB_ofNat hTl, map_set, List.set_append_right _ _ (by omega), h1, Nat.sub_self, show l.length + 1 - i = (l.length + 1 - (i + 1)) + 1 by omega, List.replicate_succ, List.set_cons_zero]; simp
      rw [t4, hset, fdiv32]
      refine wp_dec (by omega) (wp_dec (by omega) (wp_dec (by omega) (wp_dec (by rw [wrapU64 (by omega) (by omega)]; omega) (wp_dec (by omega) (wp_dec (by omega) (wp_tt (by decide) ?_))))))
      refine ih (t.1 ++ [BitVec.ofNat 32 (T % B)], T / 4294967296) ⟨by simp [h1], ?_, ?_⟩
      · show T / B < 2 ^ s
        rw [Nat.div_lt_iff_lt_mul B_pos, ← hTT]
        have : x * 2 ^ s + 2 ^ s ≤ B * 2 ^ s := by rw [← Nat.succ_mul]; exact Nat.mul_le_mul_right _ xl
        rw [Nat.mul_comm (2 ^ s) B]; omega
      · show nv (t.1 ++ [BitVec.ofNat 32 (T % B)]) + B ^ (i + 1) * (T / B) = _
        rw [nv_snoc, h1, ofNat_lt hTl, hms, Nat.add_mul, ← h3, Nat.pow_succ, Nat.mul_assoc, Nat.mul_assoc (B ^ i) x, Nat.add_assoc, ← Nat.mul_add, Nat.mod_add_div, ← hTT, Nat.mul_add]
        omega)
    (l.length + 2) 0 ([], 0) (by omega) (by omega) ⟨rfl, hs0, by simp [Nat.mod_one, nv]⟩
  have e0 : (([] : List Limb) ++ List.replicate (l.length + 1 - 0) 0).map dB = List.replicate (l.length + 1) (D.int 0) := by simp [List.map_replicate]; rfl
  rw [e0] at key
  exact key
theorem down_limb (V s k : Nat) (hs : s < 32) : V / 2 ^ s / B ^ k % B = ((V / B ^ (k + 1) % B) * B + V / B ^ k % B) / 2 ^ s % B := by
  have hs0 : 0 < 2 ^ s := Nat.pow_pos (by decide)
  have hB : B = 2 ^ s * 2 ^ (32 - s) := by rw [← Nat.pow_add, show s + (32 - s) = 32 by omega]; rfl
  rw [Nat.div_div_eq_div_mul, Nat.mul_comm (2 ^ s), ← Nat.div_div_eq_div_mul, Nat.pow_succ, ← Nat.div_div_eq_div_mul]
  generalize V / B ^ k = W
  have h1 : W = (W / B % B * B + W % B) + 2 ^ s * (B * (2 ^ (32 - s) * (W / B / B))) := by
    have e1 := Nat.div_add_mod W B
    have e2 := Nat.div_add_mod (W / B) B
    have e3 : 2 ^ s * (B * (2 ^ (32 - s) * (W / B / B))) = B * (B * (W / B / B)) := by
      rw [Nat.mul_left_comm, ← Nat.mul_assoc (2 ^ s), ← hB]
    rw [e3, Nat.mul_comm (W / B % B) B]
    have e4 : B * (W / B) = B * (B * (W / B / B)) + B * (W / B % B) := by rw [← Nat.mul_add, e2]
    omega
  have h2 : W / 2 ^ s = (W / B % B * B + W % B) / 2 ^ s + B * (2 ^ (32 - s) * (W / B / B)) := by
    have : W / 2 ^ s = ((W / B % B * B + W % B) + 2 ^ s * (B * (2 ^ (32 - s) * (W / B / B)))) / 2 ^ s := by rw [← h1]
    rw [this, Nat.add_mul_div_left _ _ hs0]
  rw [h2, Nat.add_mul_mod_self_left]
theorem nat_down_sp (l : List Limb) (s : Nat) (hs : s < 32) (hl : l.length ≤ 1000000) : Sp 165 [dL l, .int (s : Int)] [dL (lb (nv l / 2 ^ s))] := by
  refine sound_ (l.length + 1) (nat_down_tree _ _ _) ?_
  simp only [dA_0, dA_1, dA_2, dC_0, dC_1, dC_2, dC_3, dC_4, dN_0, dN_1, dN_2, els_sl, els_dI, els_dL, List.length_map, Int.toNat_natCast, toInt_int, toInt_dB, toBool_bool, getD_c0, getD_c1, int_beq, int_bne, not_dec, dInt_dB, Int.toNat_zero]
  refine wp_dec (by omega) (wp_dec (by omega) (wp_dec (by simp only [bigN]; omega) ?_))
  have key := loop_down (P := Tryz.prog) (md := md) (fun m k (hi : List Limb) => nat_down_l4 (l.length + 1) m (dL l) (s : Int) ((List.replicate k 0 ++ hi).map dB) ((nv l / B ^ k % B : Nat) : Int) ((k : Int) - 1)) (fun _ _ => [dL (lb (nv l / 2 ^ s))])
    (fun k hi => k ≤ l.length ∧ hi.length = l.length - k ∧ nv hi = nv l / 2 ^ s / B ^ k)
    (fun m hi ⟨h0, h1, h2⟩ => by
      simp only [nat_down_l4_succ, List.replicate_zero, List.nil_append, dA_0, dA_1, dA_2, dC_0, dC_1, dC_2, dC_3, dC_4, dN_0, dN_1, dN_2, els_sl, els_dI, els_dL, List.length_map, Int.toNat_natCast, toInt_int, toInt_dB, toBool_bool, getD_c0, getD_c1, int_beq, int_bne, not_dec, dInt_dB, Int.toNat_zero]
      refine wp_ndec (by omega) (wp_call (nat_trim_sp hi (by omega)) (wp_ret ?_))
      rw [h2, Nat.pow_zero, Nat.div_one]; rfl)
    (fun m k hi ⟨h0, h1, h2⟩ ih => by
      have hk : k < l.length := by omega
      have gx := nv_limb l k hk
      have xl : nv l / B ^ k % B < B := Nat.mod_lt _ B_pos
      have yl : nv l / B ^ (k + 1) % B < B := Nat.mod_lt _ B_pos
      have hd := down_limb (nv l) s k hs
      have hlen : (List.replicate (k + 1) (0 : Limb) ++ hi).length = l.length := by simp [h1]; omega
      have gX : (l.map dB).getD k D.nil = D.int ((nv l / B ^ k % B : Nat) : Int) := by rw [getD_map (List.getElem?_eq_getElem hk), ← gx]; rfl
      have b64 : (2 : Int) ^ (min (Int.toNat 32) (IntKind.bits .u64)) = 4294967296 := by decide
      have rc := ih (BitVec.ofNat 32 (((nv l / B ^ (k + 1) % B) * B + nv l / B ^ k % B) / 2 ^ s % B) :: hi) ⟨by omega, by simp [h1]; omega, by
        rw [nv, ofNat_lt (Nat.mod_lt _ B_pos), h2, ← hd, Nat.pow_succ, ← Nat.div_div_eq_div_mul]
        exact Nat.mod_add_div _ _⟩
      simp only [nat_down_l4_succ, show ((k + 1 : Nat) : Int) - 1 = (k : Int) by omega, dA_0, dA_1, dA_2, dC_0, dC_1, dC_2, dC_3, dC_4, dN_0, dN_1, dN_2, els_sl, els_dI, els_dL, List.length_map, Int.toNat_natCast, toInt_int, toInt_dB, toBool_bool, getD_c0, getD_c1, int_beq, int_bne, not_dec, dInt_dB, Int.toNat_zero, gX, hlen, pw_s hs, b64]
      generalize nv l / B ^ k % B = x at *
      generalize nv l / B ^ (k + 1) % B = y at *
      have hxB := xl
      have hyB := yl
      rw [B_eq] at hxB hyB
      have t1 : IntKind.wrap .u64 ((y : Int) * 4294967296) = ((y * 4294967296 : Nat) : Int) := by rw [wrapU64 (by omega) (by omega)]; omega
      rw [t1, wrapU64 (x := (x : Int)) (by omega) (by omega), or_limb' hyB hxB, fdivN]
      have t4 : IntKind.wrap .u32 (((y * 4294967296 + x) / 2 ^ s : Nat) : Int) = (((y * B + x) / 2 ^ s % B : Nat) : Int) := by
        rw [show y * 4294967296 + x = y * B + x from rfl]
        generalize (y * B + x) / 2 ^ s = T
        rw [IntKind.wrap_u32, B_eq]; omega
      have hTl := Nat.mod_lt ((y * B + x) / 2 ^ s) B_pos
      have hset : ((List.replicate (k + 1) 0 ++ hi).map dB).set k (D.int (((y * B + x) / 2 ^ s % B : Nat) : Int)) = (List.replicate k 0 ++ (BitVec.ofNat 32 ((y * B + x) / 2 ^ s % B) :: hi)).map dB := by
        rw [dB_ofNat hTl, map_set, List.replicate_succ', List.append_assoc, List.set_append_right _ _ (by simp)]; simp
      rw [t4, hset, wrap64 (by omega) (by omega)]
      refine wp_dec (by omega) (wp_tt (by decide) (wp_dec (by omega) (wp_dec (by omega) (wp_dec (by rw [wrapU64 (by omega) (by omega)]; omega) (wp_dec (by omega) (wp_dec (by omega) (wp_dec (by omega) (wp_dec (by omega) ?_))))))))
      exact rc)
    (l.length + 1) l.length [] (by omega) ⟨by omega, by simp, by
      rw [Nat.div_eq_of_lt (Nat.lt_of_le_of_lt (Nat.div_le_self _ _) (nv_lt l))]; rfl⟩
  rw [List.append_nil, Nat.div_eq_of_lt (nv_lt l), Nat.zero_mod] at key
  have e0 : (List.replicate l.length (0 : Limb)).map dB = List.replicate l.length (D.int 0) := by rw [List.map_replicate]; rfl
  rw [e0] at key
  rw [wrap64 (by omega) (by omega)]
  exact key
theorem est_upper {U D D2 U3 p g : Nat} (hD : D < (D2 + 1) * p) (hU : U3 * p ≤ U) (hg : g * D2 ≤ U3) (hg1 : g ≤ D2 + 1) (hD0 : 0 < D) : g ≤ U / D + 1 := by
  rcases Nat.eq_zero_or_pos g with h0 | h0
  · rw [h0]; exact Nat.zero_le _
  obtain ⟨h, rfl⟩ : ∃ h, g = h + 1 := ⟨g - 1, by omega⟩
  refine Nat.succ_le_succ ((Nat.le_div_iff_mul_le hD0).2 ?_)
  have h1 : h * D ≤ h * ((D2 + 1) * p) := Nat.mul_le_mul_left _ (Nat.le_of_lt hD)
  have h2 : h * (D2 + 1) ≤ (h + 1) * D2 := by rw [Nat.mul_add, Nat.add_mul]; omega
  calc h * D ≤ h * ((D2 + 1) * p) := h1
    _ = h * (D2 + 1) * p := by rw [Nat.mul_assoc]
    _ ≤ (h + 1) * D2 * p := Nat.mul_le_mul_right _ h2
    _ ≤ U3 * p := Nat.mul_le_mul_right _ hg
    _ ≤ U := hU
theorem est_lower {U D D2 U3 p g : Nat} (hD : D2 * p ≤ D) (hU : U < (U3 + 1) * p) (hgt : U3 < g * D2) (hD0 : 0 < D) : U / D < g := by
  rw [Nat.div_lt_iff_lt_mul hD0]
  calc U < (U3 + 1) * p := hU
    _ ≤ g * D2 * p := Nat.mul_le_mul_right _ hgt
    _ = g * (D2 * p) := Nat.mul_assoc _ _ _
    _ ≤ g * D := Nat.mul_le_mul_left _ hD
/-- The guess is the quotient, or one more. -/
theorem nat_estimate_ex (xs ds : List Limb) (n : Nat) (hd : ds.length = n + 2) (hx : xs.length = n + 3) (hn : n ≤ 1000000) (htop : B ^ (n + 2) ≤ 2 * nv ds) (hU : nv xs < B * nv ds) :
    ∃ g : Nat, Sp 162 [dL xs, dL ds] [.int (g : Int)] ∧ nv xs / nv ds ≤ g ∧ g ≤ nv xs / nv ds + 1 ∧ g < B := by
  have xl := nv_lt xs
  have dl := nv_lt ds
  rw [hx] at xl
  rw [hd] at dl
  have hp := Bp n
  have a0 := nv_limb xs n (by omega)
  have a1 := nv_limb xs (n + 1) (by omega)
  have a2 := nv_limb xs (n + 2) (by omega)
  have d0 := nv_limb ds n (by omega)
  have d1 := nv_limb ds (n + 1) (by omega)
  have gx0 : (xs.map dB).getD n D.nil = D.int ((nv xs / B ^ n % B : Nat) : Int) := by rw [getD_map (List.getElem?_eq_getElem (show n < xs.length by omega)), ← a0]; rfl
  have gx1 : (xs.map dB).getD (n + 1) D.nil = D.int ((nv xs / B ^ (n + 1) % B : Nat) : Int) := by rw [getD_map (List.getElem?_eq_getElem (show n + 1 < xs.length by omega)), ← a1]; rfl
  have gx2 : (xs.map dB).getD (n + 2) D.nil = D.int ((nv xs / B ^ (n + 2) % B : Nat) : Int) := by rw [getD_map (List.getElem?_eq_getElem (show n + 2 < xs.length by omega)), ← a2]; rfl
  have gd0 : (ds.map dB).getD n D.nil = D.int ((nv ds / B ^ n % B : Nat) : Int) := by rw [getD_map (List.getElem?_eq_getElem (show n < ds.length by omega)), ← d0]; rfl
  have gd1 : (ds.map dB).getD (n + 1) D.nil = D.int ((nv ds / B ^ (n + 1) % B : Nat) : Int) := by rw [getD_map (List.getElem?_eq_getElem (show n + 1 < ds.length by omega)), ← d1]; rfl
  clear a0 a1 a2 d0 d1
  generalize nv xs = U at *
  generalize nv ds = D at *
  have eB2 : B ^ (n + 2) = B ^ n * (B * B) := by rw [Nat.pow_add]; rfl
  have eB3 : B ^ (n + 3) = B ^ n * (B * B * B) := by rw [Nat.pow_add]; rfl
  have e1U : U / B ^ (n + 1) = U / B ^ n / B := by rw [Nat.pow_succ, Nat.div_div_eq_div_mul]
  have e2U : U / B ^ (n + 2) = U / B ^ n / B / B := by rw [eB2, Nat.div_div_eq_div_mul, Nat.div_div_eq_div_mul]
  have e1D : D / B ^ (n + 1) = D / B ^ n / B := by rw [Nat.pow_succ, Nat.div_div_eq_div_mul]
  rw [e1U] at gx1
  rw [e2U] at gx2
  rw [e1D] at gd1
  have hD1 : D / B ^ n * B ^ n ≤ D := Nat.div_mul_le_self _ _
  have hD2 : D < (D / B ^ n + 1) * B ^ n := by have := Nat.lt_mul_div_succ D hp; rwa [Nat.mul_comm] at this
  have hU1 : U / B ^ n * B ^ n ≤ U := Nat.div_mul_le_self _ _
  have hU2 : U < (U / B ^ n + 1) * B ^ n := by have := Nat.lt_mul_div_succ U hp; rwa [Nat.mul_comm] at this
  have hU3 : U / B ^ n < B * B * B := by rw [Nat.div_lt_iff_lt_mul hp, Nat.mul_comm]; rwa [eB3] at xl
  have hDs : D / B ^ n < B * B := by rw [Nat.div_lt_iff_lt_mul hp, Nat.mul_comm]; rwa [eB2] at dl
  have hDt : B * B ≤ 2 * (D / B ^ n) + 1 := by
    have h1 : B ^ n * (B * B) < B ^ n * (2 * (D / B ^ n) + 2) := by
      rw [← eB2, Nat.mul_add]
      have : B ^ n * (2 * (D / B ^ n)) = 2 * (D / B ^ n * B ^ n) := by rw [Nat.mul_left_comm, Nat.mul_comm (B ^ n)]
      rw [this]
      have h3 : D < D / B ^ n * B ^ n + B ^ n := by rwa [Nat.add_mul, Nat.one_mul] at hD2
      omega
    have := Nat.lt_of_mul_lt_mul_left h1
    omega
  have hD0 : 0 < D := by
    rcases Nat.eq_zero_or_pos D with h | h
    · rw [h] at hU; omega
    · exact h
  have hUD : U / B ^ n < B * (D / B ^ n + 1) := by
    rw [Nat.div_lt_iff_lt_mul hp, Nat.mul_assoc]
    exact Nat.lt_trans hU (Nat.mul_lt_mul_of_pos_left hD2 B_pos)
  have hqB : U / D < B := by rw [Nat.div_lt_iff_lt_mul hD0]; exact hU
  generalize hU3e : U / B ^ n = U3 at *
  generalize hD2e : D / B ^ n = D2 at *
  have x0l := Nat.mod_lt U3 B_pos
  have x1l := Nat.mod_lt (U3 / B) B_pos
  have x2l : U3 / B / B < B := by rw [Nat.div_div_eq_div_mul, Nat.div_lt_iff_lt_mul (by decide)]; rwa [← Nat.mul_assoc]
  have y0l := Nat.mod_lt D2 B_pos
  have y1l : D2 / B < B := by rw [Nat.div_lt_iff_lt_mul B_pos]; exact hDs
  rw [Nat.mod_eq_of_lt x2l] at gx2
  rw [Nat.mod_eq_of_lt y1l] at gd1
  have eU : U3 = U3 % B + B * (U3 / B % B + B * (U3 / B / B)) := by
    rw [Nat.mod_add_div, Nat.mod_add_div]
  have eD : D2 = D2 % B + B * (D2 / B) := (Nat.mod_add_div _ _).symm
  generalize U3 % B = x0 at *
  generalize U3 / B % B = x1 at *
  generalize U3 / B / B = x2 at *
  generalize D2 % B = y0 at *
  generalize D2 / B = y1 at *
  have y1g : 2147483648 ≤ y1 := by rw [B_eq] at *; omega
  have x2y : x2 ≤ y1 := by rw [B_eq] at *; omega
  have fin : ∀ g : Nat, g < B → U / D ≤ g → g * D2 ≤ U3 → U / D ≤ g ∧ g ≤ U / D + 1 ∧ g < B := fun g h1 h2 h3 =>
    ⟨h2, est_upper hD2 hU1 h3 (by rw [B_eq] at *; omega) hD0, h1⟩
  have eH : U3 = (x2 * B + x1) * B + x0 := by rw [eU, Nat.add_mul, Nat.mul_add, Nat.mul_comm B (B * x2), Nat.mul_comm B x2, Nat.mul_comm B x1]; omega
  have b64 : (2 : Int) ^ (min (Int.toNat 32) (IntKind.bits .u64)) = 4294967296 := by decide
  have wy1 : IntKind.wrap .u64 (y1 : Int) = (y1 : Int) := by rw [B_eq] at *; exact wrapU64 (by omega) (by omega)
  have wy0 : IntKind.wrap .u64 (y0 : Int) = (y0 : Int) := by rw [B_eq] at *; exact wrapU64 (by omega) (by omega)
  have wx0 : IntKind.wrap .u64 (x0 : Int) = (x0 : Int) := by rw [B_eq] at *; exact wrapU64 (by omega) (by omega)
  have wx1 : IntKind.wrap .u64 (x1 : Int) = (x1 : Int) := by rw [B_eq] at *; exact wrapU64 (by omega) (by omega)
  have wx2 : IntKind.wrap .u64 (x2 : Int) = (x2 : Int) := by rw [B_eq] at *; exact wrapU64 (by omega) (by omega)
  have i1 : IntKind.wrap .i64 (((n + 2 : Nat) : Int) - 1) = ((n + 1 : Nat) : Int) := by rw [wrap64 (by omega) (by omega)]; omega
  have i2 : IntKind.wrap .i64 (((n + 2 : Nat) : Int) - 2) = ((n : Nat) : Int) := by rw [wrap64 (by omega) (by omega)]; omega
  have loop : ∀ (m N g r : Nat), g < m → g * y1 + r = x2 * B + x1 → U / D ≤ g → r < B →
      ∃ y : Nat, Tw (nat_estimate_l4 N m (dL xs) (dL ds) ((n + 2 : Nat) : Int) (g : Int) (r : Int)) [.int (y : Int)] ∧ U / D ≤ y ∧ y ≤ U / D + 1 ∧ y < B := by
    intro m
    induction m with
    | zero => intro N g r h; omega
    | succ m ih =>
      intro N g r hm he hq hr
      have gl : g < 18446744073709551616 := by
        have : g * 1 ≤ g * y1 := Nat.mul_le_mul_left _ (by omega)
        rw [B_eq] at *; omega
      have e1 : IntKind.wrap .u64 ((r : Int) + (y1 : Int)) = ((r + y1 : Nat) : Int) := by rw [B_eq] at *; rw [wrapU64 (by omega) (by omega)]; omega
      -- one step further
      have stp : 0 < g → U / D ≤ g - 1 → ∃ y : Nat, Tw (.br (decide (0 ≤ ((n + 1 : Nat) : Int))) (.br (decide (((n + 1 : Nat) : Int) < ((n + 2 : Nat) : Int))) (.br (decide ((0 : Int) ≤ 32)) (.br (decide (¬ (((r + y1) / 4294967296 : Nat) : Int) = 0)) (.ret [.int (IntKind.wrap .u64 ((g : Int) - 1))]) (nat_estimate_l4 N m (dL xs) (dL ds) ((n + 2 : Nat) : Int) (IntKind.wrap .u64 ((g : Int) - 1)) ((r + y1 : Nat) : Int))) .fail) .fail) .fail) [.int (y : Int)] ∧ U / D ≤ y ∧ y ≤ U / D + 1 ∧ y < B := by
        intro h0 hq'
        obtain ⟨h, rfl⟩ : ∃ h, g = h + 1 := ⟨g - 1, by omega⟩
        simp only [Nat.add_sub_cancel] at hq'
        have ew : IntKind.wrap .u64 (((h + 1 : Nat) : Int) - 1) = (h : Int) := by rw [wrapU64 (by omega) (by omega)]; omega
        rw [ew]
        have he' : h * y1 + (r + y1) = x2 * B + x1 := by rw [← he, Nat.add_mul]; omega
        by_cases hb : r + y1 < B
        · obtain ⟨y, t1, t2⟩ := ih N h (r + y1) (by omega) he' hq' hb
          refine ⟨y, wp_dec (by omega) (wp_dec (by omega) (wp_tt (by decide) (wp_ndec ?_ t1))), t2⟩
          rw [B_eq] at hb; omega
        · have hlt : h < B := by
            have h3 : x2 * B ≤ y1 * B := Nat.mul_le_mul_right _ x2y
            have h4 : h * y1 < B * y1 := by rw [Nat.mul_comm B y1]; omega
            exact Nat.lt_of_mul_lt_mul_right h4
          refine ⟨h, wp_dec (by omega) (wp_dec (by omega) (wp_tt (by decide) (wp_dec ?_ (wp_ret rfl)))), fin h hlt hq' ?_⟩
          · rw [B_eq] at hb; omega
          · have h5 : h * y0 ≤ B * B := Nat.mul_le_mul (by omega) (by omega)
            have h6 : B * B ≤ (r + y1) * B := Nat.mul_le_mul_right _ (by omega)
            rw [eH, ← he', eD, Nat.mul_add, Nat.add_mul, Nat.mul_left_comm h B y1, Nat.mul_comm B (h * y1)]
            omega
      simp only [nat_estimate_l4_succ, dA_0, dA_1, dA_2, dC_0, dC_1, dC_2, dC_3, dC_4, dN_0, dN_1, dN_2, els_sl, els_dI, els_dL, List.length_map, Int.toNat_natCast, toInt_int, toInt_dB, toBool_bool, getD_c0, getD_c1, int_beq, int_bne, not_dec, dInt_dB, Int.toNat_zero, hd, hx, i1, i2, gx0, gd0, gd1, wy1, wy0, wx0, e1, fdiv32]
      by_cases hgB : g < B
      · have c0 : ((g / 4294967296 : Nat) : Int) = 0 := by rw [B_eq] at hgB; omega
        have hrB := hr
        have x0B := x0l
        rw [B_eq] at hrB x0B
        have t1 : IntKind.wrap .u64 ((r : Int) * 4294967296) = ((r * 4294967296 : Nat) : Int) := by rw [wrapU64 (by omega) (by omega)]; omega
        have gy : g * y0 ≤ (B - 1) * (B - 1) := Nat.mul_le_mul (by omega) (by omega)
        have t2 : IntKind.wrap .u64 ((g : Int) * (y0 : Int)) = ((g * y0 : Nat) : Int) := by rw [← Int.natCast_mul]; rw [B_eq] at gy; exact wrapU64 (by omega) (by omega)
        rw [b64, t1, or_limb' hrB x0B, t2, c0]
        by_cases ht : r * B + x0 < g * y0
        · have hlow : U / D < g := est_lower hD1 hU2 (by
            rw [eH, ← he, eD, Nat.mul_add, Nat.add_mul, Nat.mul_left_comm g B y1, Nat.mul_comm B (g * y1)]; omega) hD0
          obtain ⟨y, s1, s2⟩ := stp (Nat.lt_of_le_of_lt (Nat.zero_le _) hlow) (Nat.le_sub_one_of_lt hlow)
          refine ⟨y, wp_tt (by decide) (wp_ndec (by omega) (wp_dec (by omega) (wp_dec (by omega) (wp_tt (by decide) (wp_dec (by omega) (wp_dec (by omega) (wp_dec ?_ s1))))))), s2⟩
          rw [B_eq] at ht; omega
        · refine ⟨g, wp_tt (by decide) (wp_ndec (by omega) (wp_dec (by omega) (wp_dec (by omega) (wp_tt (by decide) (wp_dec (by omega) (wp_dec (by omega) (wp_ndec ?_ (wp_ret rfl)))))))), fin g hgB hq ?_⟩
          · rw [B_eq] at ht; omega
          · rw [eH, ← he, eD, Nat.mul_add, Nat.add_mul, Nat.mul_left_comm g B y1, Nat.mul_comm B (g * y1)]; omega
      · obtain ⟨y, s1, s2⟩ := stp (by rw [B_eq] at hgB; omega) (by omega)
        refine ⟨y, wp_tt (by decide) (wp_dec ?_ s1), s2⟩
        rw [B_eq] at hgB; omega
  have hH : (x2 * B + x1) / y1 * y1 + (x2 * B + x1) % y1 = x2 * B + x1 := by rw [Nat.mul_comm]; exact Nat.div_add_mod _ _
  have hr0 : (x2 * B + x1) % y1 < B := Nat.lt_trans (Nat.mod_lt _ (by omega)) y1l
  have hq0 : U / D ≤ (x2 * B + x1) / y1 := by
    rw [Nat.le_div_iff_mul_le (by omega)]
    have h1 : U / D * D ≤ U := Nat.div_mul_le_self _ _
    have h2 : U / D * (D2 * B ^ n) < (U3 + 1) * B ^ n := Nat.lt_of_le_of_lt (Nat.le_trans (Nat.mul_le_mul_left _ hD1) h1) hU2
    rw [← Nat.mul_assoc] at h2
    have h3 := Nat.lt_of_mul_lt_mul_right h2
    have h4 : U / D * (B * y1) ≤ U / D * D2 := Nat.mul_le_mul_left _ (by omega)
    have h5 : U / D * y1 * B < (x2 * B + x1 + 1) * B := by
      have : U / D * (B * y1) = U / D * y1 * B := by rw [Nat.mul_comm B y1, Nat.mul_assoc]
      rw [← this, Nat.add_mul, Nat.one_mul]
      omega
    have := Nat.lt_of_mul_lt_mul_right h5
    omega
  obtain ⟨g, l1, l2⟩ := loop ((x2 * B + x1) / y1 + 1) ((x2 * B + x1) / y1 + 1) ((x2 * B + x1) / y1) ((x2 * B + x1) % y1) (by omega) hH hq0 hr0
  refine ⟨g, sound_ ((x2 * B + x1) / y1 + 1) (nat_estimate_tree _ _ _) ?_, l2⟩
  have x1B := x1l
  have x2B := x2l
  rw [B_eq] at x1B x2B
  have t1 : IntKind.wrap .u64 ((x2 : Int) * 4294967296) = ((x2 * 4294967296 : Nat) : Int) := by rw [wrapU64 (by omega) (by omega)]; omega
  have hne : decide ¬ (y1 : Int) = 0 = true := by simp; omega
  have eq1 : IntKind.wrap .u64 (Int.tdiv ((x2 * 4294967296 + x1 : Nat) : Int) (y1 : Int)) = (((x2 * B + x1) / y1 : Nat) : Int) := by
    rw [show Int.tdiv ((x2 * 4294967296 + x1 : Nat) : Int) (y1 : Int) = (((x2 * B + x1) / y1 : Nat) : Int) from rfl]
    have h1 : (x2 * B + x1) / y1 ≤ x2 * B + x1 := Nat.div_le_self _ _
    generalize (x2 * B + x1) / y1 = Q at h1 ⊢
    rw [B_eq] at h1
    exact wrapU64 (by omega) (by omega)
  have eq2 : Int.tmod ((x2 * 4294967296 + x1 : Nat) : Int) (y1 : Int) = (((x2 * B + x1) % y1 : Nat) : Int) := rfl
  simp only [dA_0, dA_1, dA_2, dC_0, dC_1, dC_2, dC_3, dC_4, dN_0, dN_1, dN_2, els_sl, els_dI, els_dL, List.length_map, Int.toNat_natCast, toInt_int, toInt_dB, toBool_bool, getD_c0, getD_c1, int_beq, int_bne, not_dec, dInt_dB, Int.toNat_zero, hd, hx, i1, gx1, gx2, gd1, wy1, wx1, wx2, b64, t1, or_limb' x2B x1B, eq1, eq2]
  exact wp_dec (by omega) (wp_dec (by omega) (wp_tt (by decide) (wp_dec (by omega) (wp_dec (by omega) (wp_dec (by omega) (wp_dec (by omega) (wp_dec (by omega) (wp_dec (by omega) (wp_dec (by omega) (wp_dec (by omega) l1))))))))))
end Go.Proofs.YtjmddikeadbmjaaGreat
set_option maxRecDepth 100000
namespace Go.Proofs.YtjmddikeadbmjaaGreat
open Go.RowKit

/-- Is there a borrow? -/
def bor (x y c : Int) : Int := if x < y + c then 1 else 0
theorem sub_bits (x y c : Int) (hx1 : 0 ≤ x) (hx2 : x < 4294967296) (hy1 : 0 ≤ y) (hy2 : y < 4294967296) (hc1 : 0 ≤ c) (hc2 : c ≤ 1) :
    bits BinOp.or IntKind.u32 (bits BinOp.and IntKind.u32 (bits BinOp.xor IntKind.u32 IntKind.u32.max x) y) (bits BinOp.and IntKind.u32 (bits BinOp.xor IntKind.u32 IntKind.u32.max (bits BinOp.xor IntKind.u32 x y)) ((x - y - c) % 4294967296)) / 2147483648 = bor x y c := by
  obtain ⟨X, rfl⟩ := Int.eq_ofNat_of_zero_le hx1
  obtain ⟨Y, rfl⟩ := Int.eq_ofNat_of_zero_le hy1
  obtain ⟨C, rfl⟩ := Int.eq_ofNat_of_zero_le hc1
  have hD0 : 0 ≤ ((X : Int) - Y - C) % 4294967296 := by omega
  obtain ⟨D, hD⟩ := Int.eq_ofNat_of_zero_le hD0
  have hm : IntKind.u32.max = ((4294967295 : Nat) : Int) := by decide
  have e1 : (4294967295 ^^^ X) < 2 ^ 32 := Nat.xor_lt_two_pow (by omega) (by omega)
  have e2 : (X ^^^ Y) < 2 ^ 32 := Nat.xor_lt_two_pow (by omega) (by omega)
  have e3 : (4294967295 ^^^ (X ^^^ Y)) < 2 ^ 32 := Nat.xor_lt_two_pow (by omega) e2
  have e4 : ((4294967295 ^^^ X) &&& Y) < 2 ^ 32 := Nat.and_lt_two_pow _ (by omega)
  have e5 : ((4294967295 ^^^ (X ^^^ Y)) &&& D) < 2 ^ 32 := Nat.and_lt_two_pow _ (by omega)
  rw [hD, hm, u32_xor_nat 4294967295 X (by omega) (by omega), u32_xor_nat X Y (by omega) (by omega), u32_xor_nat 4294967295 _ (by omega) (by omega), u32_and_nat _ Y (by omega) (by omega), u32_and_nat _ D (by omega) (by omega), u32_or_nat _ _ (by omega) (by omega)]
  have := sub_nat X Y D C (by omega) (by omega) (by omega) (by rw [← hD])
  rw [this]; unfold bor
  by_cases h : X < Y + C
  · rw [if_pos h, if_pos (by omega)]
  · rw [if_neg h, if_neg (by omega)]
set_option maxHeartbeats 400000 in
theorem add32_any (x y c : Int) (w : World) (hx : 0 ≤ x ∧ x < 4294967296) (hy : 0 ≤ y ∧ y < 4294967296) (hc : 0 ≤ c ∧ c ≤ 1) :
    Calls Tryz.prog 158 #[.int .u32 x, .int .u32 y, .int .u32 c] w fun e w' => e = .returned (.tuple #[.int .u32 ((x + y + c) % 4294967296), .int .u32 ((x + y + c) / 4294967296)]) ∧ w = w' := by
  obtain ⟨hx1, hx2⟩ := hx
  obtain ⟨hy1, hy2⟩ := hy
  obtain ⟨hc1, hc2⟩ := hc
  go_enter Tryz.func158, Tryz.ntmps158
  go_wp2
  go_ret2
  exact ⟨rfl, rfl⟩
set_option maxHeartbeats 400000 in
theorem sub32_any (x y c : Int) (w : World) (hx : 0 ≤ x ∧ x < 4294967296) (hy : 0 ≤ y ∧ y < 4294967296) (hc : 0 ≤ c ∧ c ≤ 1) :
    Calls Tryz.prog 159 #[.int .u32 x, .int .u32 y, .int .u32 c] w fun e w' => e = .returned (.tuple #[.int .u32 ((x - y - c) % 4294967296), .int .u32 (bor x y c)]) ∧ w = w' := by
  obtain ⟨hx1, hx2⟩ := hx
  obtain ⟨hy1, hy2⟩ := hy
  obtain ⟨hc1, hc2⟩ := hc
  go_enter Tryz.func159, Tryz.ntmps159
  go_wp2
  go_ret2
  exact ⟨by rw [← sub_bits x y c hx1 hx2 hy1 hy2 hc1 hc2]; rfl, rfl⟩

def iB (b : Limb) : Int := (b.toNat : Int)
/-- A slice value reads as limbs. -/
def SlL (w : World) (v : Value) (l : List Limb) : Prop := SlI w v .u32 (l.map iB)
/-- A row of limbs of the call's own. -/
def OwL (w0 w : World) (G cap : Nat) (l : List Limb) : Prop := Own w0 w 110 1 l.length (.slice (some ⟨G, 0, none⟩) l.length cap) ((l.map iB).map (.int .u32))
theorem OwL.cell {w0 w : World} {G cap : Nat} {l : List Limb} (h : OwL w0 w G cap l) (i : Nat) (hi : i < l.length) : w.cell? ⟨G, i, none⟩ = some (.int .u32 ((l[i]).toNat : Int)) ∧ w.frozen? ⟨G, i, none⟩ = false ∧ w0.heap.size ≤ G ∧ G < w.heap.size := by
  obtain ⟨g, cap', hv, h1, h2, h3, h4, h5, h6⟩ := h.at_ (by omega)
  injection hv with hA _ hc
  cases hA
  exact ⟨h4 i _ (by simp [hi, iB]), h5 i, h1, h2⟩
theorem OwL.set {w0 w : World} {G cap : Nat} {l : List Limb} (h : OwL w0 w G cap l) (i : Nat) (hi : i < l.length) (x : Limb) : OwL w0 (w.setCell ⟨G, i, none⟩ (.int .u32 (x.toNat : Int))) G cap (l.set i x) := by
  obtain ⟨g, cap', hv, h1, h2, h3, h4, h5, h6⟩ := h.at_ (by omega)
  injection hv with hA _ hc
  cases hA
  have := h6 i (.int .u32 (x.toNat : Int))
  unfold OwL
  rw [List.length_set, List.map_set, List.map_set]
  exact this
theorem grown_refl (w : World) (G : Nat) : w.grownBy w (some G) := World.grownBy.refl w _

/-- What is told: the window is less so many times the divisor; was it too much? -/
def RetTO (w0 w : World) (lo xs hi ds : List Limb) (G cap g : Nat) (e : Ending) (w' : World) : Prop :=
  ∃ (out : List Limb) (b : Nat), b ≤ 1 ∧ e = .returned (.bool (!(b == 0))) ∧ out.length = xs.length ∧ nv out + g * nv ds = nv xs + B ^ xs.length * b ∧ OwL w0 w' G cap (lo ++ out ++ hi) ∧ w.grownBy w' (some G)
theorem win_set {lo out xs hi : List Limb} {i : Nat} (h : out.length = i) (hi' : i < xs.length) (x : Limb) : (lo ++ (out ++ xs.drop i) ++ hi).set (lo.length + i) x = lo ++ ((out ++ [x]) ++ xs.drop (i + 1)) ++ hi := by
  rw [List.append_assoc, List.set_append_right _ _ (by omega), Nat.add_sub_cancel_left, List.set_append_left _ _ (by simp; omega), List.set_append_right _ _ (by omega), h, Nat.sub_self, List.drop_eq_getElem_cons hi', List.set_cons_zero]
  simp
theorem win_get {lo out xs hi : List Limb} {i : Nat} (h : out.length = i) (hi' : i < xs.length) (hk : lo.length + i < (lo ++ (out ++ xs.drop i) ++ hi).length) : (lo ++ (out ++ xs.drop i) ++ hi)[lo.length + i] = xs[i] := by
  have : (lo ++ (out ++ xs.drop i) ++ hi)[lo.length + i]? = some xs[i] := by
    rw [List.append_assoc, List.getElem?_append_right (by omega), Nat.add_sub_cancel_left, List.getElem?_append_left (by simp; omega), List.getElem?_append_right (by omega), h, Nat.sub_self]
    simp [hi']
  rw [List.getElem?_eq_getElem hk] at this
  exact Option.some.inj this
theorem nv_take_succ (l : List Limb) (i : Nat) (hi : i < l.length) : nv (l.take (i + 1)) = nv (l.take i) + B ^ i * (l[i]).toNat := by
  rw [List.take_succ_eq_append_getElem hi, nv_snoc, List.length_take, Nat.min_eq_left (by omega)]
/-- One limb of a difference. -/
theorem to_step {O g D U P c b x t X z b' : Nat} (h : O + g * D = U + P * (c + b)) (ht : t = g * x + c) (hz : X + B * b' = z + t % B + b) : (O + P * z) + g * (D + P * x) = (U + P * X) + P * B * (t / B + b') := by
  have e1 : P * (X + B * b') = P * (z + t % B + b) := by rw [hz]
  have e2 : t % B + B * (t / B) = t := Nat.mod_add_div _ _
  have e3 : P * (t % B + B * (t / B)) = P * (g * x + c) := by rw [e2, ht]
  have e4 : g * (P * x) = P * (g * x) := Nat.mul_left_comm _ _ _
  simp only [Nat.mul_add, Nat.mul_assoc] at *
  omega
theorem bor_is {X t b : Nat} (hX : X < B) (hb : b ≤ 1) : ∃ z b' : Nat, z < B ∧ b' ≤ 1 ∧ X + B * b' = z + t % B + b ∧ (((X : Int) - ((t % B : Nat) : Int) - (b : Int)) % 4294967296 = (z : Int)) ∧ bor (X : Int) ((t % B : Nat) : Int) (b : Int) = (b' : Int) := by
  have := Nat.mod_lt t B_pos
  generalize t % B = s at *
  rw [B_eq] at *
  by_cases h : X < s + b
  · exact ⟨X + 4294967296 - s - b, 1, by omega, by omega, by omega, by omega, by unfold bor; rw [if_pos (by omega)]; rfl⟩
  · exact ⟨X - s - b, 0, by omega, by omega, by omega, by omega, by unfold bor; rw [if_neg (by omega)]; rfl⟩

set_option maxHeartbeats 2000000 in
theorem takeOff_any (w0 w : World) (lo xs hi ds : List Limb) (G cap c' g : Nat) (v : Value) (hxs : xs.length = ds.length + 1) (hlen : (lo ++ xs ++ hi).length ≤ 1000000000) (hc' : xs.length ≤ c') (hown : OwL w0 w G cap (lo ++ xs ++ hi)) (hds : ∀ w', w.grownBy w' (some G) → SlL w' v ds) (hg : g < B) :
    Calls Tryz.prog 163 #[.slice (some ⟨G, lo.length, none⟩) xs.length c', v, .int .u64 g] w (RetTO w0 w lo xs hi ds G cap g) := by
  obtain ⟨A, cd, rfl, hcd, _⟩ := (hds w (grown_refl w G)).form
  have hll : lo.length + xs.length + hi.length ≤ 1000000000 := by have := hlen; simp at this; omega
  rw [List.length_map] at hds hcd ⊢
  have HO := Lib.hid hown
  have HD := Lib.hid hds
  have HG := Lib.hid hg
  rw [B_eq] at hg
  clear hown hds hlen
  generalize hn : ds.length = n at *
  rw [hxs]
  go_enter Tryz.func163, Tryz.ntmps163
  go_wp2_with fail
  go_loopw [7, 8, 15] (fun cv bv iv wr => ∃ (k c b : Nat) (out : List Limb), k ≤ n ∧ iv = .int .i64 k ∧ cv = .int .u64 c ∧ bv = .int .u32 b ∧ out.length = k ∧ c < B ∧ b ≤ 1 ∧ nv out + g * nv (ds.take k) = nv (xs.take k) + B ^ k * (c + b) ∧ OwL w0 wr G cap (lo ++ (out ++ xs.drop k) ++ hi) ∧ w.grownBy wr (some G)) (fun _ _ iv _ => n - (intOf iv).toNat)
  case atStart => exact ⟨0, 0, 0, [], Nat.zero_le _, rfl, rfl, rfl, rfl, B_pos, by omega, by simp [nv], by simpa using HO.out, grown_refl w G⟩
  case round =>
    obtain ⟨k, c, b, out, hk, rfl, rfl, rfl, ho, hc, hb, heq, hown, hgr⟩ := hrel
    have HQ := Lib.hid heq
    have HOW := Lib.hid hown
    have HGR := Lib.hid hgr
    have HC := Lib.hid hc
    rw [B_eq] at hc
    clear heq hown hgr
    by_cases hlt : k < n
    · have hkx : k < xs.length := by omega
      have hkl : lo.length + k < (lo ++ (out ++ xs.drop k) ++ hi).length := by simp; omega
      obtain ⟨hcell, hfk, hG1, hG2⟩ := HOW.out.cell (lo.length + k) hkl
      rw [win_get ho hkx hkl] at hcell
      obtain ⟨_, _, hvq, _, hclq⟩ := (HD.out wr HGR.out).form
      injection hvq with hvq1 hvq2 hvq3
      subst hvq1
      subst hvq3
      clear hvq2
      obtain ⟨ad, rfl, hb1, hce⟩ := hclq k (by simp; omega)
      have hkd : k < ds.length := by omega
      have hdk : ((ds.map iB)[k]'(by simp; omega)) = ((ds[k]).toNat : Int) := by simp [iB]
      rw [hdk] at hce
      have xB := limb_lt xs[k]
      have dB_ := limb_lt ds[k]
      have st := fun (z : Limb) => HOW.out.set (lo.length + k) hkl z
      have ws := fun (z : Limb) => win_set (lo := lo) (hi := hi) ho hkx z
      have ht1 := nv_take_succ ds k hkd
      have ht2 := nv_take_succ xs k hkx
      generalize (xs[k]).toNat = X at *
      generalize (ds[k]).toNat = Y at *
      have hgy : g * Y ≤ (B - 1) * (B - 1) := Nat.mul_le_mul (by rw [B_eq]; omega) (by omega)
      obtain ⟨z, b', hz, hb', hzz, hm, hbr⟩ := bor_is (t := g * Y + c) xB hb
      have HST := Lib.hid (to_step HQ.out rfl hzz)
      have HS := Lib.hid (st (BitVec.ofNat 32 z))
      have HW := Lib.hid (ws (BitVec.ofNat 32 z))
      have HT1 := Lib.hid ht1
      have HT2 := Lib.hid ht2
      have HZ := Lib.hid hz
      have htB : (g * Y + c) / B < B := by rw [Nat.div_lt_iff_lt_mul B_pos, B_eq] at *; omega
      have HTB := Lib.hid htB
      rw [B_eq] at hgy xB dB_ hz htB
      have hp1 : 0 ≤ (g : Int) * (Y : Int) := by rw [← Int.natCast_mul]; exact Int.natCast_nonneg _
      have hp2 : (g : Int) * (Y : Int) ≤ 18446744065119617025 := by rw [← Int.natCast_mul]; omega
      have ec : (((g * Y + c) % B : Nat) : Int) = ((g : Int) * (Y : Int) + (c : Int)) % 4294967296 := by rw [Int.natCast_emod, Int.natCast_add, Int.natCast_mul]; rfl
      rw [ec] at hm hbr
      have HM := Lib.hid hm
      have HB := Lib.hid hbr
      clear hclq hdk st ws ht1 ht2 hzz htB hgy ec hm hbr
      go_wp2_with (go_at_call 159; refine (sub32_any (X : Int) (((g : Int) * (Y : Int) + (c : Int)) % 4294967296) (b : Int) _ ⟨by omega, by omega⟩ ⟨by omega, by omega⟩ ⟨by omega, by omega⟩).mono ?_; rw [HM.out, HB.out]; rintro e w' ⟨rfl, rfl⟩)
      go_roundw
      case rel =>
        have hs := HS.out
        rw [HW.out, ofNat_lt HZ.out] at hs
        refine ⟨k + 1, (g * Y + c) / B, b', out ++ [BitVec.ofNat 32 z], by omega, by go_num, ?_, rfl, by simp [ho], HTB.out, hb', ?_, hs, grown_set HGR.out _ _ _⟩
        · congr 1
        · rw [nv_snoc, ho, ofNat_lt HZ.out, HT1.out, HT2.out, Nat.pow_succ]; exact HST.out
      case measure => (simp [intOf] <;> omega)
    · have hkn : k = n := by omega
      subst hkn
      have hkx : k < xs.length := by omega
      have hkl : lo.length + k < (lo ++ (out ++ xs.drop k) ++ hi).length := by simp; omega
      obtain ⟨hcell, hfk, hG1, hG2⟩ := HOW.out.cell (lo.length + k) hkl
      rw [win_get ho hkx hkl] at hcell
      have xB := limb_lt xs[k]
      have st := fun (z : Limb) => HOW.out.set (lo.length + k) hkl z
      have ws := fun (z : Limb) => win_set (lo := lo) (hi := hi) ho hkx z
      have ht2 := nv_take_succ xs k hkx
      generalize (xs[k]).toNat = X at *
      obtain ⟨z, b', hz, hb', hzz, hm, hbr⟩ := bor_is (t := c) xB hb
      have HST := Lib.hid (to_step (x := 0) (t := c) HQ.out (by simp) hzz)
      have HS := Lib.hid (st (BitVec.ofNat 32 z))
      have HW := Lib.hid (ws (BitVec.ofNat 32 z))
      have HT2 := Lib.hid ht2
      have HZ := Lib.hid hz
      have ec : c % B = c := Nat.mod_eq_of_lt HC.out
      rw [ec] at hm hbr
      rw [B_eq] at xB hz
      have HM := Lib.hid hm
      have HB := Lib.hid hbr
      clear st ws ht2 hzz ec hm hbr
      go_wp2_with (go_at_call 159; refine (sub32_any (X : Int) (c : Int) (b : Int) _ ⟨by omega, by omega⟩ ⟨by omega, by omega⟩ ⟨by omega, by omega⟩).mono ?_; rw [HM.out, HB.out]; rintro e w' ⟨rfl, rfl⟩)
      go_ret
      have hs := HS.out
      rw [HW.out, ofNat_lt HZ.out, List.drop_of_length_le (by omega), List.append_nil] at hs
      refine ⟨out ++ [BitVec.ofNat 32 z], b', hb', ?_, by simp [ho, hxs], ?_, hs, grown_set HGR.out _ _ _⟩
      · rcases Nat.le_one_iff_eq_zero_or_eq_one.1 hb' with h | h <;> subst h <;> rfl
      · have h1 := HST.out
        rw [Nat.div_eq_of_lt HC.out, Nat.mul_zero, Nat.add_zero, Nat.zero_add, ← HT2.out, ← Nat.pow_succ, List.take_of_length_le (by omega), List.take_of_length_le (by omega)] at h1
        rw [nv_snoc, ho, ofNat_lt HZ.out, hxs]; exact h1
/-- What is told: the window, and the divisor, without what is too much. -/
def RetPB (w0 w : World) (lo xs hi ds : List Limb) (G cap : Nat) (e : Ending) (w' : World) : Prop :=
  ∃ (out : List Limb) (b : Nat) (v : Value), e = .returned v ∧ out.length = xs.length ∧ nv out + B ^ xs.length * b = nv xs + nv ds ∧ OwL w0 w' G cap (lo ++ out ++ hi) ∧ w.grownBy w' (some G)
theorem pb_step {O D U P c X Y : Nat} (h : O + P * c = U + D) : (O + P * ((X + Y + c) % B)) + P * B * ((X + Y + c) / B) = (U + P * X) + (D + P * Y) := by
  have e2 : (X + Y + c) % B + B * ((X + Y + c) / B) = X + Y + c := Nat.mod_add_div _ _
  have e3 : P * ((X + Y + c) % B + B * ((X + Y + c) / B)) = P * (X + Y + c) := by rw [e2]
  simp only [Nat.mul_add, Nat.mul_assoc] at *
  omega

set_option maxHeartbeats 2000000 in
theorem putBack_any (w0 w : World) (lo xs hi ds : List Limb) (G cap c' : Nat) (v : Value) (hxs : xs.length = ds.length + 1) (hlen : (lo ++ xs ++ hi).length ≤ 1000000000) (hc' : xs.length ≤ c') (hown : OwL w0 w G cap (lo ++ xs ++ hi)) (hds : ∀ w', w.grownBy w' (some G) → SlL w' v ds) :
    Calls Tryz.prog 164 #[.slice (some ⟨G, lo.length, none⟩) xs.length c', v] w (RetPB w0 w lo xs hi ds G cap) := by
  obtain ⟨A, cd, rfl, hcd, _⟩ := (hds w (grown_refl w G)).form
  have hll : lo.length + xs.length + hi.length ≤ 1000000000 := by have := hlen; simp at this; omega
  rw [List.length_map] at hds hcd ⊢
  have HO := Lib.hid hown
  have HD := Lib.hid hds
  clear hown hds hlen
  generalize hn : ds.length = n at *
  rw [hxs]
  go_enter Tryz.func164, Tryz.ntmps164
  go_wp2_with fail
  go_loopw [4, 9] (fun cv iv wr => ∃ (k c : Nat) (out : List Limb), k ≤ n ∧ iv = .int .i64 k ∧ cv = .int .u32 c ∧ out.length = k ∧ c ≤ 1 ∧ nv out + B ^ k * c = nv (xs.take k) + nv (ds.take k) ∧ OwL w0 wr G cap (lo ++ (out ++ xs.drop k) ++ hi) ∧ w.grownBy wr (some G)) (fun _ iv _ => n - (intOf iv).toNat)
  case atStart => exact ⟨0, 0, [], Nat.zero_le _, rfl, rfl, rfl, by omega, by simp [nv], by simpa using HO.out, grown_refl w G⟩
  case round =>
    obtain ⟨k, c, out, hk, rfl, rfl, ho, hc, heq, hown, hgr⟩ := hrel
    have HQ := Lib.hid heq
    have HOW := Lib.hid hown
    have HGR := Lib.hid hgr
    clear heq hown hgr
    by_cases hlt : k < n
    · have hkx : k < xs.length := by omega
      have hkl : lo.length + k < (lo ++ (out ++ xs.drop k) ++ hi).length := by simp; omega
      obtain ⟨hcell, hfk, hG1, hG2⟩ := HOW.out.cell (lo.length + k) hkl
      rw [win_get ho hkx hkl] at hcell
      obtain ⟨_, _, hvq, _, hclq⟩ := (HD.out wr HGR.out).form
      injection hvq with hvq1 hvq2 hvq3
      subst hvq1
      subst hvq3
      clear hvq2
      obtain ⟨ad, rfl, hb1, hce⟩ := hclq k (by simp; omega)
      have hkd : k < ds.length := by omega
      have hdk : ((ds.map iB)[k]'(by simp; omega)) = ((ds[k]).toNat : Int) := by simp [iB]
      rw [hdk] at hce
      have xB := limb_lt xs[k]
      have dB_ := limb_lt ds[k]
      have st := fun (z : Limb) => HOW.out.set (lo.length + k) hkl z
      have ws := fun (z : Limb) => win_set (lo := lo) (hi := hi) ho hkx z
      have ht1 := nv_take_succ ds k hkd
      have ht2 := nv_take_succ xs k hkx
      generalize (xs[k]).toNat = X at *
      generalize (ds[k]).toNat = Y at *
      have HZ := Lib.hid (Nat.mod_lt (X + Y + c) B_pos)
      have HST := Lib.hid (pb_step (X := X) (Y := Y) HQ.out)
      have HS := Lib.hid (st (BitVec.ofNat 32 ((X + Y + c) % B)))
      have HW := Lib.hid (ws (BitVec.ofNat 32 ((X + Y + c) % B)))
      have HT1 := Lib.hid ht1
      have HT2 := Lib.hid ht2
      rw [B_eq] at xB dB_
      clear hclq hdk st ws ht1 ht2
      go_wp2_with (go_at_call 158; refine (add32_any (X : Int) (Y : Int) (c : Int) _ ⟨by omega, by omega⟩ ⟨by omega, by omega⟩ ⟨by omega, by omega⟩).mono ?_; rintro e w' ⟨rfl, rfl⟩)
      go_roundw
      case rel =>
        have hs := HS.out
        rw [HW.out, ofNat_lt HZ.out] at hs
        refine ⟨k + 1, (X + Y + c) / B, out ++ [BitVec.ofNat 32 ((X + Y + c) % B)], by omega, by go_num, ?_, by simp [ho], by rw [B_eq]; omega, ?_, ?_, grown_set HGR.out _ _ _⟩
        · congr 1
        · rw [nv_snoc, ho, ofNat_lt HZ.out, HT1.out, HT2.out, Nat.pow_succ]; exact HST.out
        · exact hs
      case measure => (simp [intOf] <;> omega)
    · have hkn : k = n := by omega
      subst hkn
      have hkx : k < xs.length := by omega
      have hkl : lo.length + k < (lo ++ (out ++ xs.drop k) ++ hi).length := by simp; omega
      obtain ⟨hcell, hfk, hG1, hG2⟩ := HOW.out.cell (lo.length + k) hkl
      rw [win_get ho hkx hkl] at hcell
      have xB := limb_lt xs[k]
      have st := fun (z : Limb) => HOW.out.set (lo.length + k) hkl z
      have ws := fun (z : Limb) => win_set (lo := lo) (hi := hi) ho hkx z
      have ht2 := nv_take_succ xs k hkx
      generalize (xs[k]).toNat = X at *
      have HZ := Lib.hid (Nat.mod_lt (X + 0 + c) B_pos)
      have HST := Lib.hid (pb_step (X := X) (Y := 0) HQ.out)
      have HS := Lib.hid (st (BitVec.ofNat 32 ((X + 0 + c) % B)))
      have HW := Lib.hid (ws (BitVec.ofNat 32 ((X + 0 + c) % B)))
      have HT2 := Lib.hid ht2
      rw [B_eq] at xB
      clear st ws ht2
      go_wp2
      go_end0
      have hs := HS.out
      rw [HW.out, ofNat_lt HZ.out, List.drop_of_length_le (by omega), List.append_nil] at hs
      refine ⟨out ++ [BitVec.ofNat 32 ((X + 0 + c) % B)], (X + 0 + c) / B, _, rfl, by simp [ho, hxs], ?_, ?_, grown_set HGR.out _ _ _⟩
      · have h1 := HST.out
        rw [Nat.mul_zero, Nat.add_zero, ← HT2.out, ← Nat.pow_succ, List.take_of_length_le (by omega), List.take_of_length_le (by omega)] at h1
        rw [nv_snoc, ho, ofNat_lt HZ.out, hxs]; exact h1
      · exact hs
end Go.Proofs.YtjmddikeadbmjaaGreat
set_option maxRecDepth 100000
namespace Go.Proofs.YtjmddikeadbmjaaGreat
open Go.ChangeShapes Go.WideShapes Go.ChangeAt Go.RowKit

section
variable {P : Program} {md : Nat → FMode}
theorem law_calls {F : Nat} {fn : Func} {xs : List D} {vs : List Value} {W : World} {tb : Nat} (hs : Spec P md F [] xs [.bool true]) (hfn : P.funcs[F]? = some fn) (hm : md F = {}) (hrt : fn.resultTypes = #[tb]) (htb : P.underlying tb = some .bool)
    (hlx : xs.length = fn.params.size) (hlv : vs.length = fn.params.size) (hrd : ∀ (i t : Nat) (x : D) (v : Value), fn.params.toList[i]? = some t → xs[i]? = some x → vs[i]? = some v → Rd P md W (fun _ => False) (.ty t) x v) :
    Calls P F vs.toArray W (fun e w' => e = .returned (.bool true) ∧ Ext W w') := by
  obtain ⟨fn', h1, _, _, h⟩ := hs
  rw [hfn] at h1
  injection h1 with h1
  subst h1
  refine (h W (fun _ => False) vs 0 1 (fun k hk => by rw [hm] at hk; cases hk) ⟨by simp [hlx], by simp [hlv], fun b hb => hb.elim, ?_, fun p hp => by rw [hm] at hp; cases hp⟩).mono ?_
  · intro i ct x v hc hx hv _
    simp only [List.append_nil, List.getElem?_map, Option.map_eq_some_iff] at hc
    obtain ⟨t, ht, rfl⟩ := hc
    have := hrd i t x v ht hx hv
    exact ⟨this.rd.mono (Nat.le_refl _) (fun _ _ _ => rfl) (fun b hb _ => by
      rcases hb with hb | ⟨p, u, hp, _⟩
      · exact hb
      · rw [hm] at hp; cases hp), this.size, this.agg⟩
  · rintro e w' ⟨us, β', hp⟩
    have hl := hp.len
    rw [hrt] at hl
    have : ∃ u, us = [u] := by
      match us, hl with
      | [u], _ => exact ⟨u, rfl⟩
    obtain ⟨u, rfl⟩ := this
    have hv := hp.vl [.b true] (by rw [hrt, hm]; simp [resL, setOwn, ofD, htb, D.toBool, List.getD]) 0 (.b true) u rfl rfl
    have hu := vl_b hv
    subst hu
    refine ⟨hp.ending, ?_⟩
    have := hp.stp
    refine Stp.ext (this.weak fun b ⟨p, v, h1, _⟩ => ?_)
    rw [hm] at h1; cases h1

theorem rd_int {t : Nat} {k : IntKind} {w : World} {M : Nat → Prop} {y : D} {c : Nat → Option Value} (h : RdC P md w M (.ty t) y c) (ht : P.underlying t = some (.int k)) : ∃ n, y = .int n ∧ k.min ≤ n ∧ n ≤ k.max := by
  cases h <;> simp_all [CT.desc]
  all_goals (rename_i hf _; obtain ⟨⟨a, ha, _⟩, _⟩ := fieldsOf_under hf; rw [ht] at ha; cases ha)
theorem rd_bool {t : Nat} {w : World} {M : Nat → Prop} {y : D} {c : Nat → Option Value} (h : RdC P md w M (.ty t) y c) (ht : P.underlying t = some .bool) : ∃ b, y = .bool b := by
  cases h <;> simp_all [CT.desc]
  all_goals (rename_i hf _; obtain ⟨⟨a, ha, _⟩, _⟩ := fieldsOf_under hf; rw [ht] at ha; cases ha)
theorem rd_str {t : Nat} {w : World} {M : Nat → Prop} {y : D} {c : Nat → Option Value} (h : RdC P md w M (.ty t) y c) (ht : P.underlying t = some .string) : ∃ s, y = .str s ∧ s.size ≤ maxLen := by
  cases h <;> simp_all [CT.desc]
  all_goals (rename_i hf _; obtain ⟨⟨a, ha, _⟩, _⟩ := fieldsOf_under hf; rw [ht] at ha; cases ha)
theorem rd_slc {t e : Nat} {w : World} {M : Nat → Prop} {y : D} {c : Nat → Option Value} (h : RdC P md w M (.ty t) y c) (ht : P.underlying t = some (.slice e)) : ∃ es, y = .sl es ∧ es.length ≤ maxLen ∧ ∀ x ∈ es, ∃ c', RdC P md w M (.ty e) x c' := by
  cases h with
  | sl ht' hc h1 h2 hA hh =>
    have : P.underlying t = some (.slice _) := ht'
    rw [ht] at this
    injection this with this
    injection this with this
    subst this
    refine ⟨_, rfl, Nat.le_trans h1 h2, fun x hx => ?_⟩
    obtain ⟨i, hi, rfl⟩ := List.getElem_of_mem hx
    exact ⟨_, hh i _ (List.getElem?_eq_getElem hi)⟩
  | struct hf _ _ => obtain ⟨⟨a, ha, _⟩, _⟩ := fieldsOf_under hf; rw [ht] at ha; cases ha
  | int ht' => have : P.underlying t = _ := ht'; rw [ht] at this; cases this
  | bool ht' => have : P.underlying t = _ := ht'; rw [ht] at this; cases this
  | str ht' => have : P.underlying t = _ := ht'; rw [ht] at this; cases this
  | fn ht' => have : P.underlying t = _ := ht'; rw [ht] at this; cases this
  | ref ht' => have : P.underlying t = _ := ht'; rw [ht] at this; cases this
theorem rd_struct {t : Nat} {fs : List Field} {w : World} {M : Nat → Prop} {y : D} {c : Nat → Option Value} (h : RdC P md w M (.ty t) y c) (ht : fieldsOf P t = some fs) : ∃ ds, y = .agg ds ∧ ds.length = fs.length ∧ ∀ (i : Nat) (f : Field) (d : D), fs[i]? = some f → ds[i]? = some d → ∃ c', RdC P md w M (.ty f.type) d c' := by
  obtain ⟨⟨a, ha, _⟩, _⟩ := fieldsOf_under ht
  cases h with
  | struct hf hl hh =>
    rw [ht] at hf
    injection hf with hf
    subst hf
    exact ⟨_, rfl, hl, fun i f d h1 h2 => ⟨_, hh i f d h1 h2⟩⟩
  | sl ht' => have : P.underlying t = _ := ht'; rw [ha] at this; cases this
  | int ht' => have : P.underlying t = _ := ht'; rw [ha] at this; cases this
  | bool ht' => have : P.underlying t = _ := ht'; rw [ha] at this; cases this
  | str ht' => have : P.underlying t = _ := ht'; rw [ha] at this; cases this
  | fn ht' => have : P.underlying t = _ := ht'; rw [ha] at this; cases this
  | ref ht' => have : P.underlying t = _ := ht'; rw [ha] at this; cases this
theorem rd_ints {t e : Nat} {w : World} {M : Nat → Prop} {y : D} {c : Nat → Option Value} (h : RdC P md w M (.ty t) y c) (ht : P.underlying t = some (.slice e)) (he : P.underlying e = some (.int .i64)) : ∃ l, y = dI l ∧ l.length ≤ maxLen ∧ ∀ x ∈ l, -9223372036854775808 ≤ x ∧ x ≤ 9223372036854775807 := by
  obtain ⟨es, rfl, hl, hh⟩ := rd_slc h ht
  have : ∃ l : List Int, es = l.map .int ∧ ∀ x ∈ l, -9223372036854775808 ≤ x ∧ x ≤ 9223372036854775807 := by
    clear hl h
    induction es with
    | nil => exact ⟨[], rfl, fun _ h => by cases h⟩
    | cons x es ih =>
      obtain ⟨l, rfl, hl⟩ := ih (fun y hy => hh y (by simp [hy]))
      obtain ⟨c', hc⟩ := hh x (by simp)
      obtain ⟨n, rfl, h1, h2⟩ := rd_int hc he
      exact ⟨n :: l, rfl, fun y hy => by rcases List.mem_cons.1 hy with rfl | hy; exact ⟨h1, h2⟩; exact hl y hy⟩
  obtain ⟨l, rfl, h2⟩ := this
  exact ⟨l, rfl, by simpa using hl, h2⟩
theorem rd_limbs {t e : Nat} {w : World} {M : Nat → Prop} {y : D} {c : Nat → Option Value} (h : RdC P md w M (.ty t) y c) (ht : P.underlying t = some (.slice e)) (he : P.underlying e = some (.int .u32)) : ∃ l : List Limb, y = dL l ∧ l.length ≤ maxLen := by
  obtain ⟨es, rfl, hl, hh⟩ := rd_slc h ht
  have : ∃ l : List Limb, es = l.map dB := by
    clear hl h
    induction es with
    | nil => exact ⟨[], rfl⟩
    | cons x es ih =>
      obtain ⟨l, rfl⟩ := ih (fun y hy => hh y (by simp [hy]))
      obtain ⟨c', hc⟩ := hh x (by simp)
      obtain ⟨n, rfl, h1, h2⟩ := rd_int hc he
      have h1 : 0 ≤ n := h1
      have h2 : n ≤ 4294967295 := h2
      refine ⟨BitVec.ofNat 32 n.toNat :: l, ?_⟩
      simp only [List.map_cons, dB, BitVec.toNat_ofNat]
      rw [Nat.mod_eq_of_lt (by omega), Int.toNat_of_nonneg h1]
  obtain ⟨l, rfl⟩ := this
  exact ⟨l, rfl, by simpa using hl⟩
theorem rd_lab {t : Nat} {w : World} {M : Nat → Prop} {y : D} {c : Nat → Option Value} (h : RdC P md w M (.ty t) y c) (ht : P.underlying t = some (.int .u64)) : ∃ l : Lab, y = dB l := by
  obtain ⟨n, rfl, h1, h2⟩ := rd_int h ht
  have h1 : 0 ≤ n := h1
  have h2 : n ≤ 18446744073709551615 := h2
  refine ⟨BitVec.ofNat 64 n.toNat, ?_⟩
  simp only [dB, BitVec.toNat_ofNat]
  rw [Nat.mod_eq_of_lt (by omega), Int.toNat_of_nonneg h1]
end
end Go.Proofs.YtjmddikeadbmjaaGreat
set_option maxRecDepth 100000
namespace Go.Proofs.YtjmddikeadbmjaaGreat
open Go.RowKit

section
variable {P : Program} {md : Nat → FMode}
/-- A result, as data. -/
def ResV (P : Program) (md : Nat → FMode) (w : World) (M : Nat → Prop) (t : Nat) (y : D) (u : Value) : Prop := ∃ look β, VL P md w (Mof M look β) look β (ofD P t y) u
theorem ResV.int {w : World} {M : Nat → Prop} {t : Nat} {k : IntKind} {n : Int} {u : Value} (h : ResV P md w M t (.int n) u) (ht : P.underlying t = some (.int k)) : u = .int k n ∧ k.min ≤ n ∧ n ≤ k.max := by
  obtain ⟨look, β, h⟩ := h
  unfold ofD at h
  rw [ht] at h
  exact vl_i h
theorem ResV.bool {w : World} {M : Nat → Prop} {t : Nat} {b : Bool} {u : Value} (h : ResV P md w M t (.bool b) u) (ht : P.underlying t = some .bool) : u = .bool b := by
  obtain ⟨look, β, h⟩ := h
  unfold ofD at h
  rw [ht] at h
  exact vl_b h
theorem ResV.rd {w : World} {M : Nat → Prop} {t : Nat} {y : D} {u : Value} (h : ResV P md w M t y u) (ht : ofD P t y = .d t y) : Rd P md w M (.ty t) y u := by
  obtain ⟨look, β, h⟩ := h
  rw [ht] at h
  obtain ⟨h1, h2⟩ := vl_ne h (by simp) (by simp) (by simp)
  cases h1 with
  | d h1 => exact ⟨h1.mono (Nat.le_refl _) (fun _ _ _ => rfl) (fun b hb _ => .inl hb), h2.size, h2.agg⟩
theorem rd_weak {w w' : World} {M M' : Nat → Prop} {t : CT} {x : D} {v : Value} (h : Rd P md w M t x v) (hx : Ext w w') (hM : ∀ b, M' b → b < w.heap.size → M b) : Rd P md w' M' t x v :=
  ⟨h.rd.mono hx.size (fun b _ hb => hx.block b hb) hM, h.size, h.agg⟩
/-- ████ A call of a function that lends nothing, and tells no row of its own. -/
theorem sp_calls {F : Nat} {fn : Func} {xs ys : List D} {vs : List Value} {W : World} {M : Nat → Prop} (hs : Spec P md F [] xs ys) (hfn : P.funcs[F]? = some fn) (hm : md F = {}) (hM : ∀ b, M b → b < W.heap.size)
    (hlx : xs.length = fn.params.size) (hlv : vs.length = fn.params.size) (hrd : ∀ (i t : Nat) (x : D) (v : Value), fn.params.toList[i]? = some t → xs[i]? = some x → vs[i]? = some v → Rd P md W M (.ty t) x v) :
    Calls P F vs.toArray W (fun e w' => ∃ us, e = .returned (retV us) ∧ us.length = fn.resultTypes.size ∧ (∀ (i t : Nat) (u : Value), fn.resultTypes.toList[i]? = some t → us[i]? = some u → ResV P md w' M t (ys.getD i .nil) u) ∧ Ext W w') := by
  obtain ⟨fn', h1, _, _, h⟩ := hs
  rw [hfn] at h1
  injection h1 with h1
  subst h1
  have nol : ∀ b, ¬ lentN (md F) vs b := fun b ⟨p, v, h1, _⟩ => by rw [hm] at h1; cases h1
  refine (h W M vs 0 1 (fun k hk => by rw [hm] at hk; cases hk) ⟨by simp [hlx], by simp [hlv], fun b hb => ⟨hM b hb, nol b⟩, ?_, fun p hp => by rw [hm] at hp; cases hp⟩).mono ?_
  · intro i ct x v hc hx hv _
    simp only [List.append_nil, List.getElem?_map, Option.map_eq_some_iff] at hc
    obtain ⟨t, ht, rfl⟩ := hc
    have := hrd i t x v ht hx hv
    exact ⟨this.rd.mono (Nat.le_refl _) (fun _ _ _ => rfl) (fun b hb _ => hb.elim id (fun h => (nol b h).elim)), this.size, this.agg⟩
  · rintro e w' ⟨us, β', hp⟩
    refine ⟨us, hp.ending, by simpa using hp.len, fun i t u ht hu => ?_, ?_⟩
    · have := hp.vl (resL P fn.resultTypes.toList ys 0) (by rw [hm]; rfl) i _ u (resL_at ht) hu
      rw [Nat.zero_add] at this
      exact ⟨_, _, this⟩
    · exact Stp.ext (hp.stp.weak fun b hb => (nol b hb).elim)
theorem one_of {us : List Value} {n : Nat} (h : us.length = n) (hn : n = 1) : ∃ u, us = [u] := by
  subst hn
  match us, h with
  | [u], _ => exact ⟨u, rfl⟩
theorem sp_int {F : Nat} {fn : Func} {xs : List D} {n : Int} {vs : List Value} {W : World} {M : Nat → Prop} {t : Nat} {k : IntKind} (hs : Spec P md F [] xs [.int n]) (hfn : P.funcs[F]? = some fn) (hm : md F = {}) (hM : ∀ b, M b → b < W.heap.size)
    (hlx : xs.length = fn.params.size) (hlv : vs.length = fn.params.size) (hrd : ∀ (i t : Nat) (x : D) (v : Value), fn.params.toList[i]? = some t → xs[i]? = some x → vs[i]? = some v → Rd P md W M (.ty t) x v)
    (hrt : fn.resultTypes = #[t]) (ht : P.underlying t = some (.int k)) : Calls P F vs.toArray W (fun e w' => e = .returned (.int k n) ∧ (k.min ≤ n ∧ n ≤ k.max) ∧ Ext W w') := by
  refine (sp_calls hs hfn hm hM hlx hlv hrd).mono ?_
  rintro e w' ⟨us, rfl, hl, hh, hx⟩
  obtain ⟨u, rfl⟩ := one_of hl (by rw [hrt]; rfl)
  obtain ⟨rfl, h2⟩ := (hh 0 t u (by rw [hrt]; rfl) rfl).int ht
  exact ⟨rfl, h2, hx⟩
theorem sp_sl {F : Nat} {fn : Func} {xs : List D} {y : D} {vs : List Value} {W : World} {M : Nat → Prop} {t : Nat} (hs : Spec P md F [] xs [y]) (hfn : P.funcs[F]? = some fn) (hm : md F = {}) (hM : ∀ b, M b → b < W.heap.size)
    (hlx : xs.length = fn.params.size) (hlv : vs.length = fn.params.size) (hrd : ∀ (i t : Nat) (x : D) (v : Value), fn.params.toList[i]? = some t → xs[i]? = some x → vs[i]? = some v → Rd P md W M (.ty t) x v)
    (hrt : fn.resultTypes = #[t]) (ht : ofD P t y = .d t y) : Calls P F vs.toArray W (fun e w' => ∃ u, e = .returned u ∧ Rd P md w' M (.ty t) y u ∧ Ext W w') := by
  refine (sp_calls hs hfn hm hM hlx hlv hrd).mono ?_
  rintro e w' ⟨us, rfl, hl, hh, hx⟩
  obtain ⟨u, rfl⟩ := one_of hl (by rw [hrt]; rfl)
  exact ⟨u, rfl, (hh 0 t u (by rw [hrt]; rfl) rfl).rd ht, hx⟩
/-- ████ A call of a function that tells one row of its own, not empty. -/
theorem own_calls {F : Nat} {fn : Func} {xs es : List D} {vs : List Value} {W : World} {M : Nat → Prop} {t e : Nat} (hs : Spec P md F [] xs [.sl es]) (hfn : P.funcs[F]? = some fn) (hm : md F = { own := [(0, [])] }) (hM : ∀ b, M b → b < W.heap.size)
    (hlx : xs.length = fn.params.size) (hlv : vs.length = fn.params.size) (hrd : ∀ (i t : Nat) (x : D) (v : Value), fn.params.toList[i]? = some t → xs[i]? = some x → vs[i]? = some v → Rd P md W M (.ty t) x v)
    (hrt : fn.resultTypes = #[t]) (ht : tElem P t = some e) (h1 : one P t = true) (hne : es ≠ []) :
    Calls P F vs.toArray W (fun en w' => ∃ G cap cur, en = .returned (.slice (some ⟨G, 0, none⟩) es.length cap) ∧ W.heap.size ≤ G ∧ G < w'.heap.size ∧ w'.heap[G]? = some (.cells cur e (0, 0)) ∧ es.length ≤ cap ∧ cap ≤ maxLen ∧ cur.size = cap * P.cellsOf e ∧
      (∀ (i : Nat) (x : D), es[i]? = some x → ∃ M', RdC P md w' M' (.ty e) x (fun j => cur[i * P.cellsOf e + j]?)) ∧ Ext W w') := by
  obtain ⟨fn', g1, _, _, h⟩ := hs
  rw [hfn] at g1
  injection g1 with g1
  subst g1
  have nol : ∀ b, ¬ lentN (md F) vs b := fun b ⟨p, v, h1, _⟩ => by rw [hm] at h1; cases h1
  refine (h W M vs 0 1 (fun k hk => by rw [hm] at hk; simp at hk; omega) ⟨by simp [hlx], by simp [hlv], fun b hb => ⟨hM b hb, nol b⟩, ?_, fun p hp => by rw [hm] at hp; cases hp⟩).mono ?_
  · intro i ct x v hc hx hv _
    simp only [List.append_nil, List.getElem?_map, Option.map_eq_some_iff] at hc
    obtain ⟨t, ht, rfl⟩ := hc
    have := hrd i t x v ht hx hv
    exact ⟨this.rd.mono (Nat.le_refl _) (fun _ _ _ => rfl) (fun b hb _ => hb.elim id (fun h => (nol b h).elim)), this.size, this.agg⟩
  · rintro en w' ⟨us, β', hp⟩
    have hl := hp.len
    rw [hrt] at hl
    obtain ⟨u, rfl⟩ := one_of hl rfl
    have hot : ownT P [t] (0, []) = some e := by simp [ownT, typeAt, h1, ht]
    have hlook : postLook P (md F) fn.params.toList fn.resultTypes.toList [.sl es] 0 1 0 = some (.row e es true) := by
      rw [hm, hrt]
      simp [postLook, backEff, ownEff, effF, updN, hot, D.path, D.els, List.getD]
    have hv := hp.vl [.row 0] (by rw [hm, hrt]; simp [resL, setOwn, setL]) 0 (.row 0) u rfl rfl
    have hu := vl_row hv hlook
    have hb := hp.blks 0 _ hlook
    have ho := fun B => hp.own 0 _ B hlook
    obtain ⟨A, cap, hA, hb⟩ := hb
    rcases hb with ⟨hn, _⟩ | ⟨B, cur, rfl, hc0, hB, hlen, hcap, hsz, hpos, hrd'⟩
    · exact absurd hn hne
    · have hob := ho B (by rw [hA]; simp [ownB]; omega)
      have hG := hob.1.resolve_right (nol B)
      refine ⟨B, cap, cur, ?_, hG, hob.2, hB, hlen, hcap, hsz, fun i x hx => ⟨_, hrd' i x hx⟩, Stp.ext (hp.stp.weak fun b hb => (nol b hb).elim)⟩
      rw [hp.ending, hu, hA]; rfl
theorem rd_all1 {w : World} {M : Nat → Prop} {ps : List Nat} {t : Nat} {x : D} {v : Value} (hp : ps = [t]) (h : Rd P md w M (.ty t) x v) : ∀ (i t' : Nat) (x' : D) (v' : Value), ps[i]? = some t' → [x][i]? = some x' → [v][i]? = some v' → Rd P md w M (.ty t') x' v' := by
  intro i t' x' v' h1 h2 h3
  subst hp
  match i with
  | 0 => cases h1; cases h2; cases h3; exact h
  | i + 1 => simp at h1
theorem rd_all2 {w : World} {M : Nat → Prop} {ps : List Nat} {t u : Nat} {x y : D} {v z : Value} (hp : ps = [t, u]) (h : Rd P md w M (.ty t) x v) (h' : Rd P md w M (.ty u) y z) : ∀ (i t' : Nat) (x' : D) (v' : Value), ps[i]? = some t' → [x, y][i]? = some x' → [v, z][i]? = some v' → Rd P md w M (.ty t') x' v' := by
  intro i t' x' v' h1 h2 h3
  subst hp
  match i with
  | 0 => cases h1; cases h2; cases h3; exact h
  | 1 => cases h1; cases h2; cases h3; exact h'
  | i + 2 => simp at h1
theorem rd_num_ {w : World} {M : Nat → Prop} {t : Nat} {k : IntKind} {n : Int} (ht : P.underlying t = some (.int k)) (hs : P.cellsOf t = 1) (ha : isAggT P t = false) (h1 : k.min ≤ n) (h2 : n ≤ k.max) : Rd P md w M (.ty t) (.int n) (.int k n) :=
  ⟨.int ht h1 h2 rfl, hs.symm, ha.symm⟩
/-- ████ What is said of a function, by a walk of it. -/
theorem spec_of (hP : WfP P) {F : Nat} {fn : Func} {cts : List CT} {xs ys : List D} (hfn : P.funcs[F]? = some fn) (hb : fn.body.isSome = true) (hn : (fn.name == "runtime.NumGoroutine") = false) (hm : md F = {})
    (h : ∀ (w : World) (M : Nat → Prop) (vs : List Value), (∀ b, M b → b < w.heap.size) → xs.length = fn.params.size + cts.length → vs.length = fn.params.size + cts.length → (∀ (i : Nat) (t : CT) (x : D) (v : Value), (fn.params.toList.map CT.ty ++ cts)[i]? = some t → xs[i]? = some x → vs[i]? = some v → Rd P md w M t x v) →
      Calls P F vs.toArray w (fun e w' => ∃ us, e = .returned (retV us) ∧ us.length = fn.resultTypes.size ∧ (∀ (i t : Nat) (u : Value), fn.resultTypes.toList[i]? = some t → us[i]? = some u → Rd P md w' M (.ty t) (ys.getD i .nil) u) ∧ Ext w w')) : Spec P md F cts xs ys := by
  refine ⟨fn, hfn, hb, hn, fun w M vs d bid _ hp => ?_⟩
  have nol : ∀ b, ¬ lentN (md F) vs b := fun b ⟨p, v, h1, _⟩ => by rw [hm] at h1; cases h1
  have hlook : postLook P (md F) fn.params.toList fn.resultTypes.toList ys d bid = fun _ => none := by rw [hm]; rfl
  refine (h w M vs (fun b hb => (hp.m b hb).1) (by simpa using hp.lenx) (by simpa using hp.lenv) (fun i t x v h1 h2 h3 => ?_)).mono ?_
  · have := hp.rd i t x v h1 h2 h3 (by rw [hm]; simp)
    exact ⟨this.rd.mono (Nat.le_refl _) (fun _ _ _ => rfl) (fun b hb _ => .inl hb), this.size, this.agg⟩
  · rintro e w' ⟨us, rfl, hl, hh, hx⟩
    refine ⟨us, fun _ => undef, rfl, by simpa using hl, (Stp.of_ext hx).weak (fun _ h => h), ?_, ?_, ?_, ?_, ?_⟩
    · intro ls hls i l u hi hu
      rw [hm] at hls
      simp only [setOwn, Option.some.injEq] at hls
      subst hls
      obtain ⟨t, ht⟩ : ∃ t, fn.resultTypes.toList[i]? = some t := by
        have := (List.getElem?_eq_some_iff.1 hi).1
        rw [resL_len] at this
        exact ⟨_, List.getElem?_eq_getElem this⟩
      have hr := hh i t u ht hu
      rw [resL_at ht, Nat.zero_add] at hi
      injection hi with hi
      subst hi
      have hr' : Rd P md w' (Mof M (postLook P (md F) fn.params.toList fn.resultTypes.toList ys d bid) (fun _ => undef)) (.ty t) (ys.getD i .nil) u := by
        refine rd_weak hr (Ext.refl _) (fun b hb _ => ?_)
        rcases hb with hb | ⟨r, k, hk, _⟩
        · exact hb
        · rw [hlook] at hk; cases hk
      exact (rd_vl' hP hr').1
    · intro r b hb; rw [hlook] at hb; cases hb
    · intro r b B hb; rw [hlook] at hb; cases hb
    · intro r q b c B hb; rw [hlook] at hb; cases hb
    · intro hb; rw [hm] at hb; cases hb
end
end Go.Proofs.YtjmddikeadbmjaaGreat
set_option maxRecDepth 100000
namespace Go.Proofs.YtjmddikeadbmjaaGreat
open Go.RowKit

/-- What a guess comes to. -/
theorem to_exact {U Y g P o b : Nat} (hY : 0 < Y) (hYP : Y ≤ P) (h1 : U / Y ≤ g) (h2 : g ≤ U / Y + 1) (ho : o < P) (hb : b ≤ 1) (h : o + g * Y = U + P * b) :
    (b = 0 → g = U / Y ∧ o = U % Y) ∧ (b ≠ 0 → g = U / Y + 1 ∧ ∀ o2 b2, o2 < P → o2 + P * b2 = o + Y → o2 = U % Y) := by
  have hdm := Nat.div_add_mod U Y
  have hm := Nat.mod_lt U hY
  rw [Nat.mul_comm] at hdm
  generalize U / Y = q at *
  generalize U % Y = r at *
  refine ⟨fun h0 => ?_, fun h0 => ?_⟩
  · subst h0
    rcases Nat.lt_or_ge q g with h3 | h3
    · obtain rfl : g = q + 1 := by omega
      rw [Nat.add_mul] at h; omega
    · obtain rfl : g = q := by omega
      exact ⟨rfl, by omega⟩
  · obtain rfl : b = 1 := by omega
    rcases Nat.lt_or_ge q g with h3 | h3
    · obtain rfl : g = q + 1 := by omega
      refine ⟨rfl, fun o2 b2 h4 h5 => ?_⟩
      rw [Nat.add_mul] at h
      match b2 with
      | 0 => omega
      | 1 => omega
      | b2 + 2 => rw [Nat.mul_add] at h5; omega
    · obtain rfl : g = q := by omega
      omega
/-- The window of a round. -/
theorem long_win {R : List Limb} {n j Y : Nat} (hj : j + (n + 1) ≤ R.length) (hY : Y < B ^ n) (h : nv R < Y * B ^ (j + 1)) :
    R = R.take j ++ (R.drop j).take (n + 1) ++ R.drop (j + (n + 1)) ∧ (R.take j).length = j ∧ ((R.drop j).take (n + 1)).length = n + 1 ∧ nv ((R.drop j).take (n + 1)) < B * Y ∧
    ∀ out : List Limb, out.length = n + 1 → nv out = nv ((R.drop j).take (n + 1)) % Y → (R.take j ++ out ++ R.drop (j + (n + 1))).length = R.length ∧ nv (R.take j ++ out ++ R.drop (j + (n + 1))) < Y * B ^ j ∧
      nv (R.take j ++ out ++ R.drop (j + (n + 1))) + Y * (B ^ j * (nv ((R.drop j).take (n + 1)) / Y)) = nv R := by
  have e1 : R = R.take j ++ (R.drop j).take (n + 1) ++ R.drop (j + (n + 1)) := by
    rw [List.append_assoc, ← List.drop_drop, List.take_append_drop, List.take_append_drop]
  have l1 : (R.take j).length = j := by rw [List.length_take]; omega
  have l2 : ((R.drop j).take (n + 1)).length = n + 1 := by rw [List.length_take, List.length_drop]; omega
  have hlo := nv_lt (R.take j)
  rw [l1] at hlo
  have hv : nv R = nv (R.take j) + B ^ j * nv ((R.drop j).take (n + 1)) + B ^ (j + (n + 1)) * nv (R.drop (j + (n + 1))) := by
    have : nv R = nv (R.take j ++ (R.drop j).take (n + 1) ++ R.drop (j + (n + 1))) := by rw [← e1]
    rw [this, nv_append, nv_append, List.length_append, l1, l2]
  have hY0 : 0 < Y := by
    rcases Nat.eq_zero_or_pos Y with h0 | h0
    · rw [h0] at h; omega
    · exact h0
  have hp := Bp j
  have hi0 : nv (R.drop (j + (n + 1))) = 0 := by
    rcases Nat.eq_zero_or_pos (nv (R.drop (j + (n + 1)))) with h0 | h0
    · exact h0
    · exfalso
      have h3 : B ^ (j + (n + 1)) * 1 ≤ B ^ (j + (n + 1)) * nv (R.drop (j + (n + 1))) := Nat.mul_le_mul_left _ h0
      have h4 : Y * B ^ (j + 1) ≤ B ^ n * B ^ (j + 1) := Nat.mul_le_mul_right _ (Nat.le_of_lt hY)
      rw [← Nat.pow_add, show n + (j + 1) = j + (n + 1) by omega] at h4
      omega
  generalize R.take j = lo at *
  generalize (R.drop j).take (n + 1) = xs at *
  generalize R.drop (j + (n + 1)) = hi at *
  rw [hi0, Nat.mul_zero, Nat.add_zero] at hv
  refine ⟨e1, l1, l2, ?_, fun out ho hn => ⟨?_, ?_, ?_⟩⟩
  · have h5 : B ^ j * nv xs < B ^ j * (B * Y) := by
      have : Y * B ^ (j + 1) = B ^ j * (B * Y) := by rw [Nat.pow_succ, Nat.mul_comm Y, Nat.mul_assoc]
      omega
    exact Nat.lt_of_mul_lt_mul_left h5
  · rw [e1]; simp [ho, l2]
  · rw [nv_append, nv_append, hi0, l1, hn, Nat.mul_zero, Nat.add_zero]
    have h6 : B ^ j * (nv xs % Y) + B ^ j ≤ B ^ j * Y := by
      rw [← Nat.mul_succ]; exact Nat.mul_le_mul_left _ (Nat.mod_lt _ hY0)
    rw [Nat.mul_comm Y]; omega
  · rw [nv_append, nv_append, hi0, l1, hn, Nat.mul_zero, Nat.add_zero, hv, Nat.mul_left_comm Y, Nat.add_assoc, ← Nat.mul_add, Nat.mod_add_div]
theorem rd_slL {w : World} {M : Nat → Prop} {v : Value} {l : List Limb} (h : Rd Tryz.prog md w M (.ty 42) (dL l) v) : SlL w v l := by
  obtain ⟨h1, h2, h3⟩ := h
  have hc1 : Tryz.prog.cellsOf 110 = 1 := by kernel_rfl
  unfold dL at h1
  cases h1 with
  | @sl _ e _ _ A cap bk off ht hc h4 h5 hA hh =>
    have he : e = 110 := by
      have : Tryz.prog.underlying 42 = some (.slice e) := ht
      rw [show Tryz.prog.underlying 42 = some (.slice 110) by kernel_rfl] at this
      injection this with this; injection this with this; exact this.symm
    subst he
    have hv : v = .slice A (l.map dB).length cap := by
      have ha : isAggV v = false := by rw [h3]; kernel_rfl
      rw [cells_of ha] at hc
      simpa using hc
    refine ⟨A, cap, by rw [hv]; simp, by simpa using h4, by simp, fun i x hx => ?_⟩
    rw [List.map_map, List.getElem?_map, Option.map_eq_some_iff] at hx
    obtain ⟨b, hb, rfl⟩ := hx
    have hne : l.map dB ≠ [] := fun e => by rw [List.map_eq_nil_iff.1 e] at hb; simp at hb
    obtain ⟨a1, a2, a3⟩ := hA hne
    have := hh i (dB b) (by rw [List.getElem?_map, hb]; rfl)
    rw [hc1] at this
    refine ⟨_, a1, a3, ?_⟩
    unfold dB at this
    cases this with
    | @int _ k _ _ ht' h1' h2' hc' =>
      have hk : k = .u32 := by
        have : Tryz.prog.underlying 110 = some (.int k) := ht'
        rw [show Tryz.prog.underlying 110 = some (.int .u32) by kernel_rfl] at this
        injection this with this; injection this with this; exact this.symm
      subst hk
      simp only [Nat.mul_one, Nat.add_zero] at hc'
      have ea : (⟨bk, off, none⟩ : Addr).add i = ⟨bk, off + i, none⟩ := by unfold Addr.add; split <;> simp_all
      rw [ea]; exact hc'
theorem win_rd {w : World} {M : Nat → Prop} {G off n c : Nat} {l : List Limb} (h : SlL w (.slice (some ⟨G, off, none⟩) n c) l) (hc : c ≤ maxLen) (hG : ¬ M G) : Rd Tryz.prog md w M (.ty 42) (dL l) (.slice (some ⟨G, off, none⟩) n c) := by
  obtain ⟨h1, h2⟩ := h.len
  have hc1 : Tryz.prog.cellsOf 110 = 1 := by kernel_rfl
  rw [List.length_map] at h1
  refine ⟨.sl (e := 110) (A := some ⟨G, off, none⟩) (cap := c) (bk := G) (off := off) (by kernel_rfl) (by rw [h1, List.length_map]; rfl) (by rw [List.length_map]; omega) hc (fun hne => ?_) (fun i x hx => ?_), by kernel_rfl, by kernel_rfl⟩
  · have : 0 < (l.map iB).length := by
      rw [List.length_map]; exact List.length_pos_iff.2 (fun e => hne (by rw [e]; rfl))
    obtain ⟨ad, ha, hb, _⟩ := h.cellAt 0 this
    cases ha
    exact ⟨rfl, hG, hb⟩
  · rw [List.getElem?_map, Option.map_eq_some_iff] at hx
    obtain ⟨b, hb, rfl⟩ := hx
    have hi : i < (l.map iB).length := by rw [List.length_map]; exact (List.getElem?_eq_some_iff.1 hb).1
    obtain ⟨ad, ha, _, hcell⟩ := h.cellAt i hi
    cases ha
    have ea : (⟨G, off, none⟩ : Addr).add i = ⟨G, off + i, none⟩ := by unfold Addr.add; split <;> simp_all
    rw [ea] at hcell
    have hx : (l.map iB)[i] = (b.toNat : Int) := by simp [iB, (List.getElem?_eq_some_iff.1 hb).2]
    rw [hx] at hcell
    have := b.isLt
    unfold dB
    exact .int (k := .u32) (by kernel_rfl) (by show (0 : Int) ≤ _; omega) (by show _ ≤ (4294967295 : Int); omega) (by rw [hc1]; simpa using hcell)
/-- A window of a row of limbs. -/
theorem OwL.win {w0 w : World} {G cap : Nat} {l : List Limb} (h : OwL w0 w G cap l) {j n c : Nat} (hj : j + n ≤ l.length) (hc : n ≤ c) : SlL w (.slice (some ⟨G, j, none⟩) n c) ((l.drop j).take n) := by
  have hl : (((l.drop j).take n).map iB).length = n := by simp; omega
  refine ⟨some ⟨G, j, none⟩, c, by rw [hl], by rw [hl]; exact hc, by simp, fun i x hx => ?_⟩
  rw [List.getElem?_map, Option.map_eq_some_iff] at hx
  obtain ⟨z, hz, rfl⟩ := hx
  have hi : i < n := by rw [← hl]; exact (List.getElem?_eq_some_iff.1 hz).1
  obtain ⟨h1, h2, h3, h4⟩ := h.cell (j + i) (by omega)
  refine ⟨_, rfl, h4, ?_⟩
  have ea : (⟨G, j, none⟩ : Addr).add i = ⟨G, j + i, none⟩ := by unfold Addr.add; split <;> simp_all
  rw [ea, h1]
  rw [List.getElem?_map, List.getElem?_take, if_pos hi, List.getElem?_drop, List.getElem?_eq_getElem (by omega)] at hz
  simp only [Option.map_some, Option.some.injEq] at hz
  rw [← hz]; rfl
end Go.Proofs.YtjmddikeadbmjaaGreat
set_option maxRecDepth 100000
namespace Go.Proofs.YtjmddikeadbmjaaGreat
open Go.RowKit

theorem elt_u32 : Elt Tryz.prog 42 110 1 4 :=
  ⟨Tryz.underlying42, by
    obtain ⟨i, hi, h1, h2, h3⟩ := info_parts (P := Tryz.prog) (e := 110) (z := .int .u32 0) (size := 1) (bytes := 4) (by kernel_rfl)
    exact ⟨i, _, hi, h1, h2, h3, rfl⟩, by decide⟩

theorem zero_u32 {z : Value} (h : ∃ i, Tryz.prog.info? 110 = some i ∧ i.zero = some z) : z = .int .u32 0 := by
  obtain ⟨i, hi, hz⟩ := h
  obtain ⟨j, hj, h1, _⟩ := info_parts (P := Tryz.prog) (e := 110) (z := .int .u32 0) (size := 1) (bytes := 4) (by kernel_rfl)
  rw [hi] at hj
  cases hj
  rw [hz] at h1
  exact Option.some.inj h1
theorem made_u32 {z : Value} (h : ∃ i, Tryz.prog.info? 110 = some i ∧ i.zero = some z) (n : Nat) : (madeCells z.cells (n * 1)).toList = (List.replicate n (0 : Int)).map (.int .u32) := by
  rw [zero_u32 h, made_one _ rfl]; simp
/-- A row of limbs, just told. -/
theorem own_limbs {w w' : World} {G cap : Nat} {cur : Array Value} {q : List Limb} (hG : w.heap.size ≤ G) (hB : w'.heap[G]? = some (.cells cur 110 (0, 0))) (hle : q.length ≤ cap) (hcap : cap ≤ maxLen) (hsz : cur.size = cap * Tryz.prog.cellsOf 110)
    (h : ∀ (i : Nat) (x : D), (q.map dB)[i]? = some x → ∃ M', RdC Tryz.prog md w' M' (.ty 110) x (fun j => cur[i * Tryz.prog.cellsOf 110 + j]?)) (hx : Ext w w') : OwL w w' G cap q := by
  have hc1 : Tryz.prog.cellsOf 110 = 1 := by kernel_rfl
  rw [hc1] at hsz h
  refine ⟨⟨by simp, .inr ⟨G, cap, cur, rfl, hG, hB, hle, hcap, hsz, ?_⟩⟩, hx⟩
  apply List.ext_getElem
  · simp; omega
  intro i h1 h2
  simp only [List.length_map] at h2
  obtain ⟨M', hr⟩ := h i (dB q[i]) (by simp [h2])
  simp only [Nat.mul_one, Nat.add_zero] at hr
  unfold dB at hr
  cases hr with
  | @int _ k _ _ ht' h1' h2' hc' =>
    have hk : k = .u32 := by
      have : Tryz.prog.underlying 110 = some (.int k) := ht'
      rw [show Tryz.prog.underlying 110 = some (.int .u32) by kernel_rfl] at this
      injection this with this; injection this with this; exact this.symm
    subst hk
    simp only [Nat.add_zero] at hc'
    have hi : i < cur.size := by omega
    rw [Array.getElem?_eq_getElem hi] at hc'
    simp only [List.getElem_take, Array.getElem_toList, List.getElem_map, iB]
    exact Option.some.inj hc'
theorem OwL.far {w0 w w' : World} {G G' cap : Nat} {l : List Limb} (h : OwL w0 w G cap l) (hg : w.grownBy w' (some G')) (hne : G ≠ G') (hG : w0.heap.size ≤ G') : OwL w0 w' G cap l :=
  ⟨h.own.kept hg (.inr (by simp only [Value.ownBlock]; intro e; injection e with e; exact hne e)), h.ext.grown hg (fun k hk => by injection hk with hk; omega)⟩
theorem to_calls {w w5 : World} {lo xs hi q1 : List Limb} {G1 G2 c1 c2 n j g c' : Nat} (hn : n ≤ q1.length) (hc1 : n ≤ c1) (l1 : lo.length = j) (l2 : xs.length = n + 1) (hlen : (lo ++ xs ++ hi).length ≤ 1000000000) (hc' : n + 1 ≤ c') (hg2 : w.heap.size ≤ G2) (h12 : G1 ≠ G2)
    (ow2 : OwL w w5 G2 c2 (lo ++ xs ++ hi)) (ow1 : OwL w w5 G1 c1 q1) (hg : g < B) : Calls Tryz.prog 163 #[.slice (some ⟨G2, j, none⟩) (n + 1) c', .slice (some ⟨G1, 0, none⟩) n c1, .int .u64 g] w5 (RetTO w w5 lo xs hi (q1.take n) G2 c2 g) := by
  have ld : (q1.take n).length = n := by rw [List.length_take]; omega
  have := takeOff_any w w5 lo xs hi (q1.take n) G2 c2 c' g (.slice (some ⟨G1, 0, none⟩) n c1) (by omega) hlen (by omega) ow2 (fun w' hg => by
    have := (ow1.far hg h12 hg2).win (j := 0) (n := n) (c := c1) (by omega) hc1
    rwa [List.drop_zero] at this) hg
  rwa [l1, l2] at this
theorem pb_calls {w w5 : World} {lo xs hi q1 : List Limb} {G1 G2 c1 c2 n j c' : Nat} (hn : n ≤ q1.length) (hc1 : n ≤ c1) (l1 : lo.length = j) (l2 : xs.length = n + 1) (hlen : (lo ++ xs ++ hi).length ≤ 1000000000) (hc' : n + 1 ≤ c') (hg2 : w.heap.size ≤ G2) (h12 : G1 ≠ G2)
    (ow2 : OwL w w5 G2 c2 (lo ++ xs ++ hi)) (ow1 : OwL w w5 G1 c1 q1) : Calls Tryz.prog 164 #[.slice (some ⟨G2, j, none⟩) (n + 1) c', .slice (some ⟨G1, 0, none⟩) n c1] w5 (RetPB w w5 lo xs hi (q1.take n) G2 c2) := by
  have ld : (q1.take n).length = n := by rw [List.length_take]; omega
  have := putBack_any w w5 lo xs hi (q1.take n) G2 c2 c' (.slice (some ⟨G1, 0, none⟩) n c1) (by omega) hlen (by omega) ow2 (fun w' hg => by
    have := (ow1.far hg h12 hg2).win (j := 0) (n := n) (c := c1) (by omega) hc1
    rwa [List.drop_zero] at this)
  rwa [l1, l2] at this
/-- The quotient's next limb. -/
theorem quo_set {qh : List Limb} {j : Nat} (x : Limb) : (List.replicate (j + 1) (0 : Limb) ++ qh).set j x = List.replicate j 0 ++ (x :: qh) := by
  rw [List.replicate_succ', List.append_assoc, List.set_append_right _ _ (by simp), List.length_replicate, Nat.sub_self]; rfl
def RetLong (x y : Nat) (w : World) (e : Ending) (w' : World) : Prop := ∃ u1 u2, e = .returned (.tuple #[u1, u2]) ∧ Rd Tryz.prog md w' (fun b => b < w.heap.size) (.ty 42) (dL (lb (x / y))) u1 ∧ Rd Tryz.prog md w' (fun b => b < w.heap.size) (.ty 42) (dL (lb (x % y))) u2 ∧ Ext w w'

/-- How far the divisor is shifted. -/
theorem norm_facts {y n s t : Nat} (hn : (lb y).length = n + 1) (ht : t = y / B ^ n) (h1 : t * 2 ^ s < B) (h2 : B ≤ 2 * (t * 2 ^ s)) (hs : s < 32) : y * 2 ^ s < B ^ (n + 1) ∧ B ^ (n + 1) ≤ 2 * (y * 2 ^ s) := by
  have hp := Bp n
  have hs0 : 0 < 2 ^ s := Nat.pow_pos (by decide)
  have hB : B = 2 ^ (32 - s) * 2 ^ s := by rw [← Nat.pow_add, show 32 - s + s = 32 by omega]; rfl
  have h3 : t < 2 ^ (32 - s) := by rw [hB] at h1; exact Nat.lt_of_mul_lt_mul_right h1
  have h4 : (t + 1) * 2 ^ s ≤ B := by rw [hB]; exact Nat.mul_le_mul_right _ h3
  have h5 : y < (t + 1) * B ^ n := by rw [ht, Nat.mul_comm]; exact Nat.lt_mul_div_succ y hp
  have h6 : t * B ^ n ≤ y := by rw [ht]; exact Nat.div_mul_le_self _ _
  rw [Nat.pow_succ]
  constructor
  · calc y * 2 ^ s < (t + 1) * B ^ n * 2 ^ s := Nat.mul_lt_mul_of_pos_right h5 hs0
      _ = B ^ n * ((t + 1) * 2 ^ s) := by rw [Nat.mul_comm (t + 1), Nat.mul_assoc]
      _ ≤ B ^ n * B := Nat.mul_le_mul_left _ h4
  · calc B ^ n * B ≤ B ^ n * (2 * (t * 2 ^ s)) := Nat.mul_le_mul_left _ h2
      _ = 2 * (t * B ^ n * 2 ^ s) := by rw [Nat.mul_left_comm, Nat.mul_comm t (B ^ n), Nat.mul_assoc]
      _ ≤ 2 * (y * 2 ^ s) := Nat.mul_le_mul_left _ (Nat.mul_le_mul_right _ h6)
theorem nv_take_all {q : List Limb} {n v : Nat} (h : nv q = v) (hv : v < B ^ n) (hn : n ≤ q.length) : nv (q.take n) = v := by
  have := nv_append (q.take n) (q.drop n)
  rw [List.take_append_drop, List.length_take, Nat.min_eq_left hn, h] at this
  rcases Nat.eq_zero_or_pos (nv (q.drop n)) with h0 | h0
  · rw [h0] at this; omega
  · have : B ^ n * 1 ≤ B ^ n * nv (q.drop n) := Nat.mul_le_mul_left _ h0
    omega

/-- What holds ahead of a round. -/
def LInv (X Y m n : Nat) (w wr : World) (G1 c1 G2 c2 G3 c3 : Nat) (q1 : List Limb) (k : Nat) (R qh : List Limb) : Prop :=
  k ≤ m - n + 1 ∧ R.length = m + 1 ∧ qh.length = m - n + 1 - k ∧ nv R < Y * B ^ k ∧ nv R + Y * (B ^ k * nv qh) = X ∧ OwL w wr G2 c2 R ∧ OwL w wr G3 c3 (List.replicate k 0 ++ qh) ∧ OwL w wr G1 c1 q1
theorem LInv.start {X Y m n : Nat} {w wr : World} {G1 c1 G2 c2 G3 c3 : Nat} {q1 q2 : List Limb} (h2 : q2.length = m + 1) (hv : nv q2 = X) (hX : X < Y * B ^ (m - n + 1)) (o1 : OwL w wr G1 c1 q1) (o2 : OwL w wr G2 c2 q2) (o3 : OwL w wr G3 c3 (List.replicate (m - n + 1) 0)) : LInv X Y m n w wr G1 c1 G2 c2 G3 c3 q1 (m - n + 1) q2 [] :=
  ⟨Nat.le_refl _, h2, by rw [Nat.sub_self]; rfl, by rw [hv]; exact hX, by rw [nv, Nat.mul_zero, Nat.mul_zero]; exact hv, o2, by rw [List.append_nil]; exact o3, o1⟩
set_option maxHeartbeats 4000000 in
theorem long_any (x y : Nat) (va vb : Value) (w : World) (M : Nat → Prop) (ha : Rd Tryz.prog md w M (.ty 42) (dL (lb x)) va) (hb : Rd Tryz.prog md w M (.ty 42) (dL (lb y)) vb) (hM : ∀ b, M b → b < w.heap.size)
    (h1 : 1 < (lb y).length) (hxy : y ≤ x) (hl : (lb x).length ≤ 100000) : Calls Tryz.prog 157 #[va, vb] w (RetLong x y w) := by
  have hyx : (lb y).length ≤ (lb x).length := lb_len.2 (Nat.lt_of_le_of_lt hxy (lb_len.1 (Nat.le_refl _)))
  obtain ⟨n, hn⟩ : ∃ n, (lb y).length = n := ⟨_, rfl⟩
  obtain ⟨m, hm⟩ : ∃ m, (lb x).length = m := ⟨_, rfl⟩
  rw [hn, hm] at hyx
  rw [hm] at hl
  rw [hn] at h1
  obtain ⟨A, ca, rfl, hca, _⟩ := (rd_slL ha).form
  obtain ⟨Ab, cb, rfl, hcb, hcel⟩ := (rd_slL hb).form
  rw [List.length_map, hm] at ha hca
  rw [List.length_map, hn] at hb hcb
  have HA := Lib.hid ha
  have HB := Lib.hid hb
  clear ha hb
  obtain ⟨ad, rfl, hb1, hce⟩ := hcel (n - 1) (by simp; omega)
  have hk : ((lb y).map iB)[n - 1]'(by simp; omega) = (((lb y)[n - 1]'(by omega)).toNat : Int) := by simp [iB]
  rw [hk, nv_limb (lb y) (n - 1) (by omega), nv_lb] at hce
  have hyl := (lb_len (n := y) (k := n)).1 (by omega)
  have hyg := can_len (x := y) (k := n - 1) (by omega)
  have htB : y / B ^ (n - 1) < B := by rw [Nat.div_lt_iff_lt_mul (Bp _), Nat.mul_comm, ← Nat.pow_succ, show (n - 1).succ = n by omega]; exact hyl
  rw [Nat.mod_eq_of_lt htB] at hce
  have ht0 : 0 < y / B ^ (n - 1) := Nat.div_pos hyg (Bp _)
  obtain ⟨s, hLZ, hs32, hs1, hs2⟩ := bits_Lz_ex _ htB ht0
  obtain ⟨hY1, hY2⟩ := norm_facts (n := n - 1) (by omega) rfl hs1 hs2 hs32
  rw [show n - 1 + 1 = n by omega] at hY1 hY2
  obtain ⟨q1, hq1, hq1v, sp1⟩ := nat_up_ex (lb y) s hs32 (by omega)
  obtain ⟨q2, hq2, hq2v, sp2⟩ := nat_up_ex (lb x) s hs32 (by omega)
  rw [nv_lb] at hq1v hq2v
  rw [hn] at hq1
  rw [hm] at hq2
  have hdv := nv_take_all hq1v hY1 (by omega)
  have hX1 : x * 2 ^ s < (y * 2 ^ s) * B ^ (m - n + 1) := by
    have h2 : x < B ^ m := lb_len.1 (by omega)
    have h3 : B ^ n * B ^ (m - n + 1) ≤ 2 * (y * 2 ^ s) * B ^ (m - n + 1) := Nat.mul_le_mul_right _ hY2
    rw [← Nat.pow_add, show n + (m - n + 1) = m + 1 by omega] at h3
    have h4 : 2 ^ s ≤ 2 ^ 31 := Nat.pow_le_pow_right (by decide) (by omega)
    have h5 : x * 2 ^ s ≤ x * 2 ^ 31 := Nat.mul_le_mul_left _ h4
    rw [Nat.mul_assoc] at h3
    rw [Nat.pow_succ, B_eq] at h3
    rw [B_eq] at h2 ⊢
    omega
  generalize y / B ^ (n - 1) = top at *
  have HLZ := Lib.hid hLZ
  have SP1 := Lib.hid sp1
  have SP2 := Lib.hid sp2
  have HM := Lib.hid hM
  have X1 := Lib.hid hX1
  have Y1 := Lib.hid hY1
  have Y2 := Lib.hid hY2
  clear hcel hk hLZ sp1 sp2 hM hX1 hY1 hY2 hyg hyl
  simp only [List.length_map, hn, hm]
  go_enter Tryz.func157, Tryz.ntmps157
  go_wp2_with (first
    | (go_at_call 160; refine (sp_int (t := 3) (vs := [_]) (M := fun _ => False) HLZ.out Tryz.func160 (by kernel_rfl) (fun _ h => h.elim) (by kernel_rfl) rfl (rd_all1 (by kernel_rfl) (rd_num_ (t := 110) (k := .u32) (by kernel_rfl) (by kernel_rfl) (by kernel_rfl) (by show (0 : Int) ≤ _; omega) (by show _ ≤ (4294967295 : Int); rw [B_eq] at htB; omega))) (by kernel_rfl) (k := .i64) (by kernel_rfl)).mono ?_; rintro e w1 ⟨rfl, _, hx1⟩)
    | (go_at_call_of 161 (Value.slice (some ad) n cb); refine (own_calls (t := 42) (e := 110) (vs := [_, _]) (M := M) SP1.out Tryz.func161 (by kernel_rfl) (fun b h => Nat.lt_of_lt_of_le (HM.out b h) hx1.size) (by kernel_rfl) rfl (rd_all2 (by kernel_rfl) (rd_weak (t := .ty 42) HB.out hx1 (fun _ h _ => h)) (rd_num_ (t := 3) (k := .i64) (by kernel_rfl) (by kernel_rfl) (by kernel_rfl) (by show (-9223372036854775808 : Int) ≤ _; omega) (by show _ ≤ (9223372036854775807 : Int); omega))) (by kernel_rfl) (by kernel_rfl) (by kernel_rfl) (fun e => by have := congrArg List.length e; simp [hq1] at this)).mono ?_; rintro e w2 ⟨G1, c1, cur1, rfl, hG1, hG1l, hB1, hle1, hc1, hsz1, hr1, hx2⟩; rw [List.length_map, hq1] at hle1 ⊢)
    | (go_at_call_of 161 (Value.slice A m ca); refine (own_calls (t := 42) (e := 110) (vs := [_, _]) (M := M) SP2.out Tryz.func161 (by kernel_rfl) (fun b h => Nat.lt_of_lt_of_le (HM.out b h) (hx1.trans hx2).size) (by kernel_rfl) rfl (rd_all2 (by kernel_rfl) (rd_weak (t := .ty 42) HA.out (hx1.trans hx2) (fun _ h _ => h)) (rd_num_ (t := 3) (k := .i64) (by kernel_rfl) (by kernel_rfl) (by kernel_rfl) (by show (-9223372036854775808 : Int) ≤ _; omega) (by show _ ≤ (9223372036854775807 : Int); omega))) (by kernel_rfl) (by kernel_rfl) (by kernel_rfl) (fun e => by have := congrArg List.length e; simp [hq2] at this)).mono ?_; rintro e w3 ⟨G2, c2, cur2, rfl, hG2, hG2l, hB2, hle2, hc2, hsz2, hr2, hx3⟩; rw [List.length_map, hq2] at hle2 ⊢)
    | (at_make; refine wpList_mknc (w0 := w3) elt_u32 rfl _ _ rfl (Ext.refl w3) (m - n + 1) (m - n + 1) rfl rfl (by omega) (by omega) (by omega) (by omega) (by unfold maxLen; omega) ?_; intro v4 w4 z hz hown4 hx4; rw [made_u32 hz] at hown4; have HO4 := Lib.hid hown4; rcases hown4.own.2 with ⟨_, hh⟩ | ⟨G3, c3, cur3, rfl, hG3, _, hnc3, c3m, _, _⟩; (exact absurd hh (by omega)); clear hown4 hz))
  have ow1 : OwL w w4 G1 c1 q1 := ((own_limbs hG1 hB1 (by omega) hc1 hsz1 hr1 hx2).base hx1).step (hx3.trans hx4)
  have ow2 : OwL w w4 G2 c2 q2 := ((own_limbs hG2 hB2 (by omega) hc2 hsz2 hr2 hx3).base (hx1.trans hx2)).step hx4
  have ow3 : OwL w w4 G3 c3 (List.replicate (m - n + 1) 0) := by
    have := HO4.out.base (hx1.trans (hx2.trans hx3))
    unfold OwL
    rw [List.length_replicate, List.map_replicate, show iB 0 = 0 from rfl]
    exact this
  have h12 : G1 ≠ G2 := by omega
  have h13 : G1 ≠ G3 := by have := hx3.size; omega
  have h23 : G2 ≠ G3 := by omega
  have hg1 : w.heap.size ≤ G1 := Nat.le_trans hx1.size hG1
  have hg2 : w.heap.size ≤ G2 := Nat.le_trans (hx1.trans hx2).size hG2
  have hg3 : w.heap.size ≤ G3 := Nat.le_trans (hx1.trans (hx2.trans hx3)).size hG3
  have O1 := Lib.hid ow1
  have O2 := Lib.hid ow2
  have O3 := Lib.hid ow3
  have DV := Lib.hid hdv
  have Q1 := Lib.hid hq1
  have Q2 := Lib.hid hq2
  have Q2v := Lib.hid hq2v
  clear ow1 ow2 ow3 HO4 hB1 hB2 hsz1 hsz2 hr1 hr2 hG1l hG2l hdv hq1 hq2 hq1v hq2v hce
  go_loopw [11] (fun jv wr => ∃ (k : Nat) (R qh : List Limb), jv = .int .i64 ((k : Int) - 1) ∧ LInv (x * 2 ^ s) (y * 2 ^ s) m n w wr G1 c1 G2 c2 G3 c3 q1 k R qh) (fun jv _ => (intOf jv + 1).toNat)
  case atStart => exact ⟨m - n + 1, q2, [], by congr 1; omega, LInv.start Q2.out Q2v.out X1.out O1.out O2.out O3.out⟩
  case round =>
    obtain ⟨k, R, qh, rfl, hk, hR, hql, hlt, heq, ow2, ow3, ow1⟩ := hrel
    by_cases hk0 : k = 0
    · subst hk0
      rw [Nat.pow_zero, Nat.mul_one] at hlt
      rw [Nat.pow_zero, Nat.one_mul] at heq
      rw [List.replicate_zero, List.nil_append] at ow3
      have Y0 : 0 < y * 2 ^ s := Nat.lt_of_le_of_lt (Nat.zero_le _) hlt
      have s0 : 0 < 2 ^ s := Nat.pow_pos (by decide)
      have q1e : nv qh = x / y := by
        have h1 : (x * 2 ^ s) / (y * 2 ^ s) = x / y := Nat.mul_div_mul_right _ _ s0
        rw [← h1, ← heq, Nat.add_mul_div_left _ _ Y0, Nat.div_eq_of_lt hlt, Nat.zero_add]
      have q2e : nv (R.take n) / 2 ^ s = x % y := by
        rw [nv_take_all rfl (Nat.lt_trans hlt Y1.out) (by omega)]
        have h1 : (x * 2 ^ s) % (y * 2 ^ s) = x % y * 2 ^ s := Nat.mul_mod_mul_right _ _ _
        have h2 : nv R = x % y * 2 ^ s := by rw [← h1, ← heq, Nat.add_mul_mod_self_left, Nat.mod_eq_of_lt hlt]
        rw [h2, Nat.mul_div_cancel _ s0]
      have TR := nat_trim_sp qh (by omega)
      have DN := nat_down_sp (R.take n) s hs32 (by rw [List.length_take]; omega)
      rw [q1e] at TR
      rw [q2e] at DN
      have hqw := ow3.win (j := 0) (n := m - n + 1) (c := c3) (by omega) hnc3
      rw [List.drop_zero, List.take_of_length_le (by omega)] at hqw
      have hrw := ow2.win (j := 0) (n := n) (c := c2) (by omega) (by omega)
      rw [List.drop_zero] at hrw
      have HTR := Lib.hid TR
      have HDN := Lib.hid DN
      have QWN := Lib.hid hqw
      have RWN := Lib.hid hrw
      have XT := Lib.hid ow3.ext
      clear TR DN hqw hrw ow1 ow2 ow3 q1e q2e hlt heq
      go_wp2_with fail
      refine region_growL 9 [[], [(0, 77)], [], [], [(2, 79), (3, 80)], [], [(4, 81), (5, 82)], [(1, 78)], [(6, 83)]] [(0, 77), (1, 78), (2, 79), (3, 80), (4, 81), (5, 82), (6, 83), (7, 4), (8, 5)] (by kernel_rfl) (by kernel_rfl) (by kernel_rfl) (by kernel_rfl) ?_
      apply Grow.step
      · intro w2 hw2
        intro K hK
        go_wp2_with fail
        first | exact hK _ _ (Ext.refl _) EqV.rfl_ | trace "op 0"
      · first | exact stay_eq _ | (intro v w w1 h hx; exact SlI.keep h hx) | (intro v w w1 h hx; exact IntV.keep h hx) | (intro v w w1 h hx; exact SlN.keep h hx) | (intro v w w1 h hx; exact h)
      apply Grow.step
      · intro w2 hw2
        intro n1 h1
        simp only [upd, reduceIte, Nat.reduceEqDiff, Nat.reduceAdd] at h1
        first | (unfold EqV at h1; subst h1) | skip
        intro K hK
        go_wp2_with fail
        (refine (sp_sl (t := 42) (vs := [_]) (M := fun b ↦ b < w.heap.size) HTR.out Tryz.func150 (by kernel_rfl) (fun b h ↦ Nat.lt_of_lt_of_le h (XT.out.trans (((Ext.refl _).drew).trans hw2)).size) (by kernel_rfl) rfl (rd_all1 (t := 42) (by kernel_rfl) (win_rd (SlI.keep QWN.out (((Ext.refl _).drew).trans hw2)) c3m (by omega))) (by kernel_rfl) (by kernel_rfl)).mono ?_; rintro e w' ⟨u5, rfl, hu5, hx5⟩; (go_wp2_with fail); exact hK _ _ hx5 hu5)
      · (intro v w1 w2 h hx; exact rd_weak h hx (fun _ h _ => h))
      apply Grow.step
      · intro w2 hw2
        intro K hK
        go_wp2_with fail
        first | exact hK _ _ (Ext.refl _) EqV.rfl_ | trace "op 2"
      · first | exact stay_eq _ | (intro v w w1 h hx; exact SlI.keep h hx) | (intro v w w1 h hx; exact IntV.keep h hx) | (intro v w w1 h hx; exact SlN.keep h hx) | (intro v w w1 h hx; exact h)
      apply Grow.step
      · intro w2 hw2
        intro K hK
        go_wp2_with fail
        first | exact hK _ _ (Ext.refl _) EqV.rfl_ | trace "op 3"
      · first | exact stay_eq _ | (intro v w w1 h hx; exact SlI.keep h hx) | (intro v w w1 h hx; exact IntV.keep h hx) | (intro v w w1 h hx; exact SlN.keep h hx) | (intro v w w1 h hx; exact h)
      apply Grow.step
      · intro w2 hw2
        intro n1 h1
        simp only [upd, reduceIte, Nat.reduceEqDiff, Nat.reduceAdd] at h1
        first | (unfold EqV at h1; subst h1) | skip
        intro n2 h2
        simp only [upd, reduceIte, Nat.reduceEqDiff, Nat.reduceAdd] at h2
        first | (unfold EqV at h2; subst h2) | skip
        intro K hK
        go_wp2_with fail
        first | exact hK _ _ (Ext.refl _) EqV.rfl_ | exact hK _ _ (Ext.refl _) h1 | exact hK _ _ (Ext.refl _) h2 | trace "op 4"
      · first | exact stay_eq _ | (intro v w w1 h hx; exact SlI.keep h hx) | (intro v w w1 h hx; exact IntV.keep h hx) | (intro v w w1 h hx; exact SlN.keep h hx) | (intro v w w1 h hx; exact h)
      apply Grow.step
      · intro w2 hw2
        intro K hK
        go_wp2_with fail
        first | exact hK _ _ (Ext.refl _) EqV.rfl_ | trace "op 5"
      · first | exact stay_eq _ | (intro v w w1 h hx; exact SlI.keep h hx) | (intro v w w1 h hx; exact IntV.keep h hx) | (intro v w w1 h hx; exact SlN.keep h hx) | (intro v w w1 h hx; exact h)
      apply Grow.step
      · intro w2 hw2
        intro n1 h1
        simp only [upd, reduceIte, Nat.reduceEqDiff, Nat.reduceAdd] at h1
        first | (unfold EqV at h1; subst h1) | skip
        intro n2 h2
        simp only [upd, reduceIte, Nat.reduceEqDiff, Nat.reduceAdd] at h2
        first | (unfold EqV at h2; subst h2) | skip
        intro K hK
        go_wp2_with fail
        (refine (sp_sl (t := 42) (vs := [_, _]) (M := fun b ↦ b < w.heap.size) HDN.out Tryz.func165 (by kernel_rfl) (fun b h ↦ Nat.lt_of_lt_of_le h (XT.out.trans (((Ext.refl _).drew).trans hw2)).size) (by kernel_rfl) rfl (rd_all2 (t := 42) (by kernel_rfl) (win_rd (SlI.keep RWN.out (((Ext.refl _).drew).trans hw2)) hc2 (by omega)) (rd_num_ (t := 3) (k := .i64) (by kernel_rfl) (by kernel_rfl) (by kernel_rfl) (by show (-9223372036854775808 : Int) ≤ _; omega) (by show _ ≤ (9223372036854775807 : Int); omega))) (by kernel_rfl) (by kernel_rfl)).mono ?_; rintro e w' ⟨u5, rfl, hu5, hx5⟩; (go_wp2_with fail); exact hK _ _ hx5 hu5)
      · (intro v w1 w2 h hx; exact rd_weak h hx (fun _ h _ => h))
      apply Grow.step
      · intro w2 hw2
        intro n1 h1
        simp only [upd, reduceIte, Nat.reduceEqDiff, Nat.reduceAdd] at h1
        first | (unfold EqV at h1; subst h1) | skip
        intro K hK
        go_wp2_with fail
        ((first | exact hK _ _ (Ext.refl _) h1 | exact hK _ _ (Ext.refl _) h2))
      · (intro v w1 w2 h hx; exact rd_weak h hx (fun _ h _ => h))
      apply Grow.step
      · intro w2 hw2
        intro n1 h1
        simp only [upd, reduceIte, Nat.reduceEqDiff, Nat.reduceAdd] at h1
        first | (unfold EqV at h1; subst h1) | skip
        intro K hK
        go_wp2_with fail
        ((first | exact hK _ _ (Ext.refl _) h1 | exact hK _ _ (Ext.refl _) h2))
      · (intro v w1 w2 h hx; exact rd_weak h hx (fun _ h _ => h))
      refine Grow.last (fun w2 hw2 => ?_)
      intro n77 h77; simp only [upd, reduceIte, Nat.reduceEqDiff, Nat.reduceAdd] at h77; (first | (unfold EqV at h77; subst h77) | skip)
      intro n78 h78; simp only [upd, reduceIte, Nat.reduceEqDiff, Nat.reduceAdd] at h78; (first | (unfold EqV at h78; subst h78) | skip)
      intro n79 h79; simp only [upd, reduceIte, Nat.reduceEqDiff, Nat.reduceAdd] at h79; (first | (unfold EqV at h79; subst h79) | skip)
      intro n80 h80; simp only [upd, reduceIte, Nat.reduceEqDiff, Nat.reduceAdd] at h80; (first | (unfold EqV at h80; subst h80) | skip)
      intro n81 h81; simp only [upd, reduceIte, Nat.reduceEqDiff, Nat.reduceAdd] at h81; (first | (unfold EqV at h81; subst h81) | skip)
      intro n82 h82; simp only [upd, reduceIte, Nat.reduceEqDiff, Nat.reduceAdd] at h82; (first | (unfold EqV at h82; subst h82) | skip)
      intro n83 h83; simp only [upd, reduceIte, Nat.reduceEqDiff, Nat.reduceAdd] at h83; (first | (unfold EqV at h83; subst h83) | skip)
      intro n4 h4; simp only [upd, reduceIte, Nat.reduceEqDiff, Nat.reduceAdd] at h4; (first | (unfold EqV at h4; subst h4) | skip)
      intro n5 h5; simp only [upd, reduceIte, Nat.reduceEqDiff, Nat.reduceAdd] at h5; (first | (unfold EqV at h5; subst h5) | skip)
      refine Need.done ?_
      simp only [List.drop_succ_cons, List.drop_zero]
      go_simp
      go_wp2_with fail
      go_ret2
      exact ⟨_, _, rfl, h4, h5, XT.out.trans (((Ext.refl _).drew).trans hw2)⟩
    · obtain ⟨j, rfl⟩ : ∃ j, k = j + 1 := ⟨k - 1, by omega⟩
      obtain ⟨e1, l1, l2, l3, l4⟩ := long_win (R := R) (n := n) (j := j) (by omega) Y1.out hlt
      have RW := Lib.hid ow2
      have QW := Lib.hid ow3
      have DW := Lib.hid ow1
      have L4 := Lib.hid l4
      have L3 := Lib.hid l3
      have L2 := Lib.hid l2
      have L1 := Lib.hid l1
      have E1 := Lib.hid e1
      have LT := Lib.hid hlt
      have EQ := Lib.hid heq
      clear ow1 ow2 ow3 l1 l2 l3 l4 e1 hlt heq
      have DS : Hid (SlL wr (.slice (some ⟨G1, 0, none⟩) n c1) (q1.take n)) := by
        have := DW.out.win (j := 0) (n := n) (c := c1) (by have := Q1.out; omega) (by omega)
        rwa [List.drop_zero] at this
      have WIN := Lib.hid (RW.out.win (j := j) (n := n + 1) (c := c2 - j) (by omega) (by omega))
      obtain ⟨g, spE, hgl, hgu, hgB⟩ := nat_estimate_ex ((R.drop j).take (n + 1)) (q1.take n) (n - 2) (by have := Q1.out; rw [List.length_take]; omega) (by rw [L2.out]; omega) (by omega) (by rw [DV.out, show n - 2 + 2 = n by omega]; exact Y2.out) (by rw [DV.out]; exact L3.out)
      rw [DV.out] at hgl hgu
      have SPE := Lib.hid spE
      have GL := Lib.hid hgl
      have GU := Lib.hid hgu
      have GB := Lib.hid hgB
      clear spE hgl hgu
      rw [B_eq] at hgB
      have en : j + n + 1 - j = n + 1 := by omega
      go_wp2_with (go_at_call 162; rw [en]; refine (sp_int (t := 22) (vs := [_, _]) (M := fun _ => False) SPE.out Tryz.func162 (by kernel_rfl) (fun _ h => h.elim) (by kernel_rfl) rfl (rd_all2 (t := 42) (u := 42) (by kernel_rfl) (win_rd WIN.out (by omega) id) (win_rd DS.out (by omega) id)) (by kernel_rfl) (k := .u64) (by kernel_rfl)).mono ?_; rintro e w5 ⟨rfl, _, hx5⟩)
      have LEN : Hid ((R.take j ++ (R.drop j).take (n + 1) ++ R.drop (j + (n + 1))).length ≤ 1000000000) := by show _ ≤ _; rw [← E1.out]; omega
      have hq1n : n ≤ q1.length := by have := Q1.out; omega
      have RW5 : Hid (OwL w w5 G2 c2 (R.take j ++ (R.drop j).take (n + 1) ++ R.drop (j + (n + 1)))) := by show OwL _ _ _ _ _; rw [← E1.out]; exact RW.out.step hx5
      have QW5 : Hid (OwL w w5 G3 c3 (List.replicate (j + 1) 0 ++ qh)) := QW.out.step hx5
      have DW5 : Hid (OwL w w5 G1 c1 q1) := DW.out.step hx5
      refine (to_calls hq1n (by omega) L1.out L2.out LEN.out (by omega) hg2 h12 RW5.out DW5.out GB.out).mono ?_
      rintro e w6 ⟨out, b, hb01, rfl, hol, hov, how, hgr⟩
      rw [L2.out] at hol hov
      rw [DV.out] at hov
      have Y0 : Hid (0 < y * 2 ^ s) := by
        rcases Nat.eq_zero_or_pos (y * 2 ^ s) with h0 | h0
        · have := LT.out; rw [h0] at this; omega
        · exact h0
      have YP : Hid (y * 2 ^ s ≤ B ^ (n + 1)) := Nat.le_trans (Nat.le_of_lt Y1.out) (Nat.pow_le_pow_right B_pos (by omega))
      have EX := Lib.hid (to_exact Y0.out YP.out GL.out GU.out (by have := nv_lt out; rwa [hol] at this) hb01 hov)
      have QW6 : Hid (OwL w w6 G3 c3 (List.replicate (j + 1) 0 ++ qh)) := QW5.out.far hgr h23.symm hg2
      have DW6 : Hid (OwL w w6 G1 c1 q1) := DW5.out.far hgr h12 hg2
      have HOW := Lib.hid how
      have HOL := Lib.hid hol
      clear hov how hgr hol
      -- the end of a round
      have fin : Hid (∀ (w7 : World) (o2 : List Limb) (g2 : Nat), o2.length = n + 1 → nv o2 = nv ((R.drop j).take (n + 1)) % (y * 2 ^ s) → g2 = nv ((R.drop j).take (n + 1)) / (y * 2 ^ s) → OwL w w7 G2 c2 (R.take j ++ o2 ++ R.drop (j + (n + 1))) → OwL w w7 G3 c3 (List.replicate (j + 1) 0 ++ qh) → OwL w w7 G1 c1 q1 → g2 < B →
          ∃ (k : Nat) (R' qh' : List Limb), Value.int IntKind.i64 ((j : Int) - 1) = .int .i64 ((k : Int) - 1) ∧ LInv (x * 2 ^ s) (y * 2 ^ s) m n w (w7.setCell ⟨G3, j, none⟩ (.int .u32 (g2 : Int))) G1 c1 G2 c2 G3 c3 q1 k R' qh') := by
        intro w7 o2 g2 t1 t2 t3 t4 t5 t6 t7
        obtain ⟨u1, u2, u3⟩ := L4.out o2 t1 t2
        have gs : w7.grownBy (w7.setCell ⟨G3, j, none⟩ (.int .u32 (g2 : Int))) (some G3) := grown_set (grown_refl _ _) _ _ _
        refine ⟨j, _, BitVec.ofNat 32 g2 :: qh, rfl, by omega, u1.trans hR, by simp; omega, u2, ?_, t4.far gs h23 hg3, ?_, t6.far gs h13 hg3⟩
        · rw [← EQ.out, ← u3, nv, ofNat_lt t7, ← t3, Nat.mul_add, Nat.mul_add, Nat.pow_succ, Nat.mul_assoc (B ^ j)]; omega
        · have := t5.set j (by simp; omega) (BitVec.ofNat 32 g2)
          rw [ofNat_lt t7, quo_set] at this
          exact this
      by_cases hb0 : b = 0
      · subst hb0
        obtain ⟨cl, fz, gb, gl⟩ := QW6.out.cell j (by simp; omega)
        obtain ⟨e2, e3⟩ := EX.out.1 rfl
        have E2 := Lib.hid e2
        have E3 := Lib.hid e3
        clear e2 e3
        go_wp2
        go_roundw
        case rel => exact fin.out _ out g HOL.out E3.out E2.out HOW.out QW6.out DW6.out GB.out
        case measure => (simp [intOf] <;> omega)
      · obtain ⟨e2, e3⟩ := EX.out.2 hb0
        obtain ⟨g', rfl⟩ : ∃ g', g = g' + 1 := ⟨_, e2⟩
        have E2 : Hid (g' = nv ((R.drop j).take (n + 1)) / (y * 2 ^ s)) := Nat.succ.inj e2
        have E3 := Lib.hid e3
        have hbz : (!(b == 0)) = true := by simp [hb0]
        have HGB' : Hid (g' < B) := Nat.lt_of_succ_lt GB.out
        have eg : (((g' + 1 : Nat) : Int) - 1) = (g' : Int) := by omega
        clear e2 e3
        go_wp2_with fail
        have LEN6 : Hid ((R.take j ++ out ++ R.drop (j + (n + 1))).length ≤ 1000000000) := by
          have h1 := LEN.out
          simp only [List.length_append, L2.out, HOL.out] at h1 ⊢
          exact h1
        refine (pb_calls hq1n (by omega) L1.out HOL.out LEN6.out (by omega) hg2 h12 HOW.out DW6.out).mono ?_
        rintro e w7 ⟨out2, b2, v, rfl, hol2, hov2, how2, hgr2⟩
        rw [HOL.out] at hol2 hov2
        rw [DV.out] at hov2
        have E4 := Lib.hid (E3.out (nv out2) b2 (by have := nv_lt out2; rwa [hol2] at this) hov2)
        have QW7 : Hid (OwL w w7 G3 c3 (List.replicate (j + 1) 0 ++ qh)) := QW6.out.far hgr2 h23.symm hg2
        have DW7 : Hid (OwL w w7 G1 c1 q1) := DW6.out.far hgr2 h12 hg2
        have HOW2 := Lib.hid how2
        have HOL2 := Lib.hid hol2
        obtain ⟨cl, fz, gb, gl⟩ := QW7.out.cell j (by simp; omega)
        have hgB' := HGB'.out
        rw [B_eq] at hgB'
        clear hov2 how2 hgr2 hol2 hgB
        go_wp2
        go_roundw
        case rel => exact fin.out _ out2 g' HOL2.out E4.out E2.out HOW2.out QW7.out DW7.out HGB'.out
        case measure => (simp [intOf] <;> omega)
theorem nat_long_sp (x y : Nat) (h1 : 1 < (lb y).length) (hxy : y ≤ x) (hl : (lb x).length ≤ 100000) : Sp 157 [dL (lb x), dL (lb y)] [dL (lb (x / y)), dL (lb (x % y))] := by
  refine spec_of wfP Tryz.func157 (by kernel_rfl) (by kernel_rfl) (by kernel_rfl) (fun w M vs hM _ hlv hrd => ?_)
  have hps : Tryz.f157.params.toList = [42, 42] := by kernel_rfl
  have hlen : vs.length = 2 := by rw [hlv]; rfl
  match vs, hlen with
  | [va, vb], _ =>
    rw [hps] at hrd
    refine (long_any x y va vb w M (hrd 0 _ _ _ rfl rfl rfl) (hrd 1 _ _ _ rfl rfl rfl) hM h1 hxy hl).mono ?_
    rintro e w' ⟨u1, u2, rfl, r1, r2, hx⟩
    refine ⟨[u1, u2], rfl, rfl, fun i t u ht hu => ?_, hx⟩
    rw [show Tryz.f157.resultTypes.toList = [42, 42] by kernel_rfl] at ht
    match i with
    | 0 => cases ht; cases hu; exact rd_weak r1 (Ext.refl _) (fun b hb _ => hM b hb)
    | 1 => cases ht; cases hu; exact rd_weak r2 (Ext.refl _) (fun b hb _ => hM b hb)
    | i + 2 => simp at ht
theorem longOk (x y : Nat) (hl : (lb x).length ≤ 100000) : LongOk x y := fun h1 h2 => nat_long_sp x y h1 h2 hl
end Go.Proofs.YtjmddikeadbmjaaGreat
set_option maxRecDepth 100000
namespace Go.Proofs.YtjmddikeadbmjaaGreat

/-- A ratio as it stands. -/
def frac (z : Int) (d : Nat) : Num := ⟨decide (z < 0), lb z.natAbs, lb d⟩
theorem numT_frac (z : Int) (d : Nat) : numT (frac z d) = z := zv_wz z
theorem numB_frac (z : Int) (d : Nat) : numB (frac z d) = (d : Int) := by simp [numB, frac, nv_lb]
theorem lbn_one : lb 1 = [1] := by rw [lb_pos (by decide), show 1 / B = 0 from rfl, lb_zero]; rfl
theorem frac_one (z : Int) : frac z 1 = ofZ z := by unfold frac ofZ; rw [lbn_one]
theorem mkR_cases (p q : Int) (hq : q ≠ 0) : ∃ (z : Int) (d : Nat), d ≠ 0 ∧ Nat.Coprime z.natAbs d ∧ z * q = p * (d : Int) ∧ z.natAbs ≤ p.natAbs ∧ d ≤ q.natAbs ∧ mkR p q = if 32 < lenZ z ∨ 32 < (lb d).length then (.zero, 7) else (frac z d, 0) := by
  have hg : 0 < Nat.gcd p.natAbs q.natAbs := Nat.gcd_pos_of_pos_right _ (by omega)
  obtain ⟨a, ha⟩ := Nat.gcd_dvd_left p.natAbs q.natAbs
  obtain ⟨b, hb⟩ := Nat.gcd_dvd_right p.natAbs q.natAbs
  have hda : p.natAbs / Nat.gcd p.natAbs q.natAbs = a := by
    conv => lhs; lhs; rw [ha]
    exact Nat.mul_div_cancel_left _ hg
  have hdb : q.natAbs / Nat.gcd p.natAbs q.natAbs = b := by
    conv => lhs; lhs; rw [hb]
    exact Nat.mul_div_cancel_left _ hg
  have hcop : Nat.Coprime a b := by
    have := Nat.coprime_div_gcd_div_gcd hg
    rwa [hda, hdb] at this
  have hb0 : b ≠ 0 := fun h => by rw [h, Nat.mul_zero] at hb; omega
  have ha0 : a = 0 ↔ p = 0 := by
    constructor
    · intro h; rw [h, Nat.mul_zero] at ha; omega
    · intro h
      rw [h] at ha
      simp only [Int.natAbs_zero] at ha
      rcases Nat.mul_eq_zero.1 ha.symm with h1 | h1
      · rw [h] at hg; simp only [Int.natAbs_zero] at hg; omega
      · exact h1
  have hal : a ≤ p.natAbs := by rw [ha]; exact Nat.le_mul_of_pos_left _ hg
  have hbl : b ≤ q.natAbs := by rw [hb]; exact Nat.le_mul_of_pos_left _ hg
  have hab : a * q.natAbs = p.natAbs * b := by
    conv => lhs; rw [hb]
    conv => rhs; rw [ha]
    rw [Nat.mul_left_comm, Nat.mul_assoc]
  unfold mkR
  rw [if_neg hq, hda, hdb]
  generalize Nat.gcd p.natAbs q.natAbs = g at *
  clear hda hdb ha hb hg
  have habz : (a : Int) * (q.natAbs : Int) = (p.natAbs : Int) * (b : Int) := by rw [← Int.natCast_mul, hab, Int.natCast_mul]
  by_cases hs : decide (p < 0) = decide (q < 0)
  · refine ⟨(a : Int), b, hb0, by simpa using hcop, ?_, by simpa using hal, hbl, ?_⟩
    · rw [decide_eq_decide] at hs
      by_cases hp : p < 0
      · have e1 : (p.natAbs : Int) = -p := by omega
        have e2 : (q.natAbs : Int) = -q := by omega
        rw [e1, e2] at habz
        grind
      · have e1 : (p.natAbs : Int) = p := by omega
        have e2 : (q.natAbs : Int) = q := by omega
        rw [e1, e2] at habz
        exact habz
    · unfold frac lenZ
      rw [hs, beq_self_eq_true, Bool.not_true, Bool.and_false]
      simp only [Int.natAbs_natCast]
      rw [decide_eq_false (p := ((a : Int) < 0)) (by omega)]
  · have hp : (decide (p < 0) == decide (q < 0)) = false := by simpa using hs
    refine ⟨-(a : Int), b, hb0, by simpa using hcop, ?_, by simpa using hal, hbl, ?_⟩
    · rw [decide_eq_decide] at hs
      by_cases hp : p < 0
      · have e1 : (p.natAbs : Int) = -p := by omega
        have e2 : (q.natAbs : Int) = q := by omega
        rw [e1, e2] at habz
        grind
      · have e1 : (p.natAbs : Int) = p := by omega
        have e2 : (q.natAbs : Int) = -q := by omega
        rw [e1, e2] at habz
        grind
    · unfold frac lenZ
      rw [hp, Bool.not_false, Bool.and_true]
      simp only [Int.natAbs_neg, Int.natAbs_natCast]
      have : decide (0 < (lb a).length) = decide (-(a : Int) < 0) := by
        rw [decide_eq_decide]
        have := lb_len0 (n := a)
        omega
      rw [this]
theorem cop_unique {z z' : Int} {d d' : Nat} (h : d ≠ 0) (h' : d' ≠ 0) (c : Nat.Coprime z.natAbs d) (c' : Nat.Coprime z'.natAbs d') (e : z * (d' : Int) = z' * (d : Int)) : z = z' ∧ d = d' := by
  have en : z.natAbs * d' = z'.natAbs * d := by
    have := congrArg Int.natAbs e
    simpa [Int.natAbs_mul] using this
  have h1 : d ∣ d' := (Nat.Coprime.dvd_of_dvd_mul_left c.symm (by rw [en]; exact Nat.dvd_mul_left _ _))
  have h2 : d' ∣ d := (Nat.Coprime.dvd_of_dvd_mul_left c'.symm (by rw [← en]; exact Nat.dvd_mul_left _ _))
  have hd := Nat.dvd_antisymm h1 h2
  subst hd
  exact ⟨Int.eq_of_mul_eq_mul_right (by omega) e, rfl⟩
/-- The same ratio: the same in lowest terms. -/
theorem mkR_unique {p q p' q' : Int} (hq : q ≠ 0) (hq' : q' ≠ 0) (e : p * q' = p' * q) : mkR p q = mkR p' q' := by
  obtain ⟨z, d, h1, h2, h3, _, _, h4⟩ := mkR_cases p q hq
  obtain ⟨z', d', h1', h2', h3', _, _, h4'⟩ := mkR_cases p' q' hq'
  obtain ⟨rfl, rfl⟩ := cop_unique h1 h1' h2 h2' (by
    have : (z * (d' : Int)) * (q * q') = (z' * (d : Int)) * (q * q') := by grind
    exact Int.eq_of_mul_eq_mul_right (Int.mul_ne_zero hq hq') this)
  rw [h4, h4']
/-- A right number: so many of such parts. -/
structure RNum (n : Num) (z : Int) (d : Nat) : Prop where
  eq : n = frac z d
  d0 : d ≠ 0
  cop : Nat.Coprime z.natAbs d
  lz : lenZ z ≤ 32
  ld : (lb d).length ≤ 32
theorem mkR_self {z : Int} {d : Nat} (h0 : d ≠ 0) (hc : Nat.Coprime z.natAbs d) (h1 : lenZ z ≤ 32) (h2 : (lb d).length ≤ 32) : mkR z (d : Int) = (frac z d, 0) := by
  obtain ⟨z', d', h1', h2', h3', _, _, h4'⟩ := mkR_cases z (d : Int) (by omega)
  obtain ⟨rfl, rfl⟩ := cop_unique h0 h1' hc h2' h3'.symm
  rw [h4', if_neg (by omega)]
theorem RNum.self {n : Num} {z : Int} {d : Nat} (h : RNum n z d) : mkR z (d : Int) = (n, 0) := by rw [mkR_self h.d0 h.cop h.lz h.ld, h.eq]
theorem RNum.top {n : Num} {z : Int} {d : Nat} (h : RNum n z d) : numT n = z := by rw [h.eq, numT_frac]
theorem RNum.bot {n : Num} {z : Int} {d : Nat} (h : RNum n z d) : numB n = (d : Int) := by rw [h.eq, numB_frac]
theorem RNum.right {n : Num} {z : Int} {d : Nat} (h : RNum n z d) : rightN n = true := by
  unfold rightN
  rw [h.top, h.bot, h.self]
  have h1 := h.lz
  have h2 := h.ld
  rw [h.eq]
  exact decide_eq_true ⟨h1, h2, rfl⟩
theorem rn_of {n : Num} (h : rightN n = true) : ∃ z d, RNum n z d := by
  unfold rightN at h
  obtain ⟨h1, h2, h3⟩ := of_decide_eq_true h
  by_cases hq : numB n = 0
  · rw [hq] at h3
    have := congrArg Prod.snd h3
    simp [mkR] at this
  · obtain ⟨z, d, g1, g2, _, _, _, g4⟩ := mkR_cases (numT n) (numB n) hq
    rw [h3] at g4
    split at g4
    · cases g4
    · injection g4 with g4
      exact ⟨z, d, g4, g1, g2, by omega, by omega⟩
theorem RNum.len {n : Num} {z : Int} {d : Nat} (h : RNum n z d) : n.top.length ≤ 32 ∧ n.bot.length ≤ 32 := by rw [h.eq]; exact ⟨h.lz, h.ld⟩
/-- What is told, if it is no error, is right. -/
theorem mkR_ok {p q : Int} (hq : q ≠ 0) : ((mkR p q).2 = 0 → ∃ z d, RNum (mkR p q).1 z d ∧ z * q = p * (d : Int) ∧ z.natAbs ≤ p.natAbs ∧ d ≤ q.natAbs) ∧ ((mkR p q).2 = 0 ∨ (mkR p q) = (.zero, 7)) ∧ (lenZ p ≤ 32 → lenZ q ≤ 32 → (mkR p q).2 = 0) := by
  obtain ⟨z, d, g1, g2, g3, g5, g6, g4⟩ := mkR_cases p q hq
  rw [g4]
  have mono : ∀ {a b k : Nat}, a ≤ b → (lb b).length ≤ k → (lb a).length ≤ k := fun hab hk => lb_len.2 (Nat.lt_of_le_of_lt hab (lb_len.1 hk))
  refine ⟨fun h => ?_, ?_, fun h1 h2 => ?_⟩
  · split at h
    · cases h
    · rename_i hh
      rw [if_neg hh]
      exact ⟨z, d, ⟨rfl, g1, g2, by omega, by omega⟩, g3, g5, g6⟩
  · split
    · exact .inr rfl
    · exact .inl rfl
  · rw [if_neg]
    have a1 := mono g5 h1
    have a2 := mono g6 h2
    unfold lenZ; omega
def retR (r : Num × Int) : List D := [dN r.1, .int r.2]
theorem numT_len (n : Num) : lenZ (numT n) ≤ n.top.length := wz_len ⟨n.neg, n.top⟩
theorem numB_len (n : Num) : lenZ (numB n) ≤ n.bot.length := wz_len ⟨false, n.bot⟩
theorem zv_bot (n : Num) : zv ⟨false, n.bot⟩ = numB n := rfl
theorem zv_top (n : Num) : zv ⟨n.neg, n.top⟩ = numT n := rfl
def addR (a b : Num) : Num × Int := mkR (numT a * numB b + numT b * numB a) (numB a * numB b)
def mulR (a b : Num) : Num × Int := mkR (numT a * numT b) (numB a * numB b)
def divR (a b : Num) : Num × Int := mkR (numT a * numB b) (numB a * numT b)
def cmpR (a b : Num) : Int := cmpZ (numT a * numB b) (numT b * numB a)
def negN (a : Num) : Num := if a.top = [] then ofZ 0 else ⟨!a.neg, a.top, a.bot⟩
def subR (a b : Num) : Num × Int := addR a (negN b)
def flrN (a : Num) : Num := ofZ (dmZ (numT a) (numB a)).1
def bindR (r : Num × Int) (f : Num → Num × Int) : Num × Int := if r.2 = 0 then f r.1 else (.zero, r.2)
def modR (a b : Num) : Num × Int := if a.top = [] then (b, 0) else bindR (divR b a) fun q => bindR (mulR a (flrN q)) fun p => subR b p
def powD2 (p q : Int × Int) : Num × Int := if p.2 = 0 then (if q.2 = 0 then mkR p.1 q.1 else (.zero, q.2)) else (.zero, p.2)
def powRt (a : Num) (n : Int) : Num × Int :=
  if n < 0 then (if a.top = [] ∨ n < -9223372036854775807 then (.zero, 3) else powD2 (powZ (numB a) (-n)) (powZ (numT a) (-n))) else powD2 (powZ (numT a) n) (powZ (numB a) n)
def gcdR (a b : Num) : Num × Int := if a.bot = [1] ∧ b.bot = [1] then (ofZ (Nat.gcd (nv a.top) (nv b.top) : Nat), 0) else (.zero, 3)
def lcmR (a b : Num) : Num × Int := bindR (gcdR a b) fun g => if g.top = [] then (g, 0) else bindR (divR a g) fun p => mulR p b

theorem negN_rn {n : Num} {z : Int} {d : Nat} (h : RNum n z d) : RNum (negN n) (-z) d := by
  have h0 : n.top = [] ↔ z = 0 := by rw [h.eq]; show lb z.natAbs = [] ↔ _; rw [lb_eq_nil]; omega
  refine ⟨?_, h.d0, by rw [Int.natAbs_neg]; exact h.cop, by rw [lenZ_neg]; exact h.lz, h.ld⟩
  unfold negN
  split
  · rename_i h1
    have hz := h0.1 h1
    have hd : d = 1 := by
      have := h.cop
      rw [hz, Int.natAbs_zero, Nat.coprime_zero_left] at this
      exact this
    rw [hz, hd, Int.neg_zero, frac_one]
  · rename_i h1
    have hz : z ≠ 0 := fun hh => h1 (h0.2 hh)
    rw [h.eq]
    unfold frac
    simp only [Int.natAbs_neg]
    rw [show decide (-z < 0) = !decide (z < 0) by rw [not_dec, decide_eq_decide]; omega]
theorem nat_small_sp (a b : Nat) (ha : a < 18446744073709551616) (hb : b < 18446744073709551616) : Sp 151 [.int (a : Int), .int (b : Int)] [dL (lb (Nat.gcd a b))] := by
  have key : ∀ (m N x y : Nat), y < m → x < 18446744073709551616 → y < 18446744073709551616 → Tw (nat_small_l1 N m (x : Int) (y : Int)) [dL (lb (Nat.gcd x y))] := by
    intro m
    induction m with
    | zero => intro N x y h; omega
    | succ m ih =>
      intro N x y h hx hy
      simp only [Tw, nat_small_l1_succ, int_bne, int_beq, not_dec]
      refine wp_decs (fun h0 => ?_) (fun h0 => ?_)
      · have hm := Nat.mod_lt x (show 0 < y by omega)
        have := ih N y (x % y) (by omega) hy (by omega)
        rw [Nat.gcd_comm x y, Nat.gcd_rec, Nat.gcd_comm]
        exact wp_dec (by omega) this
      · have : y = 0 := by omega
        subst this
        rw [Nat.gcd_zero_right, fdiv32]
        have e1 : IntKind.wrap .u32 (x : Int) = ((x % 4294967296 : Nat) : Int) := by rw [IntKind.wrap_u32]; omega
        have e2 : IntKind.wrap .u32 ((x / 4294967296 : Nat) : Int) = ((x / 4294967296 : Nat) : Int) := wrapU32 (by omega) (by omega)
        have nm := nat_Norm_sp [BitVec.ofNat 32 (x % 4294967296), BitVec.ofNat 32 (x / 4294967296)] (by simp)
        rw [two_limbs hx] at nm
        rw [e1, e2, dB_ofNat (t := x % 4294967296) (by rw [B_eq]; omega), dB_ofNat (t := x / 4294967296) (by rw [B_eq]; omega)]
        exact wp_tt (by decide) (wp_call nm (wp_ret rfl))
  refine sound_ (b + 1) (nat_small_tree _ _ _) ?_
  simp only [toInt_int]
  exact key (b + 1) (b + 1) a b (by omega) ha hb
theorem nat_word_sp (l : List Limb) (h : l.length ≤ 2) : Sp 152 [dL l] [.int ((nv l : Nat) : Int)] := by
  refine sound_ 3 (nat_word_tree _ _) ?_
  have one : ∀ (m k x : Nat) (d : Limb), k ≤ 1 → l[k]? = some d → (k = 0 → x = 0) → x < 4294967296 → Tw (nat_word_l3 3 m ((x + d.toNat * 4294967296 ^ k : Nat) : Int) (dL l) (l.length : Int) ((k + 1 : Nat) : Int)) [.int ((nv l : Nat) : Int)] → Tw (nat_word_l3 3 (m + 1) (x : Int) (dL l) (l.length : Int) (k : Int)) [.int ((nv l : Nat) : Int)] := by
    intro m k x d hk hd hx hx2 hw
    have hkl : k < l.length := (List.getElem?_eq_some_iff.1 hd).1
    have hdl := limb_lt d
    rw [B_eq] at hdl
    simp only [Tw, nat_word_l3_succ, els_dL, List.length_map, Int.toNat_natCast, getD_map hd, toInt_dB]
    rw [wrap64 (x := 32 * (k : Int)) (by omega) (by omega), wrapU64 (x := 32 * (k : Int)) (by omega) (by omega), wrapU64 (x := (d.toNat : Int)) (by omega) (by omega), wrap_succ (by omega)]
    refine wp_dec (by omega) (wp_dec (by omega) (wp_dec (by omega) (wp_dec (by omega) ?_)))
    have e : bits_ .or .u64 (x : Int) (IntKind.wrap .u64 ((d.toNat : Int) * 2 ^ (min (Int.toNat (32 * (k : Int))) (IntKind.bits .u64)))) = ((x + d.toNat * 4294967296 ^ k : Nat) : Int) := by
      rcases (by omega : k = 0 ∨ k = 1) with rfl | rfl
      · rw [hx rfl]
        show bits_ .or .u64 ((0 : Nat) : Int) (IntKind.wrap .u64 ((d.toNat : Int) * 1)) = _
        rw [Int.mul_one, wrapU64 (by omega) (by omega), or64 (by omega) (by omega)]
        simp
      · show bits_ .or .u64 (x : Int) (IntKind.wrap .u64 ((d.toNat : Int) * 4294967296)) = _
        rw [show (d.toNat : Int) * 4294967296 = ((d.toNat * 4294967296 : Nat) : Int) by omega, wrapU64 (by omega) (by omega), or_limb hx2 hdl]
        try simp
    rw [e]
    exact hw
  simp only [els_dL, List.length_map]
  have fin : ∀ (m x : Nat), nv l = x → Tw (nat_word_l3 3 (m + 1) (x : Int) (dL l) (l.length : Int) (l.length : Int)) [.int ((nv l : Nat) : Int)] := by
    intro m x hx
    simp only [Tw, nat_word_l3_succ]
    exact wp_ndec (by omega) (wp_ret (by rw [hx]))
  match l, h with
  | [], _ => exact fin 2 0 rfl
  | [d], _ =>
    refine one 2 0 0 d (by omega) rfl (fun _ => rfl) (by omega) ?_
    exact fin 1 _ (by simp [nv])
  | [d, e], _ =>
    have hdl := limb_lt d
    rw [B_eq] at hdl
    refine one 2 0 0 d (by omega) rfl (fun _ => rfl) (by omega) ?_
    rw [show 0 + d.toNat * 4294967296 ^ 0 = d.toNat by simp]
    refine one 1 1 d.toNat e (by omega) rfl (fun h => by omega) (by omega) ?_
    refine fin 0 _ ?_
    simp only [nv]
    rw [B_eq, Nat.pow_one, Nat.mul_comm e.toNat]
    simp
theorem nat_Gcd_sp (a b : List Limb) (ha : a.length ≤ 1000) (hb : b.length ≤ 1000) : Sp 128 [dL a, dL b] [dL (lb (Nat.gcd (nv a) (nv b)))] := by
  obtain ⟨K, hK⟩ : ∃ K, K = 1000 := ⟨_, rfl⟩
  have key : ∀ (m N x y : Nat), y < m → (lb x).length ≤ K → (lb y).length ≤ K → Tw (nat_Gcd_l2 N m (dL (lb x)) (dL (lb y))) [dL (lb (Nat.gcd x y))] := by
    intro m
    induction m with
    | zero => intro N x y h; omega
    | succ m ih =>
      intro N x y h hx hy
      simp only [Tw, nat_Gcd_l2_succ, els_dL, List.length_map]
      have ly0 := lb_len0 (n := y)
      refine wp_decs (fun h0 => ?_) (fun h0 => ?_)
      · have hy0 : y ≠ 0 := fun hh => by rw [ly0.2 hh] at h0; omega
        have hm := Nat.mod_lt x (show 0 < y by omega)
        have hml : (lb (x % y)).length ≤ K := lb_len.2 (Nat.lt_of_le_of_lt (Nat.le_of_lt hm) (lb_len.1 hy))
        have dm := nat_DivMod_sp (lb x) (lb y) (by omega) (by omega) (longOk _ _ (by rw [nv_lb]; omega))
        rw [nv_lb, nv_lb, if_neg hy0] at dm
        have nxt := ih N y (x % y) (by omega) hy hml
        rw [show Nat.gcd y (x % y) = Nat.gcd x y by rw [Nat.gcd_comm x y, Nat.gcd_rec y x, Nat.gcd_comm]] at nxt
        refine wp_decs (fun h1 => wp_decs (fun h2 => ?_) (fun h2 => wp_call dm nxt)) (fun h1 => wp_call dm nxt)
        have w1 := nat_word_sp (lb x) (by omega)
        have w2 := nat_word_sp (lb y) (by omega)
        rw [nv_lb] at w1 w2
        have b1 : x < 18446744073709551616 := lb_len.1 (show (lb x).length ≤ 2 by omega)
        have b2 : y < 18446744073709551616 := lb_len.1 (show (lb y).length ≤ 2 by omega)
        exact wp_call w1 (wp_call w2 (wp_call (nat_small_sp x y b1 b2) (wp_ret rfl)))
      · have : y = 0 := ly0.1 (by omega)
        subst this
        have nm := nat_Norm_sp (lb x) (by omega)
        rw [nv_lb] at nm
        rw [Nat.gcd_zero_right]
        exact wp_call nm (wp_ret rfl)
  have la : (lb (nv a)).length ≤ a.length := lb_len.2 (nv_lt a)
  have lb_ : (lb (nv b)).length ≤ b.length := lb_len.2 (nv_lt b)
  refine sound_ (nv b + 1) (nat_Gcd_tree _ _ _) (wp_call (nat_trim_sp a (by omega)) (wp_call (nat_trim_sp b (by omega)) ?_))
  exact key (nv b + 1) (nv b + 1) (nv a) (nv b) (by omega) (by omega) (by omega)
theorem ratio_bot_sp (n : Num) : Sp 116 [dN n] [dW ⟨false, n.bot⟩] := sound_ 0 (ratio_bot_tree _ _) (wp_ret rfl)
theorem zv_sgn {w : Wh} (h : nv w.mag ≠ 0) : decide (zv w < 0) = w.neg := by
  rw [show w.neg = decide (w.neg = true) by simp, decide_eq_decide]; exact zv_neg h
theorem ratio_Make_sp (p q : Wh) (hp : p.mag.length ≤ 1000) (hq : q.mag.length ≤ 1000) : Sp 114 [dW p, dW q] (retR (mkR (zv p) (zv q))) := by
  refine sound_ 0 (ratio_Make_tree _ _ _) (wp_call (nat_Norm_sp p.mag (by omega)) (wp_call (nat_Norm_sp q.mag (by omega)) ?_))
  have lp : (lb (nv p.mag)).length ≤ p.mag.length := lb_len.2 (nv_lt _)
  have lq : (lb (nv q.mag)).length ≤ q.mag.length := lb_len.2 (nv_lt _)
  have ap := zv_abs p
  have aq := zv_abs q
  have sgn : ∀ t : Nat, (0 < (lb t).length → nv p.mag ≠ 0) → nv q.mag ≠ 0 → (decide (0 < (lb t).length) && !(decide (zv p < 0) == decide (zv q < 0))) = if 0 < (lb t).length then !(p.neg == q.neg) else false := by
    intro t h1 h2
    split
    · rename_i h3
      rw [decide_eq_true h3, Bool.true_and, zv_sgn (h1 h3), zv_sgn h2]
    · rename_i h3
      rw [decide_eq_false h3, Bool.false_and]
  simp only [getD_c0, dW_0, dW_1, els_dL, List.length_map, toBool_bool, int_beq]
  have ly0 := lb_len0 (n := nv q.mag)
  refine wp_decs (fun h => wp_ret ?_) (fun h => ?_)
  · have : zv q = 0 := zv_zero.2 (ly0.1 (by omega))
    unfold mkR; rw [if_pos this]; rfl
  have hq0 : nv q.mag ≠ 0 := fun hh => h (by rw [hh, lb_zero]; rfl)
  have hqz : zv q ≠ 0 := fun hh => hq0 (zv_zero.1 hh)
  -- the end, with a divisor
  have fin : ∀ g : Nat, g = Nat.gcd (nv p.mag) (nv q.mag) → ∀ (t b : Nat), t = nv p.mag / g → b = nv q.mag / g → Tw (.br (decide (32 < ((lb t).length : Int))) (.ret [D.agg [D.bool false, D.sl [], D.sl []], D.int 7]) (.br (decide (32 < ((lb b).length : Int))) (.ret [D.agg [D.bool false, D.sl [], D.sl []], D.int 7]) (.br (decide (0 < ((lb t).length : Int))) (.ret [D.agg [D.bool (!(p.neg == q.neg)), dL (lb t), dL (lb b)], D.int 0]) (.ret [D.agg [D.bool false, dL (lb t), dL (lb b)], D.int 0])))) (retR (mkR (zv p) (zv q))) := by
    intro g hg t b ht hb
    have sg := sgn t (fun h3 hh => by rw [ht, hh, Nat.zero_div, lb_zero] at h3; simp at h3) hq0
    unfold mkR retR
    rw [if_neg hqz, ap, aq, ← hg, ← ht, ← hb, sg]
    refine wp_decs (fun h1 => wp_ret ?_) (fun h1 => wp_decs (fun h2 => wp_ret ?_) (fun h2 => wp_decs (fun h3 => wp_ret ?_) (fun h3 => wp_ret ?_)))
    · rw [if_pos (by omega)]; rfl
    · rw [if_pos (by omega)]; rfl
    · rw [if_neg (by omega), if_pos (by omega)]; rfl
    · rw [if_neg (by omega), if_neg (by omega)]; rfl
  refine wp_call (ratio_isOne_sp _) ?_
  simp only [getD_c0, toBool_bool, not_dec]
  have one : ∀ l : List Limb, l = [1] → nv l = 1 := fun l h => by rw [h]; simp [nv]
  refine wp_decs (fun h1 => ?_) (fun h1 => ?_)
  · have gc := nat_Gcd_sp (lb (nv p.mag)) (lb (nv q.mag)) (by omega) (by omega)
    rw [nv_lb, nv_lb] at gc
    refine wp_call gc (wp_call (ratio_isOne_sp _) ?_)
    simp only [getD_c0, toBool_bool, not_dec]
    have hg0 : Nat.gcd (nv p.mag) (nv q.mag) ≠ 0 := fun hh => hq0 (Nat.gcd_eq_zero_iff.1 hh).2
    have hgl : (lb (Nat.gcd (nv p.mag) (nv q.mag))).length ≤ q.mag.length := lb_len.2 (Nat.lt_of_le_of_lt (Nat.gcd_le_right _ (by omega)) (nv_lt _))
    refine wp_decs (fun h2 => ?_) (fun h2 => ?_)
    · have d1 := nat_DivMod_sp (lb (nv p.mag)) (lb (Nat.gcd (nv p.mag) (nv q.mag))) (by omega) (by omega) (longOk _ _ (by rw [nv_lb]; omega))
      have d2 := nat_DivMod_sp (lb (nv q.mag)) (lb (Nat.gcd (nv p.mag) (nv q.mag))) (by omega) (by omega) (longOk _ _ (by rw [nv_lb]; omega))
      rw [nv_lb, nv_lb] at d1 d2
      refine wp_call d1 (wp_call d2 ?_)
      simp only [getD_c0, els_dL, List.length_map]
      exact fin _ rfl _ _ rfl rfl
    · have : Nat.gcd (nv p.mag) (nv q.mag) = 1 := by have := one _ (Classical.not_not.1 h2); rwa [nv_lb] at this
      exact fin 1 this.symm _ _ (Nat.div_one _).symm (Nat.div_one _).symm
  · have hq1 : nv q.mag = 1 := by have := one _ (Classical.not_not.1 h1); rwa [nv_lb] at this
    exact fin 1 (by rw [hq1, Nat.gcd_one_right]) _ _ (Nat.div_one _).symm (Nat.div_one _).symm
end Go.Proofs.YtjmddikeadbmjaaGreat
set_option maxRecDepth 100000
namespace Go.Proofs.YtjmddikeadbmjaaGreat

/-- Not too many limbs. -/
def SmN (n : Num) : Prop := n.top.length ≤ 200 ∧ n.bot.length ≤ 200
theorem RNum.sm {n : Num} {z : Int} {d : Nat} (h : RNum n z d) : SmN n := by have := h.len; unfold SmN; omega
theorem mkR_sm (p q : Int) : SmN (mkR p q).1 := by
  by_cases hq : q = 0
  · unfold mkR; rw [if_pos hq]; exact ⟨by simp [Num.zero], by simp [Num.zero]⟩
  · rcases (mkR_ok (p := p) hq).2.1 with h | h
    · obtain ⟨z, d, h1, _⟩ := (mkR_ok hq).1 h; exact h1.sm
    · rw [h]; exact ⟨by simp [Num.zero], by simp [Num.zero]⟩
section
variable {a b : Num}
theorem ref04_Add_sp (ha : SmN a) (hb : SmN b) : Sp 80 [dN a, dN b] (retR (addR a b)) := by
  obtain ⟨a1, a2⟩ := ha
  obtain ⟨b1, b2⟩ := hb
  have at_ := numT_len a; have ab := numB_len a; have bt := numT_len b; have bb := numB_len b
  have m1 := lenZ_mul (numT a) (numB b)
  have m2 := lenZ_mul (numT b) (numB a)
  have m3 := lenZ_mul (numB a) (numB b)
  have s1 := lenZ_add (numT a * numB b) (numT b * numB a)
  have x1 := ref03_Mul_sp (wz (numT a)) (wz (numB b)) (by rw [wzl]; omega) (by rw [wzl]; omega)
  have x2 := ref03_Mul_sp (wz (numT b)) (wz (numB a)) (by rw [wzl]; omega) (by rw [wzl]; omega)
  have x3 := ref03_Mul_sp (wz (numB a)) (wz (numB b)) (by rw [wzl]; omega) (by rw [wzl]; omega)
  have x4 := ref03_Add_sp (wz (numT a * numB b)) (wz (numT b * numB a)) (by rw [wzl]; omega) (by rw [wzl]; omega)
  have x5 := ref04_Make_sp (wz (numT a * numB b + numT b * numB a)) (wz (numB a * numB b)) (by rw [wzl]; omega) (by rw [wzl]; omega)
  rw [zv_wz, zv_wz] at x1 x2 x3 x4 x5
  exact sound_ 0 (ref04_Add_tree _ _ _) (wp_call (ref04_Top_sp a (by omega)) (wp_call (ref04_Bot_sp b (by omega)) (wp_call x1 (wp_call (ref04_Top_sp b (by omega)) (wp_call (ref04_Bot_sp a (by omega)) (wp_call x2 (wp_call x4 (wp_call (ref04_Bot_sp a (by omega)) (wp_call (ref04_Bot_sp b (by omega)) (wp_call x3 (wp_call x5 (wp_ret rfl))))))))))))
theorem ratio_Add_sp (ha : SmN a) (hb : SmN b) : Sp 71 [dN a, dN b] (retR (addR a b)) := by
  obtain ⟨a1, a2⟩ := ha
  obtain ⟨b1, b2⟩ := hb
  have at_ := numT_len a; have ab := numB_len a; have bt := numT_len b; have bb := numB_len b
  have m1 := lenZ_mul (numT a) (numB b)
  have m2 := lenZ_mul (numT b) (numB a)
  have m3 := lenZ_mul (numB a) (numB b)
  have s1 := lenZ_add (numT a * numB b) (numT b * numB a)
  have x1 := whole_Mul_sp ⟨a.neg, a.top⟩ ⟨false, b.bot⟩ (by show a.top.length ≤ _; omega) (by show b.bot.length ≤ _; omega)
  have x2 := whole_Mul_sp ⟨b.neg, b.top⟩ ⟨false, a.bot⟩ (by show b.top.length ≤ _; omega) (by show a.bot.length ≤ _; omega)
  have x3 := whole_Mul_sp ⟨false, a.bot⟩ ⟨false, b.bot⟩ (by show a.bot.length ≤ _; omega) (by show b.bot.length ≤ _; omega)
  have x4 := whole_Add_sp (wz (numT a * numB b)) (wz (numT b * numB a)) (by rw [wzl]; omega) (by rw [wzl]; omega)
  have x5 := ratio_Make_sp (wz (numT a * numB b + numT b * numB a)) (wz (numB a * numB b)) (by rw [wzl]; omega) (by rw [wzl]; omega)
  rw [zv_top, zv_bot] at x1 x2
  rw [zv_bot, zv_bot] at x3
  rw [zv_wz, zv_wz] at x4 x5
  exact sound_ 0 (ratio_Add_tree _ _ _) (wp_call (ratio_top_sp a) (wp_call (ratio_bot_sp b) (wp_call x1 (wp_call (ratio_top_sp b) (wp_call (ratio_bot_sp a) (wp_call x2 (wp_call x4 (wp_call (ratio_bot_sp a) (wp_call (ratio_bot_sp b) (wp_call x3 (wp_call x5 (wp_ret rfl))))))))))))
theorem ref04_Mul_sp (ha : SmN a) (hb : SmN b) : Sp 82 [dN a, dN b] (retR (mulR a b)) := by
  obtain ⟨a1, a2⟩ := ha
  obtain ⟨b1, b2⟩ := hb
  have at_ := numT_len a; have ab := numB_len a; have bt := numT_len b; have bb := numB_len b
  have m1 := lenZ_mul (numT a) (numT b)
  have m3 := lenZ_mul (numB a) (numB b)
  have x1 := ref03_Mul_sp (wz (numT a)) (wz (numT b)) (by rw [wzl]; omega) (by rw [wzl]; omega)
  have x3 := ref03_Mul_sp (wz (numB a)) (wz (numB b)) (by rw [wzl]; omega) (by rw [wzl]; omega)
  have x5 := ref04_Make_sp (wz (numT a * numT b)) (wz (numB a * numB b)) (by rw [wzl]; omega) (by rw [wzl]; omega)
  rw [zv_wz, zv_wz] at x1 x3 x5
  exact sound_ 0 (ref04_Mul_tree _ _ _) (wp_call (ref04_Top_sp a (by omega)) (wp_call (ref04_Top_sp b (by omega)) (wp_call x1 (wp_call (ref04_Bot_sp a (by omega)) (wp_call (ref04_Bot_sp b (by omega)) (wp_call x3 (wp_call x5 (wp_ret rfl))))))))
theorem ratio_Mul_sp (ha : SmN a) (hb : SmN b) : Sp 73 [dN a, dN b] (retR (mulR a b)) := by
  obtain ⟨a1, a2⟩ := ha
  obtain ⟨b1, b2⟩ := hb
  have at_ := numT_len a; have ab := numB_len a; have bt := numT_len b; have bb := numB_len b
  have m1 := lenZ_mul (numT a) (numT b)
  have m3 := lenZ_mul (numB a) (numB b)
  have x1 := whole_Mul_sp ⟨a.neg, a.top⟩ ⟨b.neg, b.top⟩ (by show a.top.length ≤ _; omega) (by show b.top.length ≤ _; omega)
  have x3 := whole_Mul_sp ⟨false, a.bot⟩ ⟨false, b.bot⟩ (by show a.bot.length ≤ _; omega) (by show b.bot.length ≤ _; omega)
  have x5 := ratio_Make_sp (wz (numT a * numT b)) (wz (numB a * numB b)) (by rw [wzl]; omega) (by rw [wzl]; omega)
  rw [zv_top, zv_top] at x1
  rw [zv_bot, zv_bot] at x3
  rw [zv_wz, zv_wz] at x5
  exact sound_ 0 (ratio_Mul_tree _ _ _) (wp_call (ratio_top_sp a) (wp_call (ratio_top_sp b) (wp_call x1 (wp_call (ratio_bot_sp a) (wp_call (ratio_bot_sp b) (wp_call x3 (wp_call x5 (wp_ret rfl))))))))
theorem ref04_Div_sp (ha : SmN a) (hb : SmN b) : Sp 68 [dN a, dN b] (retR (divR a b)) := by
  obtain ⟨a1, a2⟩ := ha
  obtain ⟨b1, b2⟩ := hb
  have at_ := numT_len a; have ab := numB_len a; have bt := numT_len b; have bb := numB_len b
  have m1 := lenZ_mul (numT a) (numB b)
  have m3 := lenZ_mul (numB a) (numT b)
  have x1 := ref03_Mul_sp (wz (numT a)) (wz (numB b)) (by rw [wzl]; omega) (by rw [wzl]; omega)
  have x3 := ref03_Mul_sp (wz (numB a)) (wz (numT b)) (by rw [wzl]; omega) (by rw [wzl]; omega)
  have x5 := ref04_Make_sp (wz (numT a * numB b)) (wz (numB a * numT b)) (by rw [wzl]; omega) (by rw [wzl]; omega)
  rw [zv_wz, zv_wz] at x1 x3 x5
  exact sound_ 0 (ref04_Div_tree _ _ _) (wp_call (ref04_Top_sp a (by omega)) (wp_call (ref04_Bot_sp b (by omega)) (wp_call x1 (wp_call (ref04_Bot_sp a (by omega)) (wp_call (ref04_Top_sp b (by omega)) (wp_call x3 (wp_call x5 (wp_ret rfl))))))))
theorem ratio_Div_sp (ha : SmN a) (hb : SmN b) : Sp 60 [dN a, dN b] (retR (divR a b)) := by
  obtain ⟨a1, a2⟩ := ha
  obtain ⟨b1, b2⟩ := hb
  have at_ := numT_len a; have ab := numB_len a; have bt := numT_len b; have bb := numB_len b
  have m1 := lenZ_mul (numT a) (numB b)
  have m3 := lenZ_mul (numB a) (numT b)
  have x1 := whole_Mul_sp ⟨a.neg, a.top⟩ ⟨false, b.bot⟩ (by show a.top.length ≤ _; omega) (by show b.bot.length ≤ _; omega)
  have x3 := whole_Mul_sp ⟨false, a.bot⟩ ⟨b.neg, b.top⟩ (by show a.bot.length ≤ _; omega) (by show b.top.length ≤ _; omega)
  have x5 := ratio_Make_sp (wz (numT a * numB b)) (wz (numB a * numT b)) (by rw [wzl]; omega) (by rw [wzl]; omega)
  rw [zv_top, zv_bot] at x1
  rw [zv_bot, zv_top] at x3
  rw [zv_wz, zv_wz] at x5
  exact sound_ 0 (ratio_Div_tree _ _ _) (wp_call (ratio_top_sp a) (wp_call (ratio_bot_sp b) (wp_call x1 (wp_call (ratio_bot_sp a) (wp_call (ratio_top_sp b) (wp_call x3 (wp_call x5 (wp_ret rfl))))))))
theorem sgnZ_sub (x y : Int) : sgnZ (x - y) = cmpZ x y := by
  unfold sgnZ cmpZ
  by_cases h1 : x < y
  · rw [if_pos (by omega), if_pos h1]
  · rw [if_neg (by omega), if_neg h1]
    by_cases h2 : x = y
    · rw [if_pos (by omega), if_pos h2]
    · rw [if_neg (by omega), if_neg h2]
theorem ref04_Cmp_sp (ha : SmN a) (hb : SmN b) : Sp 67 [dN a, dN b] [.int (cmpR a b)] := by
  obtain ⟨a1, a2⟩ := ha
  obtain ⟨b1, b2⟩ := hb
  have at_ := numT_len a; have ab := numB_len a; have bt := numT_len b; have bb := numB_len b
  have m1 := lenZ_mul (numT a) (numB b)
  have m2 := lenZ_mul (numT b) (numB a)
  have s1 := lenZ_add (numT a * numB b) (-(numT b * numB a))
  rw [lenZ_neg, ← Int.sub_eq_add_neg] at s1
  have x1 := ref03_Mul_sp (wz (numT a)) (wz (numB b)) (by rw [wzl]; omega) (by rw [wzl]; omega)
  have x2 := ref03_Mul_sp (wz (numT b)) (wz (numB a)) (by rw [wzl]; omega) (by rw [wzl]; omega)
  have x4 := ref03_Sub_sp (wz (numT a * numB b)) (wz (numT b * numB a)) (by rw [wzl]; omega) (by rw [wzl]; omega)
  have x5 := ref03_Sign_sp (wz (numT a * numB b - numT b * numB a)) (by rw [wzl]; omega)
  rw [zv_wz, zv_wz] at x1 x2 x4
  rw [zv_wz, sgnZ_sub] at x5
  exact sound_ 0 (ref04_Cmp_tree _ _ _) (wp_call (ref04_Top_sp a (by omega)) (wp_call (ref04_Bot_sp b (by omega)) (wp_call x1 (wp_call (ref04_Top_sp b (by omega)) (wp_call (ref04_Bot_sp a (by omega)) (wp_call x2 (wp_call x4 (wp_call x5 (wp_ret rfl)))))))))
theorem numB_one (h : a.bot = [1]) : numB a = 1 := by unfold numB; rw [h]; simp [nv]
theorem ratio_Cmp_sp (ha : SmN a) (hb : SmN b) : Sp 74 [dN a, dN b] [.int (cmpR a b)] := by
  obtain ⟨a1, a2⟩ := ha
  obtain ⟨b1, b2⟩ := hb
  have at_ := numT_len a; have ab := numB_len a; have bt := numT_len b; have bb := numB_len b
  have m1 := lenZ_mul (numT a) (numB b)
  have m2 := lenZ_mul (numT b) (numB a)
  have x1 := whole_Mul_sp ⟨a.neg, a.top⟩ ⟨false, b.bot⟩ (by show a.top.length ≤ _; omega) (by show b.bot.length ≤ _; omega)
  have x2 := whole_Mul_sp ⟨b.neg, b.top⟩ ⟨false, a.bot⟩ (by show b.top.length ≤ _; omega) (by show a.bot.length ≤ _; omega)
  have x4 := whole_Cmp_sp (wz (numT a * numB b)) (wz (numT b * numB a)) (by rw [wzl]; omega) (by rw [wzl]; omega)
  have x5 := whole_Cmp_sp ⟨a.neg, a.top⟩ ⟨b.neg, b.top⟩ (by show a.top.length ≤ _; omega) (by show b.top.length ≤ _; omega)
  rw [zv_top, zv_bot] at x1 x2
  rw [zv_wz, zv_wz] at x4
  rw [zv_top, zv_top] at x5
  refine sound_ 0 (ratio_Cmp_tree _ _ _) (wp_call (ratio_isOne_sp a.bot) ?_)
  simp only [getD_c0, toBool_bool]
  refine wp_decs (fun h => wp_call (ratio_isOne_sp b.bot) ?_) (fun h => wp_call (ratio_top_sp a) (wp_call (ratio_bot_sp b) (wp_call x1 (wp_call (ratio_top_sp b) (wp_call (ratio_bot_sp a) (wp_call x2 (wp_call x4 (wp_ret rfl))))))))
  simp only [getD_c0, toBool_bool]
  refine wp_decs (fun h' => ?_) (fun h' => wp_call (ratio_top_sp a) (wp_call (ratio_bot_sp b) (wp_call x1 (wp_call (ratio_top_sp b) (wp_call (ratio_bot_sp a) (wp_call x2 (wp_call x4 (wp_ret rfl))))))))
  refine wp_call (ratio_top_sp a) (wp_call (ratio_top_sp b) (wp_call x5 (wp_ret ?_)))
  unfold cmpR
  rw [numB_one h, numB_one h', Int.mul_one, Int.mul_one]; rfl
theorem ratio_Sign_sp (ha : SmN a) : Sp 59 [dN a] [.int (sgnZ (numT a))] := by
  obtain ⟨a1, a2⟩ := ha
  exact sound_ 0 (ratio_Sign_tree _ _) (wp_call (ratio_top_sp a) (wp_call (whole_Sign_sp ⟨a.neg, a.top⟩ (by show a.top.length ≤ _; omega)) (wp_ret rfl)))
theorem ref04_Neg_sp (a : Num) : Sp 66 [dN a] [dN (negN a)] := by
  refine sound_ 0 (ref04_Neg_tree _ _) ?_
  simp only [dN_0, dN_1, dN_2, els_dL, List.length_map, int_beq, toBool_bool]
  unfold negN
  refine wp_decs (fun h => wp_call (ref04_Of_sp 0 (by unfold inR; omega)) (wp_ret ?_)) (fun h => wp_ret ?_)
  · rw [if_pos (List.length_eq_zero_iff.1 (by omega))]; rfl
  · rw [if_neg (fun hh => h (by rw [hh]; rfl))]; rfl
end
section
variable {a b : Num} {z y : Int} {d e : Nat}
/-- A right number with a sign. -/
def signN (neg : Bool) (n : Num) : Num := ⟨neg && decide (0 < n.top.length), n.top, n.bot⟩
theorem ratio_copied_sp (neg : Bool) (h : RNum a z d) : Sp 109 [.bool neg, dN a] [dN (signN neg a)] := by
  obtain ⟨l1, l2⟩ := h.len
  have e1 : lb (nv a.top) = a.top := by rw [h.eq]; show lb (nv (lb _)) = lb _; rw [nv_lb]
  have e2 : lb (nv a.bot) = a.bot := by rw [h.eq]; show lb (nv (lb _)) = lb _; rw [nv_lb]
  have n1 := nat_Norm_sp a.top (by omega)
  have n2 := nat_Norm_sp a.bot (by omega)
  rw [e1] at n1
  rw [e2] at n2
  refine sound_ 0 (ratio_copied_tree _ _ _) (wp_call n1 (wp_call n2 ?_))
  simp only [getD_c0, els_dL, List.length_map, toBool_bool]
  unfold signN
  cases neg with
  | true =>
    refine wp_tt rfl (wp_ret ?_)
    rw [Bool.true_and, show decide ((0 : Int) < (a.top.length : Int)) = decide (0 < a.top.length) by rw [decide_eq_decide]; omega]; rfl
  | false => exact wp_ff rfl (wp_ret rfl)
theorem RNum.top0 (h : RNum a z d) : a.top = [] ↔ z = 0 := by rw [h.eq]; show lb z.natAbs = [] ↔ _; rw [lb_eq_nil]; omega
theorem RNum.sgn (h : RNum a z d) : a.neg = decide (z < 0) := by rw [h.eq]; rfl
theorem sign_neg (h : RNum a z d) : signN (!a.neg) a = negN a := by
  unfold signN negN
  split
  · rename_i h0
    rw [h0]
    have hz := h.top0.1 h0
    have hd : d = 1 := by
      have := h.cop
      rw [hz, Int.natAbs_zero, Nat.coprime_zero_left] at this
      exact this
    have hb : a.bot = [1] := by rw [h.eq, hd]; exact lbn_one
    rw [hb]; simp [ofZ, lb_zero]
  · rename_i h0
    rw [decide_eq_true (List.length_pos_iff.2 h0), Bool.and_true]
theorem sign_same (h : RNum a z d) : signN a.neg a = a := by
  unfold signN
  have : (a.neg && decide (0 < a.top.length)) = a.neg := by
    by_cases h0 : a.top = []
    · have := h.top0.1 h0
      rw [h.sgn, this]; simp
    · rw [decide_eq_true (List.length_pos_iff.2 h0), Bool.and_true]
  rw [this]
theorem ratio_Neg_sp (h : RNum a z d) : Sp 57 [dN a] [dN (negN a)] := by
  refine sound_ 0 (ratio_Neg_tree _ _) ?_
  simp only [dN_0, toBool_bool]
  refine wp_call (ratio_copied_sp _ h) (wp_ret ?_)
  rw [sign_neg h]; rfl
theorem ratio_Abs_sp (h : RNum a z d) : Sp 63 [dN a] [dN ⟨false, a.top, a.bot⟩] := by
  refine sound_ 0 (ratio_Abs_tree _ _) (wp_call (ratio_copied_sp _ h) (wp_ret ?_))
  simp [signN]
theorem ratio_Sub_sp (ha : SmN a) (h : RNum b z d) : Sp 72 [dN a, dN b] (retR (subR a b)) :=
  sound_ 0 (ratio_Sub_tree _ _ _) (wp_call (ratio_Neg_sp h) (wp_call (ratio_Add_sp ha (negN_rn h).sm) (wp_ret rfl)))
theorem ref04_Sub_sp (ha : SmN a) (h : RNum b z d) : Sp 81 [dN a, dN b] (retR (subR a b)) :=
  sound_ 0 (ref04_Sub_tree _ _ _) (wp_call (ref04_Neg_sp b) (wp_call (ref04_Add_sp ha (negN_rn h).sm) (wp_ret rfl)))
theorem flr_len (h : RNum a z d) : lenZ (dmZ z (d : Int)).1 ≤ 32 := by
  have hd0 := h.d0
  obtain ⟨e1, _, e3, e4, _⟩ := dmZ_spec z (d : Int) (by omega)
  have hl := h.lz
  have hz := lenZ_lt z
  have hz2 : z.natAbs < B ^ 32 := Nat.lt_of_lt_of_le hz (Nat.pow_le_pow_right B_pos hl)
  have e5 := e4 (by omega)
  refine lenZ_le ?_
  generalize (dmZ z (d : Int)).1 = q at *
  generalize (dmZ z (d : Int)).2 = r at *
  have hB2 : 4 ≤ B ^ 32 := by decide
  generalize B ^ 32 = P at *
  have hr : r < (d : Int) := by omega
  rcases Nat.lt_or_ge 1 d with h1 | h1
  · -- |q| < P
    rcases Nat.lt_or_ge q.natAbs P with h2 | h2
    · exact h2
    · exfalso
      rcases Int.le_total 0 q with h3 | h3
      · have : q * 2 ≤ q * (d : Int) := Int.mul_le_mul_of_nonneg_left (by omega) h3
        omega
      · have : (-q) * 2 ≤ (-q) * (d : Int) := Int.mul_le_mul_of_nonneg_left (by omega) (by omega)
        have h4 : (-q) * (d : Int) = -(q * (d : Int)) := Int.neg_mul _ _
        have h5 : (-q - 1) * 2 ≤ (-q - 1) * (d : Int) := Int.mul_le_mul_of_nonneg_left (by omega) (by omega)
        have h6 : (-q - 1) * (d : Int) = -(q * (d : Int)) - (d : Int) := by rw [Int.sub_mul, Int.neg_mul, Int.one_mul]
        omega
  · obtain rfl : d = 1 := by omega
    have : q * ((1 : Nat) : Int) = q := by simp
    omega
theorem flr_rn (h : RNum a z d) : RNum (flrN a) (dmZ z (d : Int)).1 1 := by
  have hf : flrN a = ofZ (dmZ z (d : Int)).1 := by unfold flrN; rw [h.top, h.bot]
  exact ⟨by rw [hf, frac_one], by decide, Nat.coprime_one_right _, flr_len h, by rw [lbn_one]; decide⟩
theorem flr_whole (h : RNum a z d) : wholeN (dmZ (numT a) (numB a)).1 = flrN a := by
  unfold wholeN flrN
  have := flr_len h
  rw [h.top, h.bot, if_neg (by unfold lenZ at this; omega)]
theorem dm1_len (h : RNum a z d) : lenZ (dmZ (numT a) (numB a)).1 ≤ 32 := by rw [h.top, h.bot]; exact flr_len h
theorem RNum.botnz (h : RNum a z d) : numB a ≠ 0 := by rw [h.bot]; have := h.d0; omega
theorem ratio_Floor_sp (h : RNum a z d) : Sp 62 [dN a] [dN (flrN a)] := by
  obtain ⟨l1, l2⟩ := h.len
  have dm := whole_DivMod_sp ⟨a.neg, a.top⟩ ⟨false, a.bot⟩ (by show a.top.length ≤ _; omega) (by show a.bot.length ≤ _; omega) (longOk _ _ (by have : (lb (nv a.top)).length ≤ a.top.length := lb_len.2 (nv_lt _); show (lb (nv a.top)).length ≤ _; omega))
  rw [zv_top, zv_bot] at dm
  unfold dmD at dm
  rw [if_neg h.botnz] at dm
  have dl := dm1_len h
  have wh := ratio_Whole_sp (wz (dmZ (numT a) (numB a)).1) (by rw [wzl]; omega)
  rw [zv_wz, flr_whole h] at wh
  exact sound_ 0 (ratio_Floor_tree _ _) (wp_call (ratio_top_sp a) (wp_call (ratio_bot_sp a) (wp_call dm (wp_call wh (wp_ret rfl)))))
theorem ref04_Floor_sp (h : RNum a z d) : Sp 69 [dN a] [dN (flrN a)] := by
  obtain ⟨l1, l2⟩ := h.len
  have at_ := numT_len a; have ab := numB_len a
  have dm := ref03_DivMod_sp (wz (numT a)) (wz (numB a)) (by rw [wzl]; omega) (by rw [wzl]; omega)
  rw [zv_wz, zv_wz] at dm
  unfold dmD at dm
  rw [if_neg h.botnz] at dm
  have dl := dm1_len h
  have wh := ref04_Whole_sp (wz (dmZ (numT a) (numB a)).1) (by rw [wzl]; omega)
  rw [zv_wz] at wh
  exact sound_ 0 (ref04_Floor_tree _ _) (wp_call (ref04_Top_sp a (by omega)) (wp_call (ref04_Bot_sp a (by omega)) (wp_call dm (wp_call wh (wp_ret rfl)))))
theorem ratio_Ceil_sp (h : RNum a z d) : Sp 61 [dN a] [dN (negN (flrN (negN a)))] :=
  sound_ 0 (ratio_Ceil_tree _ _) (wp_call (ratio_Neg_sp h) (wp_call (ratio_Floor_sp (negN_rn h)) (wp_call (ratio_Neg_sp (flr_rn (negN_rn h))) (wp_ret rfl))))
theorem divR_ok (ha : RNum a z d) (hb : RNum b y e) (hy : y ≠ 0) (h : (divR a b).2 = 0) : ∃ x c, RNum (divR a b).1 x c := by
  have hq : numB a * numT b ≠ 0 := Int.mul_ne_zero ha.botnz (by rw [hb.top]; exact hy)
  obtain ⟨x, c, h1, _⟩ := (mkR_ok hq).1 h
  exact ⟨x, c, h1⟩
theorem mulR_ok (ha : RNum a z d) (hb : RNum b y e) (h : (mulR a b).2 = 0) : ∃ x c, RNum (mulR a b).1 x c := by
  have hq : numB a * numB b ≠ 0 := Int.mul_ne_zero ha.botnz hb.botnz
  obtain ⟨x, c, h1, _⟩ := (mkR_ok hq).1 h
  exact ⟨x, c, h1⟩
theorem addR_ok (ha : RNum a z d) (hb : RNum b y e) (h : (addR a b).2 = 0) : ∃ x c, RNum (addR a b).1 x c := by
  have hq : numB a * numB b ≠ 0 := Int.mul_ne_zero ha.botnz hb.botnz
  obtain ⟨x, c, h1, _⟩ := (mkR_ok hq).1 h
  exact ⟨x, c, h1⟩
theorem sgnZ_zero {x : Int} : sgnZ x = 0 ↔ x = 0 := by unfold sgnZ; by_cases h1 : x < 0 <;> by_cases h2 : x = 0 <;> simp [h1, h2]
theorem ratio_Mod_sp (ha : RNum a z d) (hb : RNum b y e) : Sp 75 [dN a, dN b] (retR (modR a b)) := by
  refine sound_ 0 (ratio_Mod_tree _ _ _) (wp_call (ratio_Sign_sp ha.sm) ?_)
  simp only [getD_c0, toInt_int, int_beq, dN_0, toBool_bool]
  unfold modR
  refine wp_decs (fun h => wp_call (ratio_copied_sp _ hb) (wp_ret ?_)) (fun h => wp_call (ratio_Div_sp hb.sm ha.sm) ?_)
  · rw [if_pos (ha.top0.2 (by rw [← ha.top]; exact sgnZ_zero.1 h)), sign_same hb]; rfl
  have hz : z ≠ 0 := fun hh => h (by rw [ha.top, hh]; rfl)
  rw [if_neg (fun hh => hz (ha.top0.1 hh))]
  simp only [retR, getD_c0, getD_c1, toInt_int, int_bne, dN_zero]
  unfold bindR
  refine wp_decs (fun h1 => wp_ret ?_) (fun h1 => ?_)
  · rw [if_neg h1]
  have h1' := Classical.not_not.1 h1
  rw [if_pos h1']
  obtain ⟨x, c, hr⟩ := divR_ok hb ha hz h1'
  refine wp_call (ratio_Floor_sp hr) (wp_call (ratio_Mul_sp ha.sm (flr_rn hr).sm) ?_)
  simp only [retR, getD_c0, getD_c1, toInt_int, int_bne]
  refine wp_decs (fun h2 => wp_ret ?_) (fun h2 => ?_)
  · rw [if_neg h2]
  have h2' := Classical.not_not.1 h2
  rw [if_pos h2']
  obtain ⟨x2, c2, hr2⟩ := mulR_ok ha (flr_rn hr) h2'
  exact wp_call (ratio_Sub_sp hb.sm hr2) (wp_ret rfl)
theorem ref04_Mod_sp (ha : RNum a z d) (hb : RNum b y e) : Sp 83 [dN a, dN b] (retR (modR a b)) := by
  refine sound_ 0 (ref04_Mod_tree _ _ _) ?_
  simp only [dN_1, els_dL, List.length_map, int_beq]
  unfold modR
  refine wp_decs (fun h => wp_ret ?_) (fun h => wp_call (ref04_Div_sp hb.sm ha.sm) ?_)
  · rw [if_pos (List.length_eq_zero_iff.1 (by omega))]; rfl
  have ht : ¬ a.top = [] := fun hh => h (by rw [hh]; rfl)
  have hz : z ≠ 0 := fun hh => ht (ha.top0.2 hh)
  rw [if_neg ht]
  simp only [retR, getD_c0, getD_c1, toInt_int, int_bne, dN_zero]
  unfold bindR
  refine wp_decs (fun h1 => wp_ret ?_) (fun h1 => ?_)
  · rw [if_neg h1]
  have h1' := Classical.not_not.1 h1
  rw [if_pos h1']
  obtain ⟨x, c, hr⟩ := divR_ok hb ha hz h1'
  refine wp_call (ref04_Floor_sp hr) (wp_call (ref04_Mul_sp ha.sm (flr_rn hr).sm) ?_)
  simp only [retR, getD_c0, getD_c1, toInt_int, int_bne]
  refine wp_decs (fun h2 => wp_ret ?_) (fun h2 => ?_)
  · rw [if_neg h2]
  have h2' := Classical.not_not.1 h2
  rw [if_pos h2']
  obtain ⟨x2, c2, hr2⟩ := mulR_ok ha (flr_rn hr) h2'
  exact wp_call (ref04_Sub_sp hb.sm hr2) (wp_ret rfl)
end
end Go.Proofs.YtjmddikeadbmjaaGreat
set_option maxRecDepth 100000
namespace Go.Proofs.YtjmddikeadbmjaaGreat

theorem powZ_len (x n : Int) : lenZ (powZ x n).1 ≤ 100 := by
  unfold powZ
  split
  · show lenZ 0 ≤ 100; unfold lenZ; rw [show Int.natAbs 0 = 0 from rfl, lb_zero]; simp
  · exact powR_len _ _ _ _ (lb_len.2 (by show 1 < B ^ 100; exact Nat.one_lt_pow (by decide) (by decide)))
section
variable {a b : Num} {z y : Int} {d e : Nat}
theorem ratio_Pow_end (p q : Int × Int) (hp : lenZ p.1 ≤ 100) (hq : lenZ q.1 ≤ 100) {xs xt : List D} (h1 : Sp 127 xs (powD p)) (h2 : Sp 127 xt (powD q)) : Tw (.call 127 [] xs fun yy7 => .br (((yy7.getD 1 D.nil).toInt) != 0) (.ret [D.agg [D.bool false, D.sl [], D.sl []], D.int ((yy7.getD 1 D.nil).toInt)]) (.call 127 [] xt fun yy8 => .br (((yy8.getD 1 D.nil).toInt) != 0) (.ret [D.agg [D.bool false, D.sl [], D.sl []], D.int ((yy8.getD 1 D.nil).toInt)]) (.call 114 [] [yy7.getD 0 D.nil, yy8.getD 0 D.nil] fun yy9 => .ret [yy9.getD 0 D.nil, D.int ((yy9.getD 1 D.nil).toInt)]))) (retR (powD2 p q)) := by
  refine wp_call h1 ?_
  simp only [powD, getD_c0, getD_c1, toInt_int, int_bne, dN_zero]
  unfold powD2
  refine wp_decs (fun g1 => wp_ret ?_) (fun g1 => wp_call h2 ?_)
  · rw [if_neg g1]; rfl
  rw [if_pos (Classical.not_not.1 g1)]
  simp only [powD, getD_c0, getD_c1, toInt_int, int_bne, dN_zero]
  refine wp_decs (fun g2 => wp_ret ?_) (fun g2 => ?_)
  · rw [if_neg g2]; rfl
  rw [if_pos (Classical.not_not.1 g2)]
  have mk := ratio_Make_sp (wz p.1) (wz q.1) (by rw [wzl]; omega) (by rw [wzl]; omega)
  rw [zv_wz, zv_wz] at mk
  exact wp_call mk (wp_ret rfl)
theorem ratio_Pow_sp (h : RNum a z d) (n : Int) (hn : n ≤ 3000 ∧ (-3000 ≤ n ∨ n = -9223372036854775808)) : Sp 76 [dN a, .int n] (retR (powRt a n)) := by
  obtain ⟨l1, l2⟩ := h.len
  refine sound_ 0 (ratio_Pow_tree _ _ _) (wp_call (ratio_top_sp a) (wp_call (ratio_bot_sp a) ?_))
  simp only [getD_c0, toInt_int, int_beq]
  unfold powRt
  refine wp_decs (fun h0 => wp_call (whole_Sign_sp ⟨a.neg, a.top⟩ (by show a.top.length ≤ _; omega)) ?_) (fun h0 => ?_)
  · rw [if_pos h0, zv_top]
    simp only [getD_c0, toInt_int, int_beq, dN_zero]
    refine wp_decs (fun h1 => wp_ret ?_) (fun h1 => wp_decs (fun h2 => wp_ret ?_) (fun h2 => ?_))
    · rw [if_pos (.inl (h.top0.2 (by rw [← h.top]; exact sgnZ_zero.1 h1)))]; rfl
    · rw [if_pos (.inr (by omega))]; rfl
    · have hz : ¬ a.top = [] := fun hh => h1 (by rw [h.top, h.top0.1 hh]; rfl)
      rw [if_neg (by intro hh; rcases hh with hh | hh; exact hz hh; omega), wrap64 (by omega) (by omega), Int.zero_sub]
      have p1 := whole_Pow_sp ⟨a.neg, a.top⟩ (-n) (by show a.top.length ≤ _; omega) (by omega)
      have p2 := whole_Pow_sp ⟨false, a.bot⟩ (-n) (by show a.bot.length ≤ _; omega) (by omega)
      exact ratio_Pow_end _ _ (powZ_len _ _) (powZ_len _ _) p2 p1
  · rw [if_neg h0]
    have p1 := whole_Pow_sp ⟨a.neg, a.top⟩ n (by show a.top.length ≤ _; omega) (by omega)
    have p2 := whole_Pow_sp ⟨false, a.bot⟩ n (by show a.bot.length ≤ _; omega) (by omega)
    exact ratio_Pow_end _ _ (powZ_len _ _) (powZ_len _ _) p1 p2
theorem ref04_Pow_end (p q : Int × Int) (hp : lenZ p.1 ≤ 100) (hq : lenZ q.1 ≤ 100) {xs xt : List D} (h1 : Sp 130 xs (powD p)) (h2 : Sp 130 xt (powD q)) : Tw (.call 130 [] xs fun yy7 => .br (((yy7.getD 1 D.nil).toInt) != 0) (.ret [D.agg [D.bool false, D.sl [], D.sl []], D.int ((yy7.getD 1 D.nil).toInt)]) (.call 130 [] xt fun yy8 => .br (((yy8.getD 1 D.nil).toInt) != 0) (.ret [D.agg [D.bool false, D.sl [], D.sl []], D.int ((yy8.getD 1 D.nil).toInt)]) (.call 54 [] [yy7.getD 0 D.nil, yy8.getD 0 D.nil] fun yy9 => .ret [yy9.getD 0 D.nil, D.int ((yy9.getD 1 D.nil).toInt)]))) (retR (powD2 p q)) := by
  refine wp_call h1 ?_
  simp only [powD, getD_c0, getD_c1, toInt_int, int_bne, dN_zero]
  unfold powD2
  refine wp_decs (fun g1 => wp_ret ?_) (fun g1 => wp_call h2 ?_)
  · rw [if_neg g1]; rfl
  rw [if_pos (Classical.not_not.1 g1)]
  simp only [powD, getD_c0, getD_c1, toInt_int, int_bne, dN_zero]
  refine wp_decs (fun g2 => wp_ret ?_) (fun g2 => ?_)
  · rw [if_neg g2]; rfl
  rw [if_pos (Classical.not_not.1 g2)]
  have mk := ref04_Make_sp (wz p.1) (wz q.1) (by rw [wzl]; omega) (by rw [wzl]; omega)
  rw [zv_wz, zv_wz] at mk
  exact wp_call mk (wp_ret rfl)
theorem ref04_Pow_sp (h : RNum a z d) (n : Int) (hn : n ≤ 3000 ∧ (-3000 ≤ n ∨ n = -9223372036854775808)) : Sp 84 [dN a, .int n] (retR (powRt a n)) := by
  obtain ⟨l1, l2⟩ := h.len
  have at_ := numT_len a; have ab := numB_len a
  refine sound_ 0 (ref04_Pow_tree _ _ _) (wp_call (ref04_Top_sp a (by omega)) (wp_call (ref04_Bot_sp a (by omega)) ?_))
  simp only [getD_c0, toInt_int, int_beq, dN_1, els_dL, List.length_map]
  unfold powRt
  refine wp_decs (fun h0 => ?_) (fun h0 => ?_)
  · rw [if_pos h0, dN_zero]
    refine wp_decs (fun h1 => wp_ret ?_) (fun h1 => wp_decs (fun h2 => wp_ret ?_) (fun h2 => ?_))
    · rw [if_pos (.inl (List.length_eq_zero_iff.1 (by omega)))]; rfl
    · rw [if_pos (.inr (by omega))]; rfl
    · have hz : ¬ a.top = [] := fun hh => h1 (by rw [hh]; rfl)
      rw [if_neg (by intro hh; rcases hh with hh | hh; exact hz hh; omega), wrap64 (by omega) (by omega), Int.zero_sub]
      have p1 := ref03_Pow_sp (wz (numT a)) (-n) (by rw [wzl]; omega) (by omega)
      have p2 := ref03_Pow_sp (wz (numB a)) (-n) (by rw [wzl]; omega) (by omega)
      rw [zv_wz] at p1 p2
      exact wp_call (ref04_Bot_sp a (by omega)) (wp_call (ref04_Top_sp a (by omega)) (ref04_Pow_end _ _ (powZ_len _ _) (powZ_len _ _) p2 p1))
  · rw [if_neg h0]
    have p1 := ref03_Pow_sp (wz (numT a)) n (by rw [wzl]; omega) (by omega)
    have p2 := ref03_Pow_sp (wz (numB a)) n (by rw [wzl]; omega) (by omega)
    rw [zv_wz] at p1 p2
    exact ref04_Pow_end _ _ (powZ_len _ _) (powZ_len _ _) p1 p2
theorem gcd_len (h : RNum a z d) (h' : RNum b y e) : (lb (Nat.gcd (nv a.top) (nv b.top))).length ≤ 32 := by
  by_cases h0 : nv a.top = 0
  · rw [h0, Nat.gcd_zero_left]
    exact Nat.le_trans (lb_len.2 (nv_lt _)) h'.len.1
  · exact Nat.le_trans (lb_len.2 (Nat.lt_of_le_of_lt (Nat.gcd_le_left _ (by omega)) (nv_lt _))) h.len.1
theorem zv_pos (n : Nat) : zv ⟨false, lb n⟩ = (n : Int) := by rw [zv_lb]; rfl
theorem gcd_rn (h : RNum a z d) (h' : RNum b y e) : RNum (ofZ (Nat.gcd (nv a.top) (nv b.top) : Nat)) (Nat.gcd (nv a.top) (nv b.top) : Nat) 1 :=
  ⟨(frac_one _).symm, by decide, Nat.coprime_one_right _, gcd_len h h', by rw [lbn_one]; decide⟩
theorem ratio_Gcd_sp (h : RNum a z d) (h' : RNum b y e) : Sp 78 [dN a, dN b] (retR (gcdR a b)) := by
  refine sound_ 0 (ratio_Gcd_tree _ _ _) (wp_call (ratio_isOne_sp a.bot) ?_)
  simp only [getD_c0, toBool_bool, not_dec, dN_zero]
  unfold gcdR
  refine wp_decs (fun h1 => wp_ret ?_) (fun h1 => wp_call (ratio_isOne_sp b.bot) ?_)
  · rw [if_neg (fun hh => h1 hh.1)]; rfl
  simp only [getD_c0, toBool_bool, not_dec]
  refine wp_decs (fun h2 => wp_ret ?_) (fun h2 => ?_)
  · rw [if_neg (fun hh => h2 hh.2)]; rfl
  rw [if_pos ⟨Classical.not_not.1 h1, Classical.not_not.1 h2⟩]
  have gl := gcd_len h h'
  have gc := nat_Gcd_sp a.top b.top (by have := h.len; omega) (by have := h'.len; omega)
  have wh := ratio_Whole_sp ⟨false, lb (Nat.gcd (nv a.top) (nv b.top))⟩ (by show (lb _).length ≤ _; omega)
  rw [zv_pos] at wh
  unfold wholeN at wh
  rw [if_neg (by rw [Int.natAbs_natCast]; omega)] at wh
  exact wp_call gc (wp_call wh (wp_ret rfl))
theorem ref04_Gcd_sp (h : RNum a z d) (h' : RNum b y e) : Sp 87 [dN a, dN b] (retR (gcdR a b)) := by
  refine sound_ 0 (ref04_Gcd_tree _ _ _) (wp_call (ref04_IsWhole_sp a) ?_)
  simp only [getD_c0, toBool_bool, not_dec, dN_zero]
  unfold gcdR
  refine wp_decs (fun h1 => wp_ret ?_) (fun h1 => wp_call (ref04_IsWhole_sp b) ?_)
  · rw [if_neg (fun hh => h1 hh.1)]; rfl
  simp only [getD_c0, toBool_bool, not_dec]
  refine wp_decs (fun h2 => wp_ret ?_) (fun h2 => ?_)
  · rw [if_neg (fun hh => h2 hh.2)]; rfl
  rw [if_pos ⟨Classical.not_not.1 h1, Classical.not_not.1 h2⟩]
  have gl := gcd_len h h'
  have gc := ref02_Gcd_sp a.top b.top (by have := h.len; omega) (by have := h'.len; omega)
  have wh := ref04_Whole_sp ⟨false, lb (Nat.gcd (nv a.top) (nv b.top))⟩ (by show (lb _).length ≤ _; omega)
  rw [zv_pos] at wh
  exact wp_call gc (wp_call wh (wp_ret rfl))
theorem gcdR_ok (h : RNum a z d) (h' : RNum b y e) (h0 : (gcdR a b).2 = 0) : ∃ x, RNum (gcdR a b).1 x 1 := by
  unfold gcdR at h0 ⊢
  split at h0
  · rename_i hh; rw [if_pos hh]; exact ⟨_, gcd_rn h h'⟩
  · cases h0
theorem ratio_Lcm_sp (h : RNum a z d) (h' : RNum b y e) : Sp 77 [dN a, dN b] (retR (lcmR a b)) := by
  refine sound_ 0 (ratio_Lcm_tree _ _ _) (wp_call (ratio_Gcd_sp h h') ?_)
  simp only [retR, getD_c0, getD_c1, toInt_int, int_bne, dN_zero]
  unfold lcmR bindR
  refine wp_decs (fun h1 => wp_ret ?_) (fun h1 => ?_)
  · rw [if_neg h1]
  have h1' := Classical.not_not.1 h1
  rw [if_pos h1']
  obtain ⟨x, hx⟩ := gcdR_ok h h' h1'
  refine wp_call (ratio_Sign_sp hx.sm) ?_
  simp only [getD_c0, toInt_int, int_beq]
  refine wp_decs (fun h2 => wp_call (ratio_Of_sp 0 (by unfold inR; omega)) (wp_ret ?_)) (fun h2 => wp_call (ratio_Div_sp h.sm hx.sm) ?_)
  · have hx0 : x = 0 := by rw [← hx.top]; exact sgnZ_zero.1 h2
    rw [if_pos (hx.top0.2 hx0)]
    rw [hx.eq, hx0, frac_one]; rfl
  · have hx0 : x ≠ 0 := fun hh => h2 (by rw [hx.top, hh]; rfl)
    rw [if_neg (fun hh => hx0 (hx.top0.1 hh))]
    simp only [retR, getD_c0, getD_c1, toInt_int, int_bne]
    refine wp_decs (fun h3 => wp_ret ?_) (fun h3 => ?_)
    · rw [if_neg h3]
    have h3' := Classical.not_not.1 h3
    rw [if_pos h3']
    obtain ⟨x2, c2, hr2⟩ := divR_ok h hx hx0 h3'
    exact wp_call (ratio_Mul_sp hr2.sm h'.sm) (wp_ret rfl)
theorem ref04_Lcm_sp (h : RNum a z d) (h' : RNum b y e) : Sp 86 [dN a, dN b] (retR (lcmR a b)) := by
  refine sound_ 0 (ref04_Lcm_tree _ _ _) (wp_call (ref04_Gcd_sp h h') ?_)
  simp only [retR, getD_c0, getD_c1, toInt_int, int_bne, int_beq, dN_zero, dN_1, els_dL, List.length_map]
  unfold lcmR bindR
  refine wp_decs (fun h1 => wp_ret ?_) (fun h1 => ?_)
  · rw [if_neg h1]
  have h1' := Classical.not_not.1 h1
  rw [if_pos h1']
  dsimp only
  obtain ⟨x, hx⟩ := gcdR_ok h h' h1'
  refine wp_decs (fun h2 => wp_ret ?_) (fun h2 => wp_call (ref04_Div_sp h.sm hx.sm) ?_)
  · rw [if_pos (List.length_eq_zero_iff.1 (by omega))]
  · have ht : ¬ (gcdR a b).1.top = [] := fun hh => h2 (by rw [hh]; rfl)
    have hx0 : x ≠ 0 := fun hh => ht (hx.top0.2 hh)
    rw [if_neg ht]
    simp only [retR, getD_c0, getD_c1, toInt_int, int_bne]
    refine wp_decs (fun h3 => wp_ret ?_) (fun h3 => ?_)
    · rw [if_neg h3]
    have h3' := Classical.not_not.1 h3
    rw [if_pos h3']
    obtain ⟨x2, c2, hr2⟩ := divR_ok h hx hx0 h3'
    exact wp_call (ref04_Mul_sp hr2.sm h'.sm) (wp_ret rfl)
end
end Go.Proofs.YtjmddikeadbmjaaGreat
