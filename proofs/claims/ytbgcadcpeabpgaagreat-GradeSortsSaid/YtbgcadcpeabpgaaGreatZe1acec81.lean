/- Proved: lemmas for the law of this folder, part 6. No condition. -/
import Derived.Test.YtbgcadcpeabpgaaGreatRows
import Derived.WalkKit
import Derived.WalkSpells
import Derived.WalkLawsBesides
import Derived.Lib.Hide
import Derived.Laws.CopyOwn
import Derived.Deep.QuietTactic
import Derived.BigQuiet
import Derived.Orders
import Derived.Defers
import Derived.Recover
import Derived.Test.YtbgcadcpeabpgaaGreatProg
import Derived.KernelRfl
import Derived.ProofKit
import Derived.OpenShut
import Derived.Test.YtbgcadcpeabpgaaGreatZ23f31435
set_option linter.unusedSimpArgs false
set_option linter.unusedVariables false
set_option maxRecDepth 100000
namespace Go.Proofs.YtbgcadcpeabpgaaGreat

theorem zv_mk (b : Bool) (l : List Limb) : zv ⟨b, l⟩ = if b then -(nv l : Int) else (nv l : Int) := rfl
theorem sgn_cases (z : Int) : (sgnZ z = -1 ∧ z < 0) ∨ (sgnZ z = 0 ∧ z = 0) ∨ (sgnZ z = 1 ∧ 0 < z) := by
  unfold sgnZ
  by_cases h1 : z < 0
  · exact .inl ⟨if_pos h1, h1⟩
  · by_cases h2 : z = 0
    · exact .inr (.inl ⟨by rw [if_neg h1, if_pos h2], h2⟩)
    · exact .inr (.inr ⟨by rw [if_neg h1, if_neg h2], by omega⟩)
theorem whole_Sign_sp (a : Wh) (h : a.mag.length ≤ 1000000) : Sp 159 [dW a] [.int (sgnZ (zv a))] := by
  refine sound_ 0 (whole_Sign_tree _ _) ?_
  have cm := nat_Cmp_sp a.mag [] h (by simp)
  simp only [dW_0, dW_1, toBool_bool]
  refine wp_call cm ?_
  simp only [getD_c0, toInt_int, int_beq, nv_nil]
  unfold sgnZ zv cmpN
  refine wp_decs (fun h0 => wp_ret ?_) (fun h0 => wp_br (fun h1 => wp_ret ?_) (fun h1 => wp_ret ?_))
  · have : nv a.mag = 0 := by
      rw [if_neg (by omega)] at h0
      split at h0
      · assumption
      · omega
    rw [this]; cases a.neg <;> simp
  · have : nv a.mag ≠ 0 := fun hh => h0 (by rw [hh]; simp)
    rw [if_pos (by rw [if_pos h1]; omega)]
  · have : nv a.mag ≠ 0 := fun hh => h0 (by rw [hh]; simp)
    rw [if_neg (by rw [if_neg (by simp [h1])]; omega), if_neg (by rw [if_neg (by simp [h1])]; omega)]
theorem whole_Cmp_sp (a b : Wh) (ha : a.mag.length ≤ 1000000) (hb : b.mag.length ≤ 1000000) : Sp 141 [dW a, dW b] [.int (cmpZ (zv a) (zv b))] := by
  refine sound_ 0 (whole_Cmp_tree _ _ _) (wp_call (whole_Sign_sp a ha) (wp_call (whole_Sign_sp b hb) ?_))
  simp only [getD_c0, toInt_int, dW_1]
  have za := zv_abs a
  have zb := zv_abs b
  refine wp_decs (fun h => wp_ret ?_) (fun h => wp_decs (fun h' => wp_ret ?_) (fun h' => wp_decs (fun h2 => wp_call (nat_Cmp_sp b.mag a.mag hb ha) (wp_ret ?_)) (fun h2 => wp_call (nat_Cmp_sp a.mag b.mag ha hb) (wp_ret ?_))))
  · have : zv a < zv b := by rcases sgn_cases (zv a) with h1 | h1 | h1 <;> rcases sgn_cases (zv b) with h2 | h2 | h2 <;> omega
    rw [cmpZ, if_pos this]
  · have : zv b < zv a := by rcases sgn_cases (zv a) with h1 | h1 | h1 <;> rcases sgn_cases (zv b) with h2 | h2 | h2 <;> omega
    rw [cmpZ, if_neg (by omega), if_neg (by omega)]
  · have h3 : zv a < 0 ∧ zv b < 0 := by rcases sgn_cases (zv a) with h1 | h1 | h1 <;> rcases sgn_cases (zv b) with h2 | h2 | h2 <;> omega
    simp only [getD_c0, toInt_int]
    have : cmpN (nv b.mag) (nv a.mag) = cmpZ (zv a) (zv b) := by
      unfold cmpN cmpZ
      by_cases g1 : nv b.mag < nv a.mag
      · rw [if_pos g1, if_pos (show zv a < zv b by omega)]
      · rw [if_neg g1, if_neg (show ¬ zv a < zv b by omega)]
        by_cases g2 : nv b.mag = nv a.mag
        · rw [if_pos g2, if_pos (show zv a = zv b by omega)]
        · rw [if_neg g2, if_neg (show ¬ zv a = zv b by omega)]
    rw [this]
  · have h3 : 0 ≤ zv a ∧ 0 ≤ zv b := by rcases sgn_cases (zv a) with h1 | h1 | h1 <;> rcases sgn_cases (zv b) with h2 | h2 | h2 <;> omega
    simp only [getD_c0, toInt_int]
    have : cmpN (nv a.mag) (nv b.mag) = cmpZ (zv a) (zv b) := by
      unfold cmpN cmpZ
      by_cases g1 : nv a.mag < nv b.mag
      · rw [if_pos g1, if_pos (show zv a < zv b by omega)]
      · rw [if_neg g1, if_neg (show ¬ zv a < zv b by omega)]
        by_cases g2 : nv a.mag = nv b.mag
        · rw [if_pos g2, if_pos (show zv a = zv b by omega)]
        · rw [if_neg g2, if_neg (show ¬ zv a = zv b by omega)]
    rw [this]
theorem zv_flip (b : Wh) : zv ⟨!b.neg, b.mag⟩ = -zv b := by unfold zv; cases b.neg <;> simp
theorem zv_mul (a b : Wh) : (if (!(a.neg == b.neg)) = true then -((nv a.mag * nv b.mag : Nat) : Int) else ((nv a.mag * nv b.mag : Nat) : Int)) = zv a * zv b := by
  unfold zv; cases a.neg <;> cases b.neg <;> simp [Int.neg_mul, Int.mul_neg, Int.natCast_mul]
theorem whole_Mul_sp (a b : Wh) (ha : a.mag.length ≤ 100000) (hb : b.mag.length ≤ 100000) : Sp 142 [dW a, dW b] [dW (wz (zv a * zv b))] := by
  refine sound_ 0 (whole_Mul_tree _ _ _) ?_
  simp only [dW_0, dW_1, toBool_bool]
  refine wp_call (nat_Mul_sp a.mag b.mag ha hb) (wp_call (whole_signed_sp (!(a.neg == b.neg)) _) (wp_ret ?_))
  rw [zv_mul]; rfl
theorem ref03_Mul_sp (a b : Wh) (ha : a.mag.length ≤ 10000) (hb : b.mag.length ≤ 10000) : Sp 119 [dW a, dW b] [dW (wz (zv a * zv b))] := by
  have la : (lb (nv a.mag)).length ≤ a.mag.length := lb_len.2 (nv_lt _)
  have lb_ : (lb (nv b.mag)).length ≤ b.mag.length := lb_len.2 (nv_lt _)
  have ml := ref02_Mul_sp (lb (nv a.mag)) (lb (nv b.mag)) (by omega) (by omega)
  rw [nv_lb, nv_lb] at ml
  have hlen : (lb (nv a.mag * nv b.mag)).length ≤ a.mag.length + b.mag.length := lb_len.2 (by
    rw [Nat.pow_add]; exact Nat.mul_lt_mul'' (nv_lt _) (nv_lt _))
  refine sound_ 0 (ref03_Mul_tree _ _ _) (wp_call (ref03_Norm_sp a (by omega)) (wp_call (ref03_Norm_sp b (by omega)) ?_))
  simp only [dW_1]
  refine wp_call (ref02_Norm_sp a.mag (by omega)) (wp_call (ref02_Norm_sp b.mag (by omega)) (wp_call ml ?_))
  simp only [getD_c0, dW_0, toBool_bool]
  refine wp_call (ref03_Norm_sp ⟨!((wz (zv a)).neg == (wz (zv b)).neg), lb (nv a.mag * nv b.mag)⟩ (by show (lb _).length ≤ _; omega)) (wp_ret ?_)
  rw [getD_c0]
  congr 3
  have h1 : ∀ w : Wh, nv w.mag ≠ 0 → (wz (zv w)).neg = w.neg := fun w hw => by rw [wz_zv, if_neg hw]
  by_cases ha0 : nv a.mag = 0
  · have : zv a = 0 := by unfold zv; rw [ha0]; simp
    rw [this, Int.zero_mul, zv_lb, ha0, Nat.zero_mul]; simp
  · by_cases hb0 : nv b.mag = 0
    · have : zv b = 0 := by unfold zv; rw [hb0]; simp
      rw [this, Int.mul_zero, zv_lb, hb0, Nat.mul_zero]; simp
    · rw [h1 a ha0, h1 b hb0, zv_lb]
      exact zv_mul a b
/-- A quotient, rounded down, and the rest. -/
def dmZ (x y : Int) : Int × Int :=
  if (x < 0) = (y < 0) then (((x.natAbs / y.natAbs : Nat) : Int), if x < 0 then -((x.natAbs % y.natAbs : Nat) : Int) else ((x.natAbs % y.natAbs : Nat) : Int))
  else if x.natAbs % y.natAbs = 0 then (-((x.natAbs / y.natAbs : Nat) : Int), 0)
  else (-((x.natAbs / y.natAbs : Nat) : Int) - 1, (if x < 0 then -((x.natAbs % y.natAbs : Nat) : Int) else ((x.natAbs % y.natAbs : Nat) : Int)) + y)
def dmD (x y : Int) : List D := if y = 0 then [dW (wz 0), dW (wz 0), .bool false] else [dW (wz (dmZ x y).1), dW (wz (dmZ x y).2), .bool true]
theorem zv_neg {w : Wh} (h : nv w.mag ≠ 0) : (zv w < 0) ↔ w.neg = true := by unfold zv; cases w.neg <;> simp <;> omega
theorem zv_zero {w : Wh} : zv w = 0 ↔ nv w.mag = 0 := by unfold zv; cases w.neg <;> simp
theorem dmZ_neg {a b : Wh} (hb : nv b.mag ≠ 0) (hr : nv a.mag % nv b.mag ≠ 0) (hs : a.neg ≠ b.neg) : dmZ (zv a) (zv b) = ((if (!(a.neg == b.neg)) = true then -((nv a.mag / nv b.mag : Nat) : Int) else ((nv a.mag / nv b.mag : Nat) : Int)) - 1, (if a.neg = true then -((nv a.mag % nv b.mag : Nat) : Int) else ((nv a.mag % nv b.mag : Nat) : Int)) + zv b) := by
  have ha : nv a.mag ≠ 0 := fun h => hr (by rw [h]; simp)
  have h1 := zv_neg ha
  have h2 := zv_neg hb
  unfold dmZ
  rw [zv_abs, zv_abs, if_neg (by rw [eq_iff_iff, h1, h2]; cases ea : a.neg <;> cases eb : b.neg <;> simp [ea, eb] at hs ⊢), if_neg hr]
  have e1 : (!(a.neg == b.neg)) = true := by cases ea : a.neg <;> cases eb : b.neg <;> simp [ea, eb] at hs ⊢
  rw [if_pos e1]
  by_cases h : a.neg = true
  · rw [if_pos (h1.2 h), if_pos h]
  · rw [if_neg (fun hh => h (h1.1 hh)), if_neg h]
theorem dmZ_same {a b : Wh} (hb : nv b.mag ≠ 0) (hr : a.neg = b.neg ∨ nv a.mag % nv b.mag = 0) : dmZ (zv a) (zv b) = (if (!(a.neg == b.neg)) = true then -((nv a.mag / nv b.mag : Nat) : Int) else ((nv a.mag / nv b.mag : Nat) : Int), if a.neg = true then -((nv a.mag % nv b.mag : Nat) : Int) else ((nv a.mag % nv b.mag : Nat) : Int)) := by
  have h2 := zv_neg hb
  unfold dmZ
  rw [zv_abs, zv_abs]
  by_cases ha : nv a.mag = 0
  · have h0 : zv a = 0 := zv_zero.2 ha
    rw [h0, ha]
    simp
  · have h1 := zv_neg ha
    by_cases hs : a.neg = b.neg
    · rw [if_pos (by rw [eq_iff_iff, h1, h2, hs])]
      have e1 : (!(a.neg == b.neg)) = false := by rw [hs]; simp
      rw [e1]
      by_cases h : a.neg = true
      · rw [if_pos (h1.2 h), if_pos h]; simp
      · rw [if_neg (fun hh => h (h1.1 hh)), if_neg h]; simp
    · have h3 := hr.resolve_left hs
      rw [if_neg (by rw [eq_iff_iff, h1, h2]; cases ea : a.neg <;> cases eb : b.neg <;> simp [ea, eb] at hs ⊢), if_pos h3, h3]
      have e1 : (!(a.neg == b.neg)) = true := by cases ea : a.neg <;> cases eb : b.neg <;> simp [ea, eb] at hs ⊢
      rw [if_pos e1]
      cases a.neg <;> simp
theorem wz_len_le {n : Nat} {z : Int} (h : z.natAbs < B ^ n) : (wz z).mag.length ≤ n := lb_len.2 h
def lenZ (z : Int) : Nat := (lb z.natAbs).length
/-- A power by squares; an error. -/
def powR : Nat → Nat → Int → Int → Int × Int
  | 0, _, out, _ => (out, 0)
  | k + 1, n, out, base => if n = 0 then (out, 0) else if 32 < lenZ base then (0, 7) else
    if 32 < lenZ (if n % 2 = 1 then out * base else out) then (0, 7) else
    if n / 2 = 0 then (if n % 2 = 1 then out * base else out, 0) else powR k (n / 2) (if n % 2 = 1 then out * base else out) (base * base)
def powD (r : Int × Int) : List D := [dW (wz r.1), .int r.2]
theorem lenZ_mul (x y : Int) : lenZ (x * y) ≤ lenZ x + lenZ y := by
  unfold lenZ
  refine lb_len.2 ?_
  rw [Int.natAbs_mul, Nat.pow_add]
  exact Nat.mul_lt_mul'' (lb_len.1 (Nat.le_refl _)) (lb_len.1 (Nat.le_refl _))
theorem and_one (n : Nat) (h : n ≤ 9223372036854775807) : bits_ .and .i64 (n : Int) 1 = ((n % 2 : Nat) : Int) := by
  have b : IntKind.bits .i64 = 64 := rfl
  have h1 : n % 2 < 2 := Nat.mod_lt _ (by decide)
  have e : (BitVec.ofInt 64 (n : Int) &&& BitVec.ofInt 64 1).toNat = n % 2 := by
    rw [BitVec.ofInt_natCast, show BitVec.ofInt 64 1 = BitVec.ofNat 64 1 from rfl, BitVec.toNat_and, BitVec.toNat_ofNat, BitVec.toNat_ofNat, Nat.mod_eq_of_lt (show n < 2 ^ 64 by omega)]
    exact Nat.and_one_is_mod n
  show IntKind.wrap .i64 ((BitVec.ofInt 64 (n : Int) &&& BitVec.ofInt 64 1).toNat : Int) = _
  rw [e]
  exact wrap64 (x := ((n % 2 : Nat) : Int)) (by omega) (by omega)
theorem fdiv_two (n : Nat) : Int.fdiv (n : Int) (2 ^ (min (Int.toNat 1) (IntKind.bits .i64))) = ((n / 2 : Nat) : Int) := by
  rw [show (2 : Int) ^ (min (Int.toNat 1) (IntKind.bits .i64)) = 2 by decide, Int.fdiv_eq_ediv_of_nonneg _ (by omega)]; omega
def powZ (x n : Int) : Int × Int := if n < 0 then (0, 3) else powR 20 n.toNat 1 x
end Go.Proofs.YtbgcadcpeabpgaaGreat
set_option maxRecDepth 100000
namespace Go.Proofs.YtbgcadcpeabpgaaGreat

theorem inr (z : Int) (h1 : -100000 ≤ z := by decide) (h2 : z ≤ 100000 := by decide) : inR z := by unfold inR; omega
theorem lenZ_le {z : Int} {k : Nat} (h : z.natAbs < B ^ k) : lenZ z ≤ k := lb_len.2 h
theorem lenZ_lt (z : Int) : z.natAbs < B ^ lenZ z := lb_len.1 (Nat.le_refl _)
theorem lenZ_add (x y : Int) : lenZ (x + y) ≤ max (lenZ x) (lenZ y) + 1 := by
  refine lenZ_le ?_
  have h1 : x.natAbs < B ^ max (lenZ x) (lenZ y) := Nat.lt_of_lt_of_le (lenZ_lt x) (Nat.pow_le_pow_right B_pos (Nat.le_max_left _ _))
  have h2 : y.natAbs < B ^ max (lenZ x) (lenZ y) := Nat.lt_of_lt_of_le (lenZ_lt y) (Nat.pow_le_pow_right B_pos (Nat.le_max_right _ _))
  have h3 := Int.natAbs_add_le x y
  rw [Nat.pow_succ]
  generalize B ^ max (lenZ x) (lenZ y) = q at *
  rw [B_eq]; omega
theorem lenZ_neg (x : Int) : lenZ (-x) = lenZ x := by unfold lenZ; rw [Int.natAbs_neg]
theorem lenZ_zv (w : Wh) : lenZ (zv w) ≤ w.mag.length := wz_len w
theorem wzl (z : Int) : (wz z).mag.length = lenZ z := rfl
theorem powR_len : ∀ (k n : Nat) (out base : Int), lenZ out ≤ 100 → lenZ (powR k n out base).1 ≤ 100
  | 0, _, out, base, h => h
  | k + 1, n, out, base, h => by
    have z0 : lenZ 0 ≤ 100 := by unfold lenZ; rw [show Int.natAbs 0 = 0 from rfl, lb_zero]; simp
    rw [powR]
    generalize (if n % 2 = 1 then out * base else out) = o
    split
    · exact h
    split
    · exact z0
    split
    · exact z0
    rename_i h3
    split
    · show lenZ o ≤ 100; omega
    · exact powR_len k _ o _ (by omega)
theorem dmZ_spec (x y : Int) (hy : y ≠ 0) : (dmZ x y).1 * y + (dmZ x y).2 = x ∧ (dmZ x y).1.natAbs ≤ x.natAbs + 1 ∧ (dmZ x y).2.natAbs < y.natAbs ∧ (0 < y → 0 ≤ (dmZ x y).2) ∧ (y < 0 → (dmZ x y).2 ≤ 0) := by
  have hdm := Nat.div_add_mod x.natAbs y.natAbs
  have hml := Nat.mod_lt x.natAbs (show 0 < y.natAbs by omega)
  have hdl := Nat.div_le_self x.natAbs y.natAbs
  unfold dmZ
  generalize x.natAbs / y.natAbs = q at *
  generalize x.natAbs % y.natAbs = r at *
  generalize hX : x.natAbs = X at *
  generalize hY : y.natAbs = Y at *
  have hdm' : (Y : Int) * (q : Int) + (r : Int) = (X : Int) := by rw [← hdm]; simp
  by_cases hx0 : x < 0 <;> by_cases hy0 : y < 0
  · obtain rfl : x = -(X : Int) := by omega
    obtain rfl : y = -(Y : Int) := by omega
    simp only [hx0, hy0, if_true]
    refine ⟨by rw [Int.mul_neg, Int.mul_comm]; omega, by omega, by omega, fun h => by first | omega | exact False.elim h, fun h => by first | omega | exact False.elim h⟩
  · obtain rfl : x = -(X : Int) := by omega
    obtain rfl : y = (Y : Int) := by omega
    simp only [hx0, hy0, if_true]
    rw [if_neg (by simp)]
    split
    · rename_i h0
      subst h0
      refine ⟨by rw [Int.neg_mul, Int.mul_comm]; omega, by omega, by omega, fun h => by first | omega | exact False.elim h, fun h => by first | omega | exact False.elim h⟩
    · refine ⟨by rw [Int.sub_mul, Int.neg_mul, Int.mul_comm (q : Int)]; omega, by omega, by omega, fun h => by first | omega | exact False.elim h, fun h => by first | omega | exact False.elim h⟩
  · obtain rfl : x = (X : Int) := by omega
    obtain rfl : y = -(Y : Int) := by omega
    simp only [hx0, hy0, if_false]
    rw [if_neg (by simp)]
    split
    · rename_i h0
      subst h0
      refine ⟨by rw [Int.neg_mul_neg, Int.mul_comm]; omega, by omega, by omega, fun h => by first | omega | exact False.elim h, fun h => by first | omega | exact False.elim h⟩
    · refine ⟨by rw [Int.sub_mul, Int.neg_mul_neg, Int.mul_comm (q : Int)]; omega, by omega, by omega, fun h => by first | omega | exact False.elim h, fun h => by first | omega | exact False.elim h⟩
  · obtain rfl : x = (X : Int) := by omega
    obtain rfl : y = (Y : Int) := by omega
    simp only [hx0, hy0, if_false, if_true]
    refine ⟨by rw [Int.mul_comm]; omega, by omega, by omega, fun h => by first | omega | exact False.elim h, fun h => by first | omega | exact False.elim h⟩
theorem lenZ_dm (x y : Int) (hy : y ≠ 0) : lenZ (dmZ x y).1 ≤ lenZ x + 1 ∧ lenZ (dmZ x y).2 ≤ lenZ y := by
  obtain ⟨_, h1, h2, _⟩ := dmZ_spec x y hy
  have a := lenZ_lt x
  have b := lenZ_lt y
  refine ⟨lenZ_le ?_, lenZ_le (Nat.lt_trans h2 b)⟩
  rw [Nat.pow_succ]
  have := Bp (lenZ x)
  have hB := B_eq
  generalize B ^ lenZ x = P at *
  rw [hB]; omega
end Go.Proofs.YtbgcadcpeabpgaaGreat
set_option maxRecDepth 100000
namespace Go.Proofs.YtbgcadcpeabpgaaGreat

end Go.Proofs.YtbgcadcpeabpgaaGreat
set_option maxRecDepth 100000
namespace Go.Proofs.YtbgcadcpeabpgaaGreat
open Go.RowKit

end Go.Proofs.YtbgcadcpeabpgaaGreat
set_option maxRecDepth 100000
namespace Go.Proofs.YtbgcadcpeabpgaaGreat
open Go.RowKit

section
variable {P : Program} {md : Nat → FMode}
/-- A result, as data. -/
def ResV (P : Program) (md : Nat → FMode) (w : World) (M : Nat → Prop) (t : Nat) (y : D) (u : Value) : Prop := ∃ look β, VL P md w (Mof M look β) look β (ofD P t y) u
theorem ResV.int {w : World} {M : Nat → Prop} {t : Nat} {k : IntKind} {n : Int} {u : Value} (h : ResV P md w M t (.int n) u) (ht : P.underlying t = some (.int k)) : u = .int k n ∧ k.min ≤ n ∧ n ≤ k.max := by
  obtain ⟨look, β, h⟩ := h
  unfold ofD at h
  rw [ht] at h
  exact vl_i h
theorem ResV.bool {w : World} {M : Nat → Prop} {t : Nat} {b : Bool} {u : Value} (h : ResV P md w M t (.bool b) u) (ht : P.underlying t = some .bool) : u = .bool b := by
  obtain ⟨look, β, h⟩ := h
  unfold ofD at h
  rw [ht] at h
  exact vl_b h
theorem ResV.rd {w : World} {M : Nat → Prop} {t : Nat} {y : D} {u : Value} (h : ResV P md w M t y u) (ht : ofD P t y = .d t y) : Rd P md w M (.ty t) y u := by
  obtain ⟨look, β, h⟩ := h
  rw [ht] at h
  obtain ⟨h1, h2⟩ := vl_ne h (by simp) (by simp) (by simp)
  cases h1 with
  | d h1 => exact ⟨h1.mono (Nat.le_refl _) (fun _ _ _ => rfl) (fun b hb _ => .inl hb), h2.size, h2.agg⟩
theorem rd_weak {w w' : World} {M M' : Nat → Prop} {t : CT} {x : D} {v : Value} (h : Rd P md w M t x v) (hx : Ext w w') (hM : ∀ b, M' b → b < w.heap.size → M b) : Rd P md w' M' t x v :=
  ⟨h.rd.mono hx.size (fun b _ hb => hx.block b hb) hM, h.size, h.agg⟩
/-- ████ A call of a function that lends nothing, and tells no row of its own. -/
theorem sp_calls {F : Nat} {fn : Func} {xs ys : List D} {vs : List Value} {W : World} {M : Nat → Prop} (hs : Spec P md F [] xs ys) (hfn : P.funcs[F]? = some fn) (hm : md F = {}) (hM : ∀ b, M b → b < W.heap.size)
    (hlx : xs.length = fn.params.size) (hlv : vs.length = fn.params.size) (hrd : ∀ (i t : Nat) (x : D) (v : Value), fn.params.toList[i]? = some t → xs[i]? = some x → vs[i]? = some v → Rd P md W M (.ty t) x v) :
    Calls P F vs.toArray W (fun e w' => ∃ us, e = .returned (retV us) ∧ us.length = fn.resultTypes.size ∧ (∀ (i t : Nat) (u : Value), fn.resultTypes.toList[i]? = some t → us[i]? = some u → ResV P md w' M t (ys.getD i .nil) u) ∧ Ext W w') := by
  obtain ⟨fn', h1, _, _, h⟩ := hs
  rw [hfn] at h1
  injection h1 with h1
  subst h1
  have nol : ∀ b, ¬ lentN (md F) vs b := fun b ⟨p, v, h1, _⟩ => by rw [hm] at h1; cases h1
  refine (h W M vs 0 1 (fun k hk => by rw [hm] at hk; cases hk) ⟨by simp [hlx], by simp [hlv], fun b hb => ⟨hM b hb, nol b⟩, ?_, fun p hp => by rw [hm] at hp; cases hp⟩).mono ?_
  · intro i ct x v hc hx hv _
    simp only [List.append_nil, List.getElem?_map, Option.map_eq_some_iff] at hc
    obtain ⟨t, ht, rfl⟩ := hc
    have := hrd i t x v ht hx hv
    exact ⟨this.rd.mono (Nat.le_refl _) (fun _ _ _ => rfl) (fun b hb _ => hb.elim id (fun h => (nol b h).elim)), this.size, this.agg⟩
  · rintro e w' ⟨us, β', hp⟩
    refine ⟨us, hp.ending, by simpa using hp.len, fun i t u ht hu => ?_, ?_⟩
    · have := hp.vl (resL P fn.resultTypes.toList ys 0) (by rw [hm]; rfl) i _ u (resL_at ht) hu
      rw [Nat.zero_add] at this
      exact ⟨_, _, this⟩
    · exact Stp.ext (hp.stp.weak fun b hb => (nol b hb).elim)
theorem one_of {us : List Value} {n : Nat} (h : us.length = n) (hn : n = 1) : ∃ u, us = [u] := by
  subst hn
  match us, h with
  | [u], _ => exact ⟨u, rfl⟩
theorem sp_int {F : Nat} {fn : Func} {xs : List D} {n : Int} {vs : List Value} {W : World} {M : Nat → Prop} {t : Nat} {k : IntKind} (hs : Spec P md F [] xs [.int n]) (hfn : P.funcs[F]? = some fn) (hm : md F = {}) (hM : ∀ b, M b → b < W.heap.size)
    (hlx : xs.length = fn.params.size) (hlv : vs.length = fn.params.size) (hrd : ∀ (i t : Nat) (x : D) (v : Value), fn.params.toList[i]? = some t → xs[i]? = some x → vs[i]? = some v → Rd P md W M (.ty t) x v)
    (hrt : fn.resultTypes = #[t]) (ht : P.underlying t = some (.int k)) : Calls P F vs.toArray W (fun e w' => e = .returned (.int k n) ∧ (k.min ≤ n ∧ n ≤ k.max) ∧ Ext W w') := by
  refine (sp_calls hs hfn hm hM hlx hlv hrd).mono ?_
  rintro e w' ⟨us, rfl, hl, hh, hx⟩
  obtain ⟨u, rfl⟩ := one_of hl (by rw [hrt]; rfl)
  obtain ⟨rfl, h2⟩ := (hh 0 t u (by rw [hrt]; rfl) rfl).int ht
  exact ⟨rfl, h2, hx⟩
theorem sp_sl {F : Nat} {fn : Func} {xs : List D} {y : D} {vs : List Value} {W : World} {M : Nat → Prop} {t : Nat} (hs : Spec P md F [] xs [y]) (hfn : P.funcs[F]? = some fn) (hm : md F = {}) (hM : ∀ b, M b → b < W.heap.size)
    (hlx : xs.length = fn.params.size) (hlv : vs.length = fn.params.size) (hrd : ∀ (i t : Nat) (x : D) (v : Value), fn.params.toList[i]? = some t → xs[i]? = some x → vs[i]? = some v → Rd P md W M (.ty t) x v)
    (hrt : fn.resultTypes = #[t]) (ht : ofD P t y = .d t y) : Calls P F vs.toArray W (fun e w' => ∃ u, e = .returned u ∧ Rd P md w' M (.ty t) y u ∧ Ext W w') := by
  refine (sp_calls hs hfn hm hM hlx hlv hrd).mono ?_
  rintro e w' ⟨us, rfl, hl, hh, hx⟩
  obtain ⟨u, rfl⟩ := one_of hl (by rw [hrt]; rfl)
  exact ⟨u, rfl, (hh 0 t u (by rw [hrt]; rfl) rfl).rd ht, hx⟩
/-- ████ A call of a function that tells one row of its own, not empty. -/
theorem own_calls {F : Nat} {fn : Func} {xs es : List D} {vs : List Value} {W : World} {M : Nat → Prop} {t e : Nat} (hs : Spec P md F [] xs [.sl es]) (hfn : P.funcs[F]? = some fn) (hm : md F = { own := [(0, [])] }) (hM : ∀ b, M b → b < W.heap.size)
    (hlx : xs.length = fn.params.size) (hlv : vs.length = fn.params.size) (hrd : ∀ (i t : Nat) (x : D) (v : Value), fn.params.toList[i]? = some t → xs[i]? = some x → vs[i]? = some v → Rd P md W M (.ty t) x v)
    (hrt : fn.resultTypes = #[t]) (ht : tElem P t = some e) (h1 : one P t = true) (hne : es ≠ []) :
    Calls P F vs.toArray W (fun en w' => ∃ G cap cur, en = .returned (.slice (some ⟨G, 0, none⟩) es.length cap) ∧ W.heap.size ≤ G ∧ G < w'.heap.size ∧ w'.heap[G]? = some (.cells cur e (0, 0)) ∧ es.length ≤ cap ∧ cap ≤ maxLen ∧ cur.size = cap * P.cellsOf e ∧
      (∀ (i : Nat) (x : D), es[i]? = some x → ∃ M', RdC P md w' M' (.ty e) x (fun j => cur[i * P.cellsOf e + j]?)) ∧ Ext W w') := by
  obtain ⟨fn', g1, _, _, h⟩ := hs
  rw [hfn] at g1
  injection g1 with g1
  subst g1
  have nol : ∀ b, ¬ lentN (md F) vs b := fun b ⟨p, v, h1, _⟩ => by rw [hm] at h1; cases h1
  refine (h W M vs 0 1 (fun k hk => by rw [hm] at hk; simp at hk; omega) ⟨by simp [hlx], by simp [hlv], fun b hb => ⟨hM b hb, nol b⟩, ?_, fun p hp => by rw [hm] at hp; cases hp⟩).mono ?_
  · intro i ct x v hc hx hv _
    simp only [List.append_nil, List.getElem?_map, Option.map_eq_some_iff] at hc
    obtain ⟨t, ht, rfl⟩ := hc
    have := hrd i t x v ht hx hv
    exact ⟨this.rd.mono (Nat.le_refl _) (fun _ _ _ => rfl) (fun b hb _ => hb.elim id (fun h => (nol b h).elim)), this.size, this.agg⟩
  · rintro en w' ⟨us, β', hp⟩
    have hl := hp.len
    rw [hrt] at hl
    obtain ⟨u, rfl⟩ := one_of hl rfl
    have hot : ownT P [t] (0, []) = some e := by simp [ownT, typeAt, h1, ht]
    have hlook : postLook P (md F) fn.params.toList fn.resultTypes.toList [.sl es] 0 1 0 = some (.row e es true) := by
      rw [hm, hrt]
      simp [postLook, backEff, ownEff, effF, updN, hot, D.path, D.els, List.getD]
    have hv := hp.vl [.row 0] (by rw [hm, hrt]; simp [resL, setOwn, setL]) 0 (.row 0) u rfl rfl
    have hu := vl_row hv hlook
    have hb := hp.blks 0 _ hlook
    have ho := fun B => hp.own 0 _ B hlook
    obtain ⟨A, cap, hA, hb⟩ := hb
    rcases hb with ⟨hn, _⟩ | ⟨B, cur, rfl, hc0, hB, hlen, hcap, hsz, hpos, hrd'⟩
    · exact absurd hn hne
    · have hob := ho B (by rw [hA]; simp [ownB]; omega)
      have hG := hob.1.resolve_right (nol B)
      refine ⟨B, cap, cur, ?_, hG, hob.2, hB, hlen, hcap, hsz, fun i x hx => ⟨_, hrd' i x hx⟩, Stp.ext (hp.stp.weak fun b hb => (nol b hb).elim)⟩
      rw [hp.ending, hu, hA]; rfl
theorem rd_all1 {w : World} {M : Nat → Prop} {ps : List Nat} {t : Nat} {x : D} {v : Value} (hp : ps = [t]) (h : Rd P md w M (.ty t) x v) : ∀ (i t' : Nat) (x' : D) (v' : Value), ps[i]? = some t' → [x][i]? = some x' → [v][i]? = some v' → Rd P md w M (.ty t') x' v' := by
  intro i t' x' v' h1 h2 h3
  subst hp
  match i with
  | 0 => cases h1; cases h2; cases h3; exact h
  | i + 1 => simp at h1
theorem rd_all2 {w : World} {M : Nat → Prop} {ps : List Nat} {t u : Nat} {x y : D} {v z : Value} (hp : ps = [t, u]) (h : Rd P md w M (.ty t) x v) (h' : Rd P md w M (.ty u) y z) : ∀ (i t' : Nat) (x' : D) (v' : Value), ps[i]? = some t' → [x, y][i]? = some x' → [v, z][i]? = some v' → Rd P md w M (.ty t') x' v' := by
  intro i t' x' v' h1 h2 h3
  subst hp
  match i with
  | 0 => cases h1; cases h2; cases h3; exact h
  | 1 => cases h1; cases h2; cases h3; exact h'
  | i + 2 => simp at h1
theorem rd_num_ {w : World} {M : Nat → Prop} {t : Nat} {k : IntKind} {n : Int} (ht : P.underlying t = some (.int k)) (hs : P.cellsOf t = 1) (ha : isAggT P t = false) (h1 : k.min ≤ n) (h2 : n ≤ k.max) : Rd P md w M (.ty t) (.int n) (.int k n) :=
  ⟨.int ht h1 h2 rfl, hs.symm, ha.symm⟩
/-- ████ What is said of a function, by a walk of it. -/
theorem spec_of (hP : WfP P) {F : Nat} {fn : Func} {cts : List CT} {xs ys : List D} (hfn : P.funcs[F]? = some fn) (hb : fn.body.isSome = true) (hn : (fn.name == "runtime.NumGoroutine") = false) (hm : md F = {})
    (h : ∀ (w : World) (M : Nat → Prop) (vs : List Value), (∀ b, M b → b < w.heap.size) → xs.length = fn.params.size + cts.length → vs.length = fn.params.size + cts.length → (∀ (i : Nat) (t : CT) (x : D) (v : Value), (fn.params.toList.map CT.ty ++ cts)[i]? = some t → xs[i]? = some x → vs[i]? = some v → Rd P md w M t x v) →
      Calls P F vs.toArray w (fun e w' => ∃ us, e = .returned (retV us) ∧ us.length = fn.resultTypes.size ∧ (∀ (i t : Nat) (u : Value), fn.resultTypes.toList[i]? = some t → us[i]? = some u → Rd P md w' M (.ty t) (ys.getD i .nil) u) ∧ Ext w w')) : Spec P md F cts xs ys := by
  refine ⟨fn, hfn, hb, hn, fun w M vs d bid _ hp => ?_⟩
  have nol : ∀ b, ¬ lentN (md F) vs b := fun b ⟨p, v, h1, _⟩ => by rw [hm] at h1; cases h1
  have hlook : postLook P (md F) fn.params.toList fn.resultTypes.toList ys d bid = fun _ => none := by rw [hm]; rfl
  refine (h w M vs (fun b hb => (hp.m b hb).1) (by simpa using hp.lenx) (by simpa using hp.lenv) (fun i t x v h1 h2 h3 => ?_)).mono ?_
  · have := hp.rd i t x v h1 h2 h3 (by rw [hm]; simp)
    exact ⟨this.rd.mono (Nat.le_refl _) (fun _ _ _ => rfl) (fun b hb _ => .inl hb), this.size, this.agg⟩
  · rintro e w' ⟨us, rfl, hl, hh, hx⟩
    refine ⟨us, fun _ => undef, rfl, by simpa using hl, (Stp.of_ext hx).weak (fun _ h => h), ?_, ?_, ?_, ?_, ?_⟩
    · intro ls hls i l u hi hu
      rw [hm] at hls
      simp only [setOwn, Option.some.injEq] at hls
      subst hls
      obtain ⟨t, ht⟩ : ∃ t, fn.resultTypes.toList[i]? = some t := by
        have := (List.getElem?_eq_some_iff.1 hi).1
        rw [resL_len] at this
        exact ⟨_, List.getElem?_eq_getElem this⟩
      have hr := hh i t u ht hu
      rw [resL_at ht, Nat.zero_add] at hi
      injection hi with hi
      subst hi
      have hr' : Rd P md w' (Mof M (postLook P (md F) fn.params.toList fn.resultTypes.toList ys d bid) (fun _ => undef)) (.ty t) (ys.getD i .nil) u := by
        refine rd_weak hr (Ext.refl _) (fun b hb _ => ?_)
        rcases hb with hb | ⟨r, k, hk, _⟩
        · exact hb
        · rw [hlook] at hk; cases hk
      exact (rd_vl' hP hr').1
    · intro r b hb; rw [hlook] at hb; cases hb
    · intro r b B hb; rw [hlook] at hb; cases hb
    · intro r q b c B hb; rw [hlook] at hb; cases hb
    · intro hb; rw [hm] at hb; cases hb
end
end Go.Proofs.YtbgcadcpeabpgaaGreat
set_option maxRecDepth 100000
namespace Go.Proofs.YtbgcadcpeabpgaaGreat
open Go.RowKit

end Go.Proofs.YtbgcadcpeabpgaaGreat
set_option maxRecDepth 100000
namespace Go.Proofs.YtbgcadcpeabpgaaGreat
open Go.RowKit

end Go.Proofs.YtbgcadcpeabpgaaGreat
set_option maxRecDepth 100000
namespace Go.Proofs.YtbgcadcpeabpgaaGreat

/-- A ratio as it stands. -/
def frac (z : Int) (d : Nat) : Num := ⟨decide (z < 0), lb z.natAbs, lb d⟩
theorem numT_frac (z : Int) (d : Nat) : numT (frac z d) = z := zv_wz z
theorem numB_frac (z : Int) (d : Nat) : numB (frac z d) = (d : Int) := by simp [numB, frac, nv_lb]
theorem lbn_one : lb 1 = [1] := by rw [lb_pos (by decide), show 1 / B = 0 from rfl, lb_zero]; rfl
theorem frac_one (z : Int) : frac z 1 = ofZ z := by unfold frac ofZ; rw [lbn_one]
theorem mkR_cases (p q : Int) (hq : q ≠ 0) : ∃ (z : Int) (d : Nat), d ≠ 0 ∧ Nat.Coprime z.natAbs d ∧ z * q = p * (d : Int) ∧ z.natAbs ≤ p.natAbs ∧ d ≤ q.natAbs ∧ mkR p q = if 32 < lenZ z ∨ 32 < (lb d).length then (.zero, 7) else (frac z d, 0) := by
  have hg : 0 < Nat.gcd p.natAbs q.natAbs := Nat.gcd_pos_of_pos_right _ (by omega)
  obtain ⟨a, ha⟩ := Nat.gcd_dvd_left p.natAbs q.natAbs
  obtain ⟨b, hb⟩ := Nat.gcd_dvd_right p.natAbs q.natAbs
  have hda : p.natAbs / Nat.gcd p.natAbs q.natAbs = a := by
    conv => lhs; lhs; rw [ha]
    exact Nat.mul_div_cancel_left _ hg
  have hdb : q.natAbs / Nat.gcd p.natAbs q.natAbs = b := by
    conv => lhs; lhs; rw [hb]
    exact Nat.mul_div_cancel_left _ hg
  have hcop : Nat.Coprime a b := by
    have := Nat.coprime_div_gcd_div_gcd hg
    rwa [hda, hdb] at this
  have hb0 : b ≠ 0 := fun h => by rw [h, Nat.mul_zero] at hb; omega
  have ha0 : a = 0 ↔ p = 0 := by
    constructor
    · intro h; rw [h, Nat.mul_zero] at ha; omega
    · intro h
      rw [h] at ha
      simp only [Int.natAbs_zero] at ha
      rcases Nat.mul_eq_zero.1 ha.symm with h1 | h1
      · rw [h] at hg; simp only [Int.natAbs_zero] at hg; omega
      · exact h1
  have hal : a ≤ p.natAbs := by rw [ha]; exact Nat.le_mul_of_pos_left _ hg
  have hbl : b ≤ q.natAbs := by rw [hb]; exact Nat.le_mul_of_pos_left _ hg
  have hab : a * q.natAbs = p.natAbs * b := by
    conv => lhs; rw [hb]
    conv => rhs; rw [ha]
    rw [Nat.mul_left_comm, Nat.mul_assoc]
  unfold mkR
  rw [if_neg hq, hda, hdb]
  generalize Nat.gcd p.natAbs q.natAbs = g at *
  clear hda hdb ha hb hg
  have habz : (a : Int) * (q.natAbs : Int) = (p.natAbs : Int) * (b : Int) := by rw [← Int.natCast_mul, hab, Int.natCast_mul]
  by_cases hs : decide (p < 0) = decide (q < 0)
  · refine ⟨(a : Int), b, hb0, by simpa using hcop, ?_, by simpa using hal, hbl, ?_⟩
    · rw [decide_eq_decide] at hs
      by_cases hp : p < 0
      · have e1 : (p.natAbs : Int) = -p := by omega
        have e2 : (q.natAbs : Int) = -q := by omega
        rw [e1, e2] at habz
        grind
      · have e1 : (p.natAbs : Int) = p := by omega
        have e2 : (q.natAbs : Int) = q := by omega
        rw [e1, e2] at habz
        exact habz
    · unfold frac lenZ
      rw [hs, beq_self_eq_true, Bool.not_true, Bool.and_false]
      simp only [Int.natAbs_natCast]
      rw [decide_eq_false (p := ((a : Int) < 0)) (by omega)]
  · have hp : (decide (p < 0) == decide (q < 0)) = false := by simpa using hs
    refine ⟨-(a : Int), b, hb0, by simpa using hcop, ?_, by simpa using hal, hbl, ?_⟩
    · rw [decide_eq_decide] at hs
      by_cases hp : p < 0
      · have e1 : (p.natAbs : Int) = -p := by omega
        have e2 : (q.natAbs : Int) = q := by omega
        rw [e1, e2] at habz
        grind
      · have e1 : (p.natAbs : Int) = p := by omega
        have e2 : (q.natAbs : Int) = -q := by omega
        rw [e1, e2] at habz
        grind
    · unfold frac lenZ
      rw [hp, Bool.not_false, Bool.and_true]
      simp only [Int.natAbs_neg, Int.natAbs_natCast]
      have : decide (0 < (lb a).length) = decide (-(a : Int) < 0) := by
        rw [decide_eq_decide]
        have := lb_len0 (n := a)
        omega
      rw [this]
theorem cop_unique {z z' : Int} {d d' : Nat} (h : d ≠ 0) (h' : d' ≠ 0) (c : Nat.Coprime z.natAbs d) (c' : Nat.Coprime z'.natAbs d') (e : z * (d' : Int) = z' * (d : Int)) : z = z' ∧ d = d' := by
  have en : z.natAbs * d' = z'.natAbs * d := by
    have := congrArg Int.natAbs e
    simpa [Int.natAbs_mul] using this
  have h1 : d ∣ d' := (Nat.Coprime.dvd_of_dvd_mul_left c.symm (by rw [en]; exact Nat.dvd_mul_left _ _))
  have h2 : d' ∣ d := (Nat.Coprime.dvd_of_dvd_mul_left c'.symm (by rw [← en]; exact Nat.dvd_mul_left _ _))
  have hd := Nat.dvd_antisymm h1 h2
  subst hd
  exact ⟨Int.eq_of_mul_eq_mul_right (by omega) e, rfl⟩
/-- The same ratio: the same in lowest terms. -/
theorem mkR_unique {p q p' q' : Int} (hq : q ≠ 0) (hq' : q' ≠ 0) (e : p * q' = p' * q) : mkR p q = mkR p' q' := by
  obtain ⟨z, d, h1, h2, h3, _, _, h4⟩ := mkR_cases p q hq
  obtain ⟨z', d', h1', h2', h3', _, _, h4'⟩ := mkR_cases p' q' hq'
  obtain ⟨rfl, rfl⟩ := cop_unique h1 h1' h2 h2' (by
    have : (z * (d' : Int)) * (q * q') = (z' * (d : Int)) * (q * q') := by grind
    exact Int.eq_of_mul_eq_mul_right (Int.mul_ne_zero hq hq') this)
  rw [h4, h4']
/-- A right number: so many of such parts. -/
structure RNum (n : Num) (z : Int) (d : Nat) : Prop where
  eq : n = frac z d
  d0 : d ≠ 0
  cop : Nat.Coprime z.natAbs d
  lz : lenZ z ≤ 32
  ld : (lb d).length ≤ 32
theorem mkR_self {z : Int} {d : Nat} (h0 : d ≠ 0) (hc : Nat.Coprime z.natAbs d) (h1 : lenZ z ≤ 32) (h2 : (lb d).length ≤ 32) : mkR z (d : Int) = (frac z d, 0) := by
  obtain ⟨z', d', h1', h2', h3', _, _, h4'⟩ := mkR_cases z (d : Int) (by omega)
  obtain ⟨rfl, rfl⟩ := cop_unique h0 h1' hc h2' h3'.symm
  rw [h4', if_neg (by omega)]
theorem RNum.self {n : Num} {z : Int} {d : Nat} (h : RNum n z d) : mkR z (d : Int) = (n, 0) := by rw [mkR_self h.d0 h.cop h.lz h.ld, h.eq]
theorem RNum.top {n : Num} {z : Int} {d : Nat} (h : RNum n z d) : numT n = z := by rw [h.eq, numT_frac]
theorem RNum.bot {n : Num} {z : Int} {d : Nat} (h : RNum n z d) : numB n = (d : Int) := by rw [h.eq, numB_frac]
theorem RNum.right {n : Num} {z : Int} {d : Nat} (h : RNum n z d) : rightN n = true := by
  unfold rightN
  rw [h.top, h.bot, h.self]
  have h1 := h.lz
  have h2 := h.ld
  rw [h.eq]
  exact decide_eq_true ⟨h1, h2, rfl⟩
theorem rn_of {n : Num} (h : rightN n = true) : ∃ z d, RNum n z d := by
  unfold rightN at h
  obtain ⟨h1, h2, h3⟩ := of_decide_eq_true h
  by_cases hq : numB n = 0
  · rw [hq] at h3
    have := congrArg Prod.snd h3
    simp [mkR] at this
  · obtain ⟨z, d, g1, g2, _, _, _, g4⟩ := mkR_cases (numT n) (numB n) hq
    rw [h3] at g4
    split at g4
    · cases g4
    · injection g4 with g4
      exact ⟨z, d, g4, g1, g2, by omega, by omega⟩
theorem RNum.len {n : Num} {z : Int} {d : Nat} (h : RNum n z d) : n.top.length ≤ 32 ∧ n.bot.length ≤ 32 := by rw [h.eq]; exact ⟨h.lz, h.ld⟩
/-- What is told, if it is no error, is right. -/
theorem mkR_ok {p q : Int} (hq : q ≠ 0) : ((mkR p q).2 = 0 → ∃ z d, RNum (mkR p q).1 z d ∧ z * q = p * (d : Int) ∧ z.natAbs ≤ p.natAbs ∧ d ≤ q.natAbs) ∧ ((mkR p q).2 = 0 ∨ (mkR p q) = (.zero, 7)) ∧ (lenZ p ≤ 32 → lenZ q ≤ 32 → (mkR p q).2 = 0) := by
  obtain ⟨z, d, g1, g2, g3, g5, g6, g4⟩ := mkR_cases p q hq
  rw [g4]
  have mono : ∀ {a b k : Nat}, a ≤ b → (lb b).length ≤ k → (lb a).length ≤ k := fun hab hk => lb_len.2 (Nat.lt_of_le_of_lt hab (lb_len.1 hk))
  refine ⟨fun h => ?_, ?_, fun h1 h2 => ?_⟩
  · split at h
    · cases h
    · rename_i hh
      rw [if_neg hh]
      exact ⟨z, d, ⟨rfl, g1, g2, by omega, by omega⟩, g3, g5, g6⟩
  · split
    · exact .inr rfl
    · exact .inl rfl
  · rw [if_neg]
    have a1 := mono g5 h1
    have a2 := mono g6 h2
    unfold lenZ; omega
def retR (r : Num × Int) : List D := [dN r.1, .int r.2]
theorem numT_len (n : Num) : lenZ (numT n) ≤ n.top.length := wz_len ⟨n.neg, n.top⟩
theorem numB_len (n : Num) : lenZ (numB n) ≤ n.bot.length := wz_len ⟨false, n.bot⟩
theorem zv_bot (n : Num) : zv ⟨false, n.bot⟩ = numB n := rfl
theorem zv_top (n : Num) : zv ⟨n.neg, n.top⟩ = numT n := rfl
def addR (a b : Num) : Num × Int := mkR (numT a * numB b + numT b * numB a) (numB a * numB b)
def mulR (a b : Num) : Num × Int := mkR (numT a * numT b) (numB a * numB b)
def divR (a b : Num) : Num × Int := mkR (numT a * numB b) (numB a * numT b)
def cmpR (a b : Num) : Int := cmpZ (numT a * numB b) (numT b * numB a)
def negN (a : Num) : Num := if a.top = [] then ofZ 0 else ⟨!a.neg, a.top, a.bot⟩
def subR (a b : Num) : Num × Int := addR a (negN b)
def flrN (a : Num) : Num := ofZ (dmZ (numT a) (numB a)).1
def bindR (r : Num × Int) (f : Num → Num × Int) : Num × Int := if r.2 = 0 then f r.1 else (.zero, r.2)
def modR (a b : Num) : Num × Int := if a.top = [] then (b, 0) else bindR (divR b a) fun q => bindR (mulR a (flrN q)) fun p => subR b p
def powD2 (p q : Int × Int) : Num × Int := if p.2 = 0 then (if q.2 = 0 then mkR p.1 q.1 else (.zero, q.2)) else (.zero, p.2)
def powRt (a : Num) (n : Int) : Num × Int :=
  if n < 0 then (if a.top = [] ∨ n < -9223372036854775807 then (.zero, 3) else powD2 (powZ (numB a) (-n)) (powZ (numT a) (-n))) else powD2 (powZ (numT a) n) (powZ (numB a) n)
def gcdR (a b : Num) : Num × Int := if a.bot = [1] ∧ b.bot = [1] then (ofZ (Nat.gcd (nv a.top) (nv b.top) : Nat), 0) else (.zero, 3)
def lcmR (a b : Num) : Num × Int := bindR (gcdR a b) fun g => if g.top = [] then (g, 0) else bindR (divR a g) fun p => mulR p b

theorem negN_rn {n : Num} {z : Int} {d : Nat} (h : RNum n z d) : RNum (negN n) (-z) d := by
  have h0 : n.top = [] ↔ z = 0 := by rw [h.eq]; show lb z.natAbs = [] ↔ _; rw [lb_eq_nil]; omega
  refine ⟨?_, h.d0, by rw [Int.natAbs_neg]; exact h.cop, by rw [lenZ_neg]; exact h.lz, h.ld⟩
  unfold negN
  split
  · rename_i h1
    have hz := h0.1 h1
    have hd : d = 1 := by
      have := h.cop
      rw [hz, Int.natAbs_zero, Nat.coprime_zero_left] at this
      exact this
    rw [hz, hd, Int.neg_zero, frac_one]
  · rename_i h1
    have hz : z ≠ 0 := fun hh => h1 (h0.2 hh)
    rw [h.eq]
    unfold frac
    simp only [Int.natAbs_neg]
    rw [show decide (-z < 0) = !decide (z < 0) by rw [not_dec, decide_eq_decide]; omega]
theorem ratio_bot_sp (n : Num) : Sp 143 [dN n] [dW ⟨false, n.bot⟩] := sound_ 0 (ratio_bot_tree _ _) (wp_ret rfl)
theorem zv_sgn {w : Wh} (h : nv w.mag ≠ 0) : decide (zv w < 0) = w.neg := by
  rw [show w.neg = decide (w.neg = true) by simp, decide_eq_decide]; exact zv_neg h
end Go.Proofs.YtbgcadcpeabpgaaGreat
set_option maxRecDepth 100000
namespace Go.Proofs.YtbgcadcpeabpgaaGreat

/-- Not too many limbs. -/
def SmN (n : Num) : Prop := n.top.length ≤ 200 ∧ n.bot.length ≤ 200
theorem RNum.sm {n : Num} {z : Int} {d : Nat} (h : RNum n z d) : SmN n := by have := h.len; unfold SmN; omega
theorem mkR_sm (p q : Int) : SmN (mkR p q).1 := by
  by_cases hq : q = 0
  · unfold mkR; rw [if_pos hq]; exact ⟨by simp [Num.zero], by simp [Num.zero]⟩
  · rcases (mkR_ok (p := p) hq).2.1 with h | h
    · obtain ⟨z, d, h1, _⟩ := (mkR_ok hq).1 h; exact h1.sm
    · rw [h]; exact ⟨by simp [Num.zero], by simp [Num.zero]⟩
section
variable {a b : Num}
theorem sgnZ_sub (x y : Int) : sgnZ (x - y) = cmpZ x y := by
  unfold sgnZ cmpZ
  by_cases h1 : x < y
  · rw [if_pos (by omega), if_pos h1]
  · rw [if_neg (by omega), if_neg h1]
    by_cases h2 : x = y
    · rw [if_pos (by omega), if_pos h2]
    · rw [if_neg (by omega), if_neg h2]
theorem ref04_Cmp_sp (ha : SmN a) (hb : SmN b) : Sp 74 [dN a, dN b] [.int (cmpR a b)] := by
  obtain ⟨a1, a2⟩ := ha
  obtain ⟨b1, b2⟩ := hb
  have at_ := numT_len a; have ab := numB_len a; have bt := numT_len b; have bb := numB_len b
  have m1 := lenZ_mul (numT a) (numB b)
  have m2 := lenZ_mul (numT b) (numB a)
  have s1 := lenZ_add (numT a * numB b) (-(numT b * numB a))
  rw [lenZ_neg, ← Int.sub_eq_add_neg] at s1
  have x1 := ref03_Mul_sp (wz (numT a)) (wz (numB b)) (by rw [wzl]; omega) (by rw [wzl]; omega)
  have x2 := ref03_Mul_sp (wz (numT b)) (wz (numB a)) (by rw [wzl]; omega) (by rw [wzl]; omega)
  have x4 := ref03_Sub_sp (wz (numT a * numB b)) (wz (numT b * numB a)) (by rw [wzl]; omega) (by rw [wzl]; omega)
  have x5 := ref03_Sign_sp (wz (numT a * numB b - numT b * numB a)) (by rw [wzl]; omega)
  rw [zv_wz, zv_wz] at x1 x2 x4
  rw [zv_wz, sgnZ_sub] at x5
  exact sound_ 0 (ref04_Cmp_tree _ _ _) (wp_call (ref04_Top_sp a (by omega)) (wp_call (ref04_Bot_sp b (by omega)) (wp_call x1 (wp_call (ref04_Top_sp b (by omega)) (wp_call (ref04_Bot_sp a (by omega)) (wp_call x2 (wp_call x4 (wp_call x5 (wp_ret rfl)))))))))
theorem numB_one (h : a.bot = [1]) : numB a = 1 := by unfold numB; rw [h]; simp [nv]
theorem ratio_Cmp_sp (ha : SmN a) (hb : SmN b) : Sp 112 [dN a, dN b] [.int (cmpR a b)] := by
  obtain ⟨a1, a2⟩ := ha
  obtain ⟨b1, b2⟩ := hb
  have at_ := numT_len a; have ab := numB_len a; have bt := numT_len b; have bb := numB_len b
  have m1 := lenZ_mul (numT a) (numB b)
  have m2 := lenZ_mul (numT b) (numB a)
  have x1 := whole_Mul_sp ⟨a.neg, a.top⟩ ⟨false, b.bot⟩ (by show a.top.length ≤ _; omega) (by show b.bot.length ≤ _; omega)
  have x2 := whole_Mul_sp ⟨b.neg, b.top⟩ ⟨false, a.bot⟩ (by show b.top.length ≤ _; omega) (by show a.bot.length ≤ _; omega)
  have x4 := whole_Cmp_sp (wz (numT a * numB b)) (wz (numT b * numB a)) (by rw [wzl]; omega) (by rw [wzl]; omega)
  have x5 := whole_Cmp_sp ⟨a.neg, a.top⟩ ⟨b.neg, b.top⟩ (by show a.top.length ≤ _; omega) (by show b.top.length ≤ _; omega)
  rw [zv_top, zv_bot] at x1 x2
  rw [zv_wz, zv_wz] at x4
  rw [zv_top, zv_top] at x5
  refine sound_ 0 (ratio_Cmp_tree _ _ _) (wp_call (ratio_isOne_sp a.bot) ?_)
  simp only [getD_c0, toBool_bool]
  refine wp_decs (fun h => wp_call (ratio_isOne_sp b.bot) ?_) (fun h => wp_call (ratio_top_sp a) (wp_call (ratio_bot_sp b) (wp_call x1 (wp_call (ratio_top_sp b) (wp_call (ratio_bot_sp a) (wp_call x2 (wp_call x4 (wp_ret rfl))))))))
  simp only [getD_c0, toBool_bool]
  refine wp_decs (fun h' => ?_) (fun h' => wp_call (ratio_top_sp a) (wp_call (ratio_bot_sp b) (wp_call x1 (wp_call (ratio_top_sp b) (wp_call (ratio_bot_sp a) (wp_call x2 (wp_call x4 (wp_ret rfl))))))))
  refine wp_call (ratio_top_sp a) (wp_call (ratio_top_sp b) (wp_call x5 (wp_ret ?_)))
  unfold cmpR
  rw [numB_one h, numB_one h', Int.mul_one, Int.mul_one]; rfl
end
section
variable {a b : Num} {z y : Int} {d e : Nat}
/-- A right number with a sign. -/
def signN (neg : Bool) (n : Num) : Num := ⟨neg && decide (0 < n.top.length), n.top, n.bot⟩
theorem RNum.top0 (h : RNum a z d) : a.top = [] ↔ z = 0 := by rw [h.eq]; show lb z.natAbs = [] ↔ _; rw [lb_eq_nil]; omega
theorem RNum.sgn (h : RNum a z d) : a.neg = decide (z < 0) := by rw [h.eq]; rfl
theorem sign_neg (h : RNum a z d) : signN (!a.neg) a = negN a := by
  unfold signN negN
  split
  · rename_i h0
    rw [h0]
    have hz := h.top0.1 h0
    have hd : d = 1 := by
      have := h.cop
      rw [hz, Int.natAbs_zero, Nat.coprime_zero_left] at this
      exact this
    have hb : a.bot = [1] := by rw [h.eq, hd]; exact lbn_one
    rw [hb]; simp [ofZ, lb_zero]
  · rename_i h0
    rw [decide_eq_true (List.length_pos_iff.2 h0), Bool.and_true]
theorem sign_same (h : RNum a z d) : signN a.neg a = a := by
  unfold signN
  have : (a.neg && decide (0 < a.top.length)) = a.neg := by
    by_cases h0 : a.top = []
    · have := h.top0.1 h0
      rw [h.sgn, this]; simp
    · rw [decide_eq_true (List.length_pos_iff.2 h0), Bool.and_true]
  rw [this]
theorem flr_len (h : RNum a z d) : lenZ (dmZ z (d : Int)).1 ≤ 32 := by
  have hd0 := h.d0
  obtain ⟨e1, _, e3, e4, _⟩ := dmZ_spec z (d : Int) (by omega)
  have hl := h.lz
  have hz := lenZ_lt z
  have hz2 : z.natAbs < B ^ 32 := Nat.lt_of_lt_of_le hz (Nat.pow_le_pow_right B_pos hl)
  have e5 := e4 (by omega)
  refine lenZ_le ?_
  generalize (dmZ z (d : Int)).1 = q at *
  generalize (dmZ z (d : Int)).2 = r at *
  have hB2 : 4 ≤ B ^ 32 := by decide
  generalize B ^ 32 = P at *
  have hr : r < (d : Int) := by omega
  rcases Nat.lt_or_ge 1 d with h1 | h1
  · -- |q| < P
    rcases Nat.lt_or_ge q.natAbs P with h2 | h2
    · exact h2
    · exfalso
      rcases Int.le_total 0 q with h3 | h3
      · have : q * 2 ≤ q * (d : Int) := Int.mul_le_mul_of_nonneg_left (by omega) h3
        omega
      · have : (-q) * 2 ≤ (-q) * (d : Int) := Int.mul_le_mul_of_nonneg_left (by omega) (by omega)
        have h4 : (-q) * (d : Int) = -(q * (d : Int)) := Int.neg_mul _ _
        have h5 : (-q - 1) * 2 ≤ (-q - 1) * (d : Int) := Int.mul_le_mul_of_nonneg_left (by omega) (by omega)
        have h6 : (-q - 1) * (d : Int) = -(q * (d : Int)) - (d : Int) := by rw [Int.sub_mul, Int.neg_mul, Int.one_mul]
        omega
  · obtain rfl : d = 1 := by omega
    have : q * ((1 : Nat) : Int) = q := by simp
    omega
theorem flr_rn (h : RNum a z d) : RNum (flrN a) (dmZ z (d : Int)).1 1 := by
  have hf : flrN a = ofZ (dmZ z (d : Int)).1 := by unfold flrN; rw [h.top, h.bot]
  exact ⟨by rw [hf, frac_one], by decide, Nat.coprime_one_right _, flr_len h, by rw [lbn_one]; decide⟩
theorem flr_whole (h : RNum a z d) : wholeN (dmZ (numT a) (numB a)).1 = flrN a := by
  unfold wholeN flrN
  have := flr_len h
  rw [h.top, h.bot, if_neg (by unfold lenZ at this; omega)]
theorem dm1_len (h : RNum a z d) : lenZ (dmZ (numT a) (numB a)).1 ≤ 32 := by rw [h.top, h.bot]; exact flr_len h
theorem RNum.botnz (h : RNum a z d) : numB a ≠ 0 := by rw [h.bot]; have := h.d0; omega
theorem divR_ok (ha : RNum a z d) (hb : RNum b y e) (hy : y ≠ 0) (h : (divR a b).2 = 0) : ∃ x c, RNum (divR a b).1 x c := by
  have hq : numB a * numT b ≠ 0 := Int.mul_ne_zero ha.botnz (by rw [hb.top]; exact hy)
  obtain ⟨x, c, h1, _⟩ := (mkR_ok hq).1 h
  exact ⟨x, c, h1⟩
theorem mulR_ok (ha : RNum a z d) (hb : RNum b y e) (h : (mulR a b).2 = 0) : ∃ x c, RNum (mulR a b).1 x c := by
  have hq : numB a * numB b ≠ 0 := Int.mul_ne_zero ha.botnz hb.botnz
  obtain ⟨x, c, h1, _⟩ := (mkR_ok hq).1 h
  exact ⟨x, c, h1⟩
theorem addR_ok (ha : RNum a z d) (hb : RNum b y e) (h : (addR a b).2 = 0) : ∃ x c, RNum (addR a b).1 x c := by
  have hq : numB a * numB b ≠ 0 := Int.mul_ne_zero ha.botnz hb.botnz
  obtain ⟨x, c, h1, _⟩ := (mkR_ok hq).1 h
  exact ⟨x, c, h1⟩
theorem sgnZ_zero {x : Int} : sgnZ x = 0 ↔ x = 0 := by unfold sgnZ; by_cases h1 : x < 0 <;> by_cases h2 : x = 0 <;> simp [h1, h2]
end
end Go.Proofs.YtbgcadcpeabpgaaGreat
set_option maxRecDepth 100000
namespace Go.Proofs.YtbgcadcpeabpgaaGreat
/-! scrim/grade.Grade -/
def grade_Grade_orc : List (Nat × Orc) := [(6, ⟨[(2, none), (3, none), (4, none), (5, none), (6, none), (22, none), (23, none)], [(2, true), (3, false), (4, false), (5, false)], [(.slot 6, 1060, 3)]⟩), (13, ⟨[(2, none), (4, none), (5, none), (8, none), (37, none), (38, none), (39, none)], [(2, true), (4, false), (5, false)], [(.slot 8, 1130, 68), (.slot 37, 1131, 3)]⟩)]
def grade_Grade_ps : List Nat := [26, 4]
def grade_Grade_rs : List ResultVar := [.cell 4 26, .cell 5 29]
def grade_Grade_ts : List Nat := [26, 29]
noncomputable def grade_Grade_l13 (n m13 : Nat) (told8 : List D) (t37 : List D) (t38 : Int) (t39 : Int) (a2 : D) (r4_0 : Int) (e5 : Int) : Tree :=
  evLoop Tryz.prog md (ev Tryz.prog md n grade_Grade_orc (cAt (bodyOf Tryz.prog 33) [1, 1, 1, 1, 1, 1, 1, 0, 1, 0, 0])) (orcAt grade_Grade_orc 13) m13 ⟨[.undef, .undef, .ptr 2 [], .undef, .ptr 4 [], .ptr 5 [], .undef, .undef, .row 1130, .undef, .undef, .undef, .undef, .undef, .undef, .undef, .undef, .undef, .undef, .undef, .undef, .undef, .undef, .undef, .undef, .undef, .undef, .undef, .undef, .undef, .undef, .undef, .undef, .undef, .undef, .undef, .undef, .row 1131, .i .i64 t38, .i .i64 t39, .undef, .undef, .undef, .undef, .undef, .undef, .undef, .undef, .undef, .undef, .undef, .undef, .undef, .undef, .undef, .undef], [(2, .var 26 (.d 26 a2) false), (4, .var 26 (.agg 26 [.i .u64 r4_0, .mt, .mt]) true), (5, .var 29 (.i .i64 e5) true), (1130, .row 68 told8 true), (1131, .row 3 t37 true)], [2, 4, 5, 1130, 1131], [(68, [.ptr 4 [], .ptr 5 []])], []⟩
   (blockK 2 (seqK (joinE Tryz.prog md (joinAt grade_Grade_orc (cAt (bodyOf Tryz.prog 33) [1, 1, 1, 1, 1, 1, 1, 1])) (ev Tryz.prog md n grade_Grade_orc (cAt (bodyOf Tryz.prog 33) [1, 1, 1, 1, 1, 1, 1, 1]))) (retK Tryz.prog md (md 33) grade_Grade_ps grade_Grade_rs grade_Grade_ts)))
noncomputable def grade_Grade_l6 (n m6 : Nat) (places6 : List D) (t22 : Int) (t23 : Int) (a2 : D) (down3 : Bool) (r4_0 : Int) (e5 : Int) : Tree :=
  evLoop Tryz.prog md (ev Tryz.prog md n grade_Grade_orc (cAt (bodyOf Tryz.prog 33) [1, 1, 1, 1, 0, 1, 0, 0])) (orcAt grade_Grade_orc 6) m6 ⟨[.undef, .undef, .ptr 2 [], .ptr 3 [], .ptr 4 [], .ptr 5 [], .row 1060, .undef, .undef, .undef, .undef, .undef, .undef, .undef, .undef, .undef, .undef, .undef, .undef, .undef, .undef, .undef, .i .i64 t22, .i .i64 t23, .undef, .undef, .undef, .undef, .undef, .undef, .undef, .undef, .undef, .undef, .undef, .undef, .undef, .undef, .undef, .undef, .undef, .undef, .undef, .undef, .undef, .undef, .undef, .undef, .undef, .undef, .undef, .undef, .undef, .undef, .undef, .undef], [(2, .var 26 (.d 26 a2) true), (3, .var 4 (.b down3) true), (4, .var 26 (.agg 26 [.i .u64 r4_0, .mt, .mt]) true), (5, .var 29 (.i .i64 e5) true), (1060, .row 3 places6 true)], [2, 3, 4, 5, 1060], [(68, [.ptr 4 [], .ptr 5 []])], []⟩
   (blockK 0 (seqK (joinE Tryz.prog md (joinAt grade_Grade_orc (cAt (bodyOf Tryz.prog 33) [1, 1, 1, 1, 1])) (ev Tryz.prog md n grade_Grade_orc (cAt (bodyOf Tryz.prog 33) [1, 1, 1, 1, 1]))) (retK Tryz.prog md (md 33) grade_Grade_ps grade_Grade_rs grade_Grade_ts)))
theorem grade_Grade_l13_succ (n m13 : Nat) (told8 : List D) (t37 : List D) (t38 : Int) (t39 : Int) (a2 : D) (r4_0 : Int) (e5 : Int) : grade_Grade_l13 n (m13 + 1) told8 t37 t38 t39 a2 r4_0 e5 =
 .br (decide (t39 < t38)) (.br (decide (0 ≤ t39)) (.br (decide (t39 < (t37.length : Int))) (.call 64 [] [D.int (IntKind.wrap .i64 (((t37.getD (Int.toNat t39) D.nil).toInt) + 1))] fun yy2 =>
 .br (decide (0 ≤ t39)) (.br (decide (t39 < (told8.length : Int))) (grade_Grade_l13 n m13 (told8.set (Int.toNat t39) (yy2.getD 0 D.nil)) t37 t38 (IntKind.wrap .i64 (t39 + 1)) a2 r4_0 e5) .fail) .fail) .fail) .fail)
 (.call 66 [] [D.sl told8] fun yy3 =>
 .call 61 [] [a2] fun yy4 =>
 .call 65 [] [yy3.getD 0 D.nil, D.int ((yy4.getD 0 D.nil).toInt)] fun yy5 =>
 .ret [yy5.getD 0 D.nil, D.int 0]) := by kernel_rfl
theorem grade_Grade_l6_succ (n m6 : Nat) (places6 : List D) (t22 : Int) (t23 : Int) (a2 : D) (down3 : Bool) (r4_0 : Int) (e5 : Int) : grade_Grade_l6 n (m6 + 1) places6 t22 t23 a2 down3 r4_0 e5 =
 .br (decide (t23 < t22)) (.br (decide (0 ≤ t23)) (.br (decide (t23 < (places6.length : Int))) (grade_Grade_l6 n m6 (places6.set (Int.toNat t23) (D.int t23)) t22 (IntKind.wrap .i64 (t23 + 1)) a2 down3 r4_0 e5) .fail) .fail)
 (.call 69 [] [D.sl places6, D.fn 70 [.ref 4, .ref 26] [D.ref (D.bool down3), D.ref a2]] fun yy1 =>
 .br (decide (0 ≤ (((yy1.getD 0 D.nil).els).length : Int))) (.br (decide ((((yy1.getD 0 D.nil).els).length : Int) ≤ (((yy1.getD 0 D.nil).els).length : Int))) (.br (decide ((((yy1.getD 0 D.nil).els).length : Int) ≤ bigN)) (grade_Grade_l13 n n (List.replicate (Int.toNat (((yy1.getD 0 D.nil).els).length : Int)) (D.agg [D.int 0, D.int 0, D.agg [D.bool false, D.sl [], D.sl []], D.int 0, D.sl []])) ((yy1.getD 0 D.nil).els) (((yy1.getD 0 D.nil).els).length : Int) 0 a2 r4_0 e5) .fail) .fail) .fail) := by kernel_rfl
theorem grade_Grade_tree (n : Nat) (a0 : D) (down1 : D) : evFun Tryz.prog md grade_Grade_orc n 33 [] [a0, down1] =
 .br ((((a0.fld 1).els).length : Int) != 1) (.ret [D.agg [D.int 0, D.sl [], D.sl []], D.int 5])
 (.br (decide (0 ≤ (((a0.fld 2).els).length : Int))) (.br (decide ((((a0.fld 2).els).length : Int) ≤ (((a0.fld 2).els).length : Int))) (.br (decide ((((a0.fld 2).els).length : Int) ≤ bigN)) (grade_Grade_l6 n n (List.replicate (Int.toNat (((a0.fld 2).els).length : Int)) (D.int 0)) ((List.replicate (Int.toNat (((a0.fld 2).els).length : Int)) (D.int 0)).length : Int) 0 a0 down1.toBool 0 0) .fail) .fail) .fail) := by kernel_rfl

/-! scrim/grade.Grade$2 -/
def grade_Grade_2_orc : List (Nat × Orc) := []
theorem grade_Grade_2_tree (n : Nat) (i0 : D) (j1 : D) (c2 : D) (c3 : D) : evFun Tryz.prog md grade_Grade_2_orc n 70 [.ref 4, .ref 26] [i0, j1, c2, c3] =
 .br c2.unref.toBool (.br (decide (0 ≤ j1.toInt)) (.br (decide (j1.toInt < (((c3.unref.fld 2).els).length : Int))) (.br (decide (0 ≤ i0.toInt)) (.br (decide (i0.toInt < (((c3.unref.fld 2).els).length : Int))) (.call 71 [] [((c3.unref.fld 2).els).getD (Int.toNat j1.toInt) D.nil, ((c3.unref.fld 2).els).getD (Int.toNat i0.toInt) D.nil] fun yy1 =>
 .ret [D.int ((yy1.getD 0 D.nil).toInt)]) .fail) .fail) .fail) .fail)
 (.br (decide (0 ≤ i0.toInt)) (.br (decide (i0.toInt < (((c3.unref.fld 2).els).length : Int))) (.br (decide (0 ≤ j1.toInt)) (.br (decide (j1.toInt < (((c3.unref.fld 2).els).length : Int))) (.call 71 [] [((c3.unref.fld 2).els).getD (Int.toNat i0.toInt) D.nil, ((c3.unref.fld 2).els).getD (Int.toNat j1.toInt) D.nil] fun yy2 =>
 .ret [D.int ((yy2.getD 0 D.nil).toInt)]) .fail) .fail) .fail) .fail) := by kernel_rfl

/-! scrim/grade.cells -/
def grade_cells_orc : List (Nat × Orc) := []
theorem grade_cells_tree (n : Nat) (x0 : D) (y1 : D) : evFun Tryz.prog md grade_cells_orc n 71 [] [x0, y1] =
 .br (((x0.fld 1).toInt) != ((y1.fld 1).toInt)) (.call 111 [] [D.int ((x0.fld 1).toInt), D.int ((y1.fld 1).toInt)] fun yy1 =>
 .ret [D.int ((yy1.getD 0 D.nil).toInt)])
 (.br (((x0.fld 1).toInt) == 0) (.call 112 [] [x0.fld 2, y1.fld 2] fun yy2 =>
 .ret [D.int ((yy2.getD 0 D.nil).toInt)])
 (.br (((x0.fld 1).toInt) == 1) (.call 111 [] [D.int ((x0.fld 3).toInt), D.int ((y1.fld 3).toInt)] fun yy3 =>
 .ret [D.int ((yy3.getD 0 D.nil).toInt)])
 (.br (decide (0 ≤ 0)) (.br (decide (0 < (((x0.fld 4).els).length : Int))) (.br (decide (0 ≤ 0)) (.br (decide (0 < (((y1.fld 4).els).length : Int))) (.call 113 [] [((x0.fld 4).els).getD (Int.toNat 0) D.nil, ((y1.fld 4).els).getD (Int.toNat 0) D.nil] fun yy4 =>
 .ret [D.int ((yy4.getD 0 D.nil).toInt)]) .fail) .fail) .fail) .fail))) := by kernel_rfl

/-! scrim/grade.arrays -/
def grade_arrays_orc : List (Nat × Orc) := [(8, ⟨[(2, none), (3, none), (29, none), (30, none)], [(2, true), (3, true)], []⟩)]
def grade_arrays_ps : List Nat := [26, 26]
def grade_arrays_rs : List ResultVar := [.tmp 4]
def grade_arrays_ts : List Nat := [3]
noncomputable def grade_arrays_l8 (n m8 : Nat) (t29 : Int) (t30 : Int) (a2 : D) (b3 : D) : Tree :=
  evLoop Tryz.prog md (ev Tryz.prog md n grade_arrays_orc (cAt (bodyOf Tryz.prog 113) [1, 1, 1, 0, 1, 0, 0])) (orcAt grade_arrays_orc 8) m8 ⟨[.undef, .undef, .ptr 2 [], .ptr 3 [], .undef, .undef, .undef, .undef, .undef, .undef, .undef, .undef, .undef, .undef, .undef, .undef, .undef, .undef, .undef, .undef, .undef, .undef, .undef, .undef, .undef, .undef, .undef, .undef, .undef, .i .i64 t29, .i .i64 t30, .undef, .undef, .undef, .undef, .undef, .undef, .undef, .undef, .undef, .undef, .undef, .undef, .undef, .undef, .undef, .undef, .undef], [(2, .var 26 (.d 26 a2) true), (3, .var 26 (.d 26 b3) true)], [2, 3], [], []⟩
   (blockK 0 (seqK (joinE Tryz.prog md (joinAt grade_arrays_orc (cAt (bodyOf Tryz.prog 113) [1, 1, 1, 1])) (ev Tryz.prog md n grade_arrays_orc (cAt (bodyOf Tryz.prog 113) [1, 1, 1, 1]))) (retK Tryz.prog md (md 113) grade_arrays_ps grade_arrays_rs grade_arrays_ts)))
theorem grade_arrays_l8_succ (n m8 : Nat) (t29 : Int) (t30 : Int) (a2 : D) (b3 : D) : grade_arrays_l8 n (m8 + 1) t29 t30 a2 b3 =
 .br (decide (t30 < t29)) (.br (decide (0 ≤ t30)) (.br (decide (t30 < (((a2.fld 2).els).length : Int))) (.br (decide (0 ≤ t30)) (.br (decide (t30 < (((b3.fld 2).els).length : Int))) (.call 71 [] [((a2.fld 2).els).getD (Int.toNat t30) D.nil, ((b3.fld 2).els).getD (Int.toNat t30) D.nil] fun yy3 =>
 .br (((yy3.getD 0 D.nil).toInt) != 0) (.ret [D.int ((yy3.getD 0 D.nil).toInt)])
 (grade_arrays_l8 n m8 t29 (IntKind.wrap .i64 (t30 + 1)) a2 b3)) .fail) .fail) .fail) .fail)
 (.ret [D.int 0]) := by kernel_rfl
theorem grade_arrays_tree (n : Nat) (a0 : D) (b1 : D) : evFun Tryz.prog md grade_arrays_orc n 113 [] [a0, b1] =
 .call 111 [] [D.int (((a0.fld 1).els).length : Int), D.int (((b1.fld 1).els).length : Int)] fun yy1 =>
 .br (((yy1.getD 0 D.nil).toInt) != 0) (.ret [D.int ((yy1.getD 0 D.nil).toInt)])
 (.call 144 [] [a0.fld 1, b1.fld 1] fun yy2 =>
 .br (((yy2.getD 0 D.nil).toInt) != 0) (.ret [D.int ((yy2.getD 0 D.nil).toInt)])
 (grade_arrays_l8 n n (((a0.fld 2).els).length : Int) 0 a0 b1)) := by kernel_rfl

end Go.Proofs.YtbgcadcpeabpgaaGreat
set_option maxRecDepth 100000
namespace Go.Proofs.YtbgcadcpeabpgaaGreat
/-! cmp.Compare[int] -/
def cmp_Compare_int_orc : List (Nat × Orc) := []
theorem cmp_Compare_int_tree (n : Nat) (x0 : D) (y1 : D) : evFun Tryz.prog md cmp_Compare_int_orc n 111 [] [x0, y1] =
 .call 140 [] [D.int x0.toInt] fun yy1 =>
 .call 140 [] [D.int y1.toInt] fun yy2 =>
 .br ((yy1.getD 0 D.nil).toBool) (.br ((yy2.getD 0 D.nil).toBool) (.ret [D.int 0])
 (.ret [D.int (-1)]))
 (.br ((yy2.getD 0 D.nil).toBool) (.ret [D.int 1])
 (.br (decide (x0.toInt < y1.toInt)) (.ret [D.int (-1)])
 (.br (decide (y1.toInt < x0.toInt)) (.ret [D.int 1])
 (.ret [D.int 0])))) := by kernel_rfl

/-! cmp.isNaN[int] -/
def cmp_isNaN_int_orc : List (Nat × Orc) := []
theorem cmp_isNaN_int_tree (n : Nat) (x0 : D) : evFun Tryz.prog md cmp_isNaN_int_orc n 140 [] [x0] =
 .ret [D.bool (x0.toInt != x0.toInt)] := by kernel_rfl

end Go.Proofs.YtbgcadcpeabpgaaGreat
set_option maxRecDepth 100000
namespace Go.Proofs.YtbgcadcpeabpgaaGreat
/-! slices.Compare[[]int,int] -/
def slices_Compare_int_int_orc : List (Nat × Orc) := [(2, ⟨[(0, some 23), (1, some 23), (9, some 23), (10, none), (11, none)], [], []⟩)]
def slices_Compare_int_int_ps : List Nat := [23, 23]
def slices_Compare_int_int_rs : List ResultVar := [.tmp 4]
def slices_Compare_int_int_ts : List Nat := [3]
noncomputable def slices_Compare_int_int_l2 (n m2 : Nat) (s10 : D) (s21 : D) (t9 : D) (t10 : Int) (t11 : Int) : Tree :=
  evLoop Tryz.prog md (ev Tryz.prog md n slices_Compare_int_int_orc (cAt (bodyOf Tryz.prog 144) [1, 0, 1, 0, 0])) (orcAt slices_Compare_int_int_orc 2) m2 ⟨[.d 23 s10, .d 23 s21, .undef, .undef, .undef, .undef, .undef, .undef, .undef, .d 23 t9, .i .i64 t10, .i .i64 t11, .undef, .undef, .undef, .undef, .undef, .undef, .undef, .undef, .undef, .undef, .undef, .undef, .undef, .undef, .undef, .undef, .undef, .undef, .undef, .undef, .undef, .undef, .undef, .undef], [], [], [], []⟩
   (blockK 0 (seqK (joinE Tryz.prog md (joinAt slices_Compare_int_int_orc (cAt (bodyOf Tryz.prog 144) [1, 1])) (ev Tryz.prog md n slices_Compare_int_int_orc (cAt (bodyOf Tryz.prog 144) [1, 1]))) (retK Tryz.prog md (md 144) slices_Compare_int_int_ps slices_Compare_int_int_rs slices_Compare_int_int_ts)))
theorem slices_Compare_int_int_l2_succ (n m2 : Nat) (s10 : D) (s21 : D) (t9 : D) (t10 : Int) (t11 : Int) : slices_Compare_int_int_l2 n (m2 + 1) s10 s21 t9 t10 t11 =
 .br (decide (t11 < t10)) (.br (decide (0 ≤ t11)) (.br (decide (t11 < (t9.els.length : Int))) (.br (decide ((s21.els.length : Int) ≤ t11)) (.ret [D.int 1])
 (.br (decide (0 ≤ t11)) (.br (decide (t11 < (s21.els.length : Int))) (.call 111 [] [D.int ((t9.els.getD (Int.toNat t11) D.nil).toInt), D.int ((s21.els.getD (Int.toNat t11) D.nil).toInt)] fun yy1 =>
 .br (((yy1.getD 0 D.nil).toInt) != 0) (.ret [D.int ((yy1.getD 0 D.nil).toInt)])
 (slices_Compare_int_int_l2 n m2 s10 s21 t9 t10 (IntKind.wrap .i64 (t11 + 1)))) .fail) .fail)) .fail) .fail)
 (.br (decide ((s10.els.length : Int) < (s21.els.length : Int))) (.ret [D.int (-1)])
 (.ret [D.int 0])) := by kernel_rfl
theorem slices_Compare_int_int_tree (n : Nat) (s10 : D) (s21 : D) : evFun Tryz.prog md slices_Compare_int_int_orc n 144 [] [s10, s21] =
 slices_Compare_int_int_l2 n n s10 s21 s10 (s10.els.length : Int) 0 := by kernel_rfl

/-! slices.rotateCmpFunc[int] -/
def slices_rotateCmpFunc_int_orc : List (Nat × Orc) := [(2, ⟨[(0, none), (2, none), (4, some 99), (10, none), (11, none)], [], [(.slot 0, 0, 3)]⟩)]
def slices_rotateCmpFunc_int_ps : List Nat := [23, 3, 3, 3, 99]
def slices_rotateCmpFunc_int_rs : List ResultVar := []
def slices_rotateCmpFunc_int_ts : List Nat := []
noncomputable def slices_rotateCmpFunc_int_l2 (n m2 : Nat) (data0 : List D) (mm2 : Int) (cmp4 : D) (i10 : Int) (j11 : Int) : Tree :=
  evLoop Tryz.prog md (ev Tryz.prog md n slices_rotateCmpFunc_int_orc (cAt (bodyOf Tryz.prog 158) [1, 1, 0, 0, 0])) (orcAt slices_rotateCmpFunc_int_orc 2) m2 ⟨[.row 0, .undef, .i .i64 mm2, .undef, .d 99 cmp4, .undef, .undef, .undef, .undef, .undef, .i .i64 i10, .i .i64 j11, .undef, .undef, .undef, .undef, .undef, .undef, .undef, .undef, .undef, .undef, .undef, .undef, .undef, .undef, .undef, .undef, .undef, .undef, .undef, .undef, .undef, .undef, .undef, .undef, .undef, .undef, .undef, .undef, .undef, .undef, .undef, .undef, .undef, .undef, .undef, .undef, .undef, .undef, .undef, .undef, .undef, .undef, .undef, .undef, .undef, .undef], [(0, .row 3 data0 true)], [0], [], [0]⟩
   (blockK 0 (seqK (joinE Tryz.prog md (joinAt slices_rotateCmpFunc_int_orc (cAt (bodyOf Tryz.prog 158) [1, 1, 1])) (ev Tryz.prog md n slices_rotateCmpFunc_int_orc (cAt (bodyOf Tryz.prog 158) [1, 1, 1]))) (retK Tryz.prog md (md 158) slices_rotateCmpFunc_int_ps slices_rotateCmpFunc_int_rs slices_rotateCmpFunc_int_ts)))
theorem slices_rotateCmpFunc_int_l2_succ_grade_Grade_2 (n m2 : Nat) (data0 : List D) (mm2 : Int) (cmp4_c0 : D) (cmp4_c1 : D) (i10 : Int) (j11 : Int) : slices_rotateCmpFunc_int_l2 n (m2 + 1) data0 mm2 (D.fn 70 [.ref 4, .ref 26] [cmp4_c0, cmp4_c1]) i10 j11 =
 .br (i10 != j11) (.br (decide (j11 < i10)) (.call 168 [] [D.sl data0, D.int (IntKind.wrap .i64 (mm2 - i10)), D.int mm2, D.int j11, (D.fn 70 [.ref 4, .ref 26] [cmp4_c0, cmp4_c1])] fun yy1 =>
 slices_rotateCmpFunc_int_l2 n m2 ((yy1.getD 0 D.nil).els) mm2 (D.fn 70 [.ref 4, .ref 26] [cmp4_c0, cmp4_c1]) (IntKind.wrap .i64 (i10 - j11)) j11)
 (.call 168 [] [D.sl data0, D.int (IntKind.wrap .i64 (mm2 - i10)), D.int (IntKind.wrap .i64 ((IntKind.wrap .i64 (mm2 + j11)) - i10)), D.int i10, (D.fn 70 [.ref 4, .ref 26] [cmp4_c0, cmp4_c1])] fun yy2 =>
 slices_rotateCmpFunc_int_l2 n m2 ((yy2.getD 0 D.nil).els) mm2 (D.fn 70 [.ref 4, .ref 26] [cmp4_c0, cmp4_c1]) i10 (IntKind.wrap .i64 (j11 - i10))))
 (.call 168 [] [D.sl data0, D.int (IntKind.wrap .i64 (mm2 - i10)), D.int mm2, D.int i10, (D.fn 70 [.ref 4, .ref 26] [cmp4_c0, cmp4_c1])] fun yy3 =>
 .ret [D.sl ((yy3.getD 0 D.nil).els)]) := by kernel_rfl
theorem slices_rotateCmpFunc_int_tree_grade_Grade_2 (n : Nat) (data0 : D) (a1 : D) (mm2 : D) (b3 : D) (cmp4_c0 : D) (cmp4_c1 : D) : evFun Tryz.prog md slices_rotateCmpFunc_int_orc n 158 [] [data0, a1, mm2, b3, (D.fn 70 [.ref 4, .ref 26] [cmp4_c0, cmp4_c1])] =
 slices_rotateCmpFunc_int_l2 n n data0.els mm2.toInt (D.fn 70 [.ref 4, .ref 26] [cmp4_c0, cmp4_c1]) (IntKind.wrap .i64 (mm2.toInt - a1.toInt)) (IntKind.wrap .i64 (b3.toInt - mm2.toInt)) := by kernel_rfl

/-! slices.swapRangeCmpFunc[int] -/
def slices_swapRangeCmpFunc_int_orc : List (Nat × Orc) := [(1, ⟨[(0, none), (1, none), (2, none), (3, none), (10, none)], [], [(.slot 0, 0, 3)]⟩)]
def slices_swapRangeCmpFunc_int_ps : List Nat := [23, 3, 3, 3, 99]
def slices_swapRangeCmpFunc_int_rs : List ResultVar := []
def slices_swapRangeCmpFunc_int_ts : List Nat := []
noncomputable def slices_swapRangeCmpFunc_int_l1 (n m1 : Nat) (data0 : List D) (a1 : Int) (b2 : Int) (nn3 : Int) (i10 : Int) : Tree :=
  evLoop Tryz.prog md (ev Tryz.prog md n slices_swapRangeCmpFunc_int_orc (cAt (bodyOf Tryz.prog 168) [1, 0, 0])) (orcAt slices_swapRangeCmpFunc_int_orc 1) m1 ⟨[.row 0, .i .i64 a1, .i .i64 b2, .i .i64 nn3, .undef, .undef, .undef, .undef, .undef, .undef, .i .i64 i10, .undef, .undef, .undef, .undef, .undef, .undef, .undef, .undef, .undef, .undef, .undef, .undef, .undef, .undef, .undef, .undef, .undef, .undef, .undef, .undef, .undef, .undef, .undef, .undef, .undef, .undef, .undef], [(0, .row 3 data0 true)], [0], [], [0]⟩
   (blockK 0 (retK Tryz.prog md (md 168) slices_swapRangeCmpFunc_int_ps slices_swapRangeCmpFunc_int_rs slices_swapRangeCmpFunc_int_ts))
theorem slices_swapRangeCmpFunc_int_l1_succ (n m1 : Nat) (data0 : List D) (a1 : Int) (b2 : Int) (nn3 : Int) (i10 : Int) : slices_swapRangeCmpFunc_int_l1 n (m1 + 1) data0 a1 b2 nn3 i10 =
 .br (decide (i10 < nn3)) (.br (decide (0 ≤ IntKind.wrap .i64 (b2 + i10))) (.br (decide (IntKind.wrap .i64 (b2 + i10) < (data0.length : Int))) (.br (decide (0 ≤ IntKind.wrap .i64 (a1 + i10))) (.br (decide (IntKind.wrap .i64 (a1 + i10) < (data0.length : Int))) (.br (decide (0 ≤ IntKind.wrap .i64 (a1 + i10))) (.br (decide (IntKind.wrap .i64 (a1 + i10) < (data0.length : Int))) (.br (decide (0 ≤ IntKind.wrap .i64 (b2 + i10))) (.br (decide (IntKind.wrap .i64 (b2 + i10) < ((data0.set (Int.toNat (IntKind.wrap .i64 (a1 + i10))) (D.int ((data0.getD (Int.toNat (IntKind.wrap .i64 (b2 + i10))) D.nil).toInt))).length : Int))) (slices_swapRangeCmpFunc_int_l1 n m1 ((data0.set (Int.toNat (IntKind.wrap .i64 (a1 + i10))) (D.int ((data0.getD (Int.toNat (IntKind.wrap .i64 (b2 + i10))) D.nil).toInt))).set (Int.toNat (IntKind.wrap .i64 (b2 + i10))) (D.int ((data0.getD (Int.toNat (IntKind.wrap .i64 (a1 + i10))) D.nil).toInt))) a1 b2 nn3 (IntKind.wrap .i64 (i10 + 1))) .fail) .fail) .fail) .fail) .fail) .fail) .fail) .fail)
 (.ret [D.sl data0]) := by kernel_rfl
theorem slices_swapRangeCmpFunc_int_tree_grade_Grade_2 (n : Nat) (data0 : D) (a1 : D) (b2 : D) (nn3 : D) (cmp4_c0 : D) (cmp4_c1 : D) : evFun Tryz.prog md slices_swapRangeCmpFunc_int_orc n 168 [] [data0, a1, b2, nn3, (D.fn 70 [.ref 4, .ref 26] [cmp4_c0, cmp4_c1])] =
 slices_swapRangeCmpFunc_int_l1 n n data0.els a1.toInt b2.toInt nn3.toInt 0 := by kernel_rfl

end Go.Proofs.YtbgcadcpeabpgaaGreat
set_option maxRecDepth 100000
namespace Go.Proofs.YtbgcadcpeabpgaaGreat
/-! scrim/scrimref17.Compare -/
def ref17_Compare_orc : List (Nat × Orc) := []
theorem ref17_Compare_tree (n : Nat) (x0 : D) (y1 : D) : evFun Tryz.prog md ref17_Compare_orc n 35 [] [x0, y1] =
 .br (((x0.fld 1).toInt) != ((y1.fld 1).toInt)) (.call 73 [] [D.int ((x0.fld 1).toInt), D.int ((y1.fld 1).toInt)] fun yy1 =>
 .ret [D.int ((yy1.getD 0 D.nil).toInt)])
 (.br (((x0.fld 1).toInt) == 0) (.call 74 [] [x0.fld 2, y1.fld 2] fun yy2 =>
 .ret [D.int ((yy2.getD 0 D.nil).toInt)])
 (.br (((x0.fld 1).toInt) == 1) (.call 73 [] [D.int ((x0.fld 3).toInt), D.int ((y1.fld 3).toInt)] fun yy3 =>
 .ret [D.int ((yy3.getD 0 D.nil).toInt)])
 (.br (decide (0 ≤ 0)) (.br (decide (0 < (((x0.fld 4).els).length : Int))) (.br (decide (0 ≤ 0)) (.br (decide (0 < (((y1.fld 4).els).length : Int))) (.call 75 [] [((x0.fld 4).els).getD (Int.toNat 0) D.nil, ((y1.fld 4).els).getD (Int.toNat 0) D.nil] fun yy4 =>
 .ret [D.int ((yy4.getD 0 D.nil).toInt)]) .fail) .fail) .fail) .fail))) := by kernel_rfl

/-! scrim/scrimref17.ints -/
def ref17_ints_orc : List (Nat × Orc) := []
theorem ref17_ints_tree (n : Nat) (a0 : D) (b1 : D) : evFun Tryz.prog md ref17_ints_orc n 73 [] [a0, b1] =
 .br (decide (a0.toInt < b1.toInt)) (.ret [D.int (-1)])
 (.br (decide (b1.toInt < a0.toInt)) (.ret [D.int 1])
 (.ret [D.int 0])) := by kernel_rfl

/-! scrim/scrimref17.Arrays -/
def ref17_Arrays_orc : List (Nat × Orc) := [(4, ⟨[(2, none), (3, none), (5, none)], [(2, true), (3, true)], []⟩), (9, ⟨[(2, none), (3, none), (6, none)], [(2, true), (3, true)], []⟩)]
def ref17_Arrays_ps : List Nat := [26, 26]
def ref17_Arrays_rs : List ResultVar := [.tmp 4]
def ref17_Arrays_ts : List Nat := [3]
noncomputable def ref17_Arrays_l9 (n m9 : Nat) (i6 : Int) (a2 : D) (b3 : D) : Tree :=
  evLoop Tryz.prog md (ev Tryz.prog md n ref17_Arrays_orc (cAt (bodyOf Tryz.prog 75) [1, 1, 1, 0, 1, 0, 0])) (orcAt ref17_Arrays_orc 9) m9 ⟨[.undef, .undef, .ptr 2 [], .ptr 3 [], .undef, .undef, .i .i64 i6, .undef, .undef, .undef, .undef, .undef, .undef, .undef, .undef, .undef, .undef, .undef, .undef, .undef, .undef, .undef, .undef, .undef, .undef, .undef, .undef, .undef, .undef, .undef, .undef, .undef, .undef, .undef, .undef, .undef, .undef, .undef, .undef, .undef, .undef, .undef, .undef, .undef, .undef, .undef, .undef, .undef, .undef, .undef, .undef, .undef, .undef, .undef, .undef, .undef, .undef, .undef, .undef, .undef, .undef, .undef, .undef, .undef, .undef, .undef, .undef, .undef, .undef, .undef, .undef, .undef], [(2, .var 26 (.d 26 a2) true), (3, .var 26 (.d 26 b3) true)], [2, 3], [], []⟩
   (blockK 2 (seqK (joinE Tryz.prog md (joinAt ref17_Arrays_orc (cAt (bodyOf Tryz.prog 75) [1, 1, 1, 1])) (ev Tryz.prog md n ref17_Arrays_orc (cAt (bodyOf Tryz.prog 75) [1, 1, 1, 1]))) (retK Tryz.prog md (md 75) ref17_Arrays_ps ref17_Arrays_rs ref17_Arrays_ts)))
noncomputable def ref17_Arrays_l4 (n m4 : Nat) (i5 : Int) (a2 : D) (b3 : D) : Tree :=
  evLoop Tryz.prog md (ev Tryz.prog md n ref17_Arrays_orc (cAt (bodyOf Tryz.prog 75) [1, 1, 0, 1, 0, 0])) (orcAt ref17_Arrays_orc 4) m4 ⟨[.undef, .undef, .ptr 2 [], .ptr 3 [], .undef, .i .i64 i5, .undef, .undef, .undef, .undef, .undef, .undef, .undef, .undef, .undef, .undef, .undef, .undef, .undef, .undef, .undef, .undef, .undef, .undef, .undef, .undef, .undef, .undef, .undef, .undef, .undef, .undef, .undef, .undef, .undef, .undef, .undef, .undef, .undef, .undef, .undef, .undef, .undef, .undef, .undef, .undef, .undef, .undef, .undef, .undef, .undef, .undef, .undef, .undef, .undef, .undef, .undef, .undef, .undef, .undef, .undef, .undef, .undef, .undef, .undef, .undef, .undef, .undef, .undef, .undef, .undef, .undef], [(2, .var 26 (.d 26 a2) true), (3, .var 26 (.d 26 b3) true)], [2, 3], [], []⟩
   (blockK 0 (seqK (joinE Tryz.prog md (joinAt ref17_Arrays_orc (cAt (bodyOf Tryz.prog 75) [1, 1, 1])) (ev Tryz.prog md n ref17_Arrays_orc (cAt (bodyOf Tryz.prog 75) [1, 1, 1]))) (retK Tryz.prog md (md 75) ref17_Arrays_ps ref17_Arrays_rs ref17_Arrays_ts)))
theorem ref17_Arrays_l9_succ (n m9 : Nat) (i6 : Int) (a2 : D) (b3 : D) : ref17_Arrays_l9 n (m9 + 1) i6 a2 b3 =
 .br (decide (i6 < (((a2.fld 2).els).length : Int))) (.br (decide (0 ≤ i6)) (.br (decide (i6 < (((a2.fld 2).els).length : Int))) (.br (decide (0 ≤ i6)) (.br (decide (i6 < (((b3.fld 2).els).length : Int))) (.call 35 [] [((a2.fld 2).els).getD (Int.toNat i6) D.nil, ((b3.fld 2).els).getD (Int.toNat i6) D.nil] fun yy3 =>
 .br (((yy3.getD 0 D.nil).toInt) != 0) (.ret [D.int ((yy3.getD 0 D.nil).toInt)])
 (ref17_Arrays_l9 n m9 (IntKind.wrap .i64 (i6 + 1)) a2 b3)) .fail) .fail) .fail) .fail)
 (.ret [D.int 0]) := by kernel_rfl
theorem ref17_Arrays_l4_succ (n m4 : Nat) (i5 : Int) (a2 : D) (b3 : D) : ref17_Arrays_l4 n (m4 + 1) i5 a2 b3 =
 .br (decide (i5 < (((a2.fld 1).els).length : Int))) (.br (decide (0 ≤ i5)) (.br (decide (i5 < (((a2.fld 1).els).length : Int))) (.br (decide (0 ≤ i5)) (.br (decide (i5 < (((b3.fld 1).els).length : Int))) (.br (((((a2.fld 1).els).getD (Int.toNat i5) D.nil).toInt) != ((((b3.fld 1).els).getD (Int.toNat i5) D.nil).toInt)) (.br (decide (0 ≤ i5)) (.br (decide (i5 < (((a2.fld 1).els).length : Int))) (.br (decide (0 ≤ i5)) (.br (decide (i5 < (((b3.fld 1).els).length : Int))) (.call 73 [] [D.int ((((a2.fld 1).els).getD (Int.toNat i5) D.nil).toInt), D.int ((((b3.fld 1).els).getD (Int.toNat i5) D.nil).toInt)] fun yy2 =>
 .ret [D.int ((yy2.getD 0 D.nil).toInt)]) .fail) .fail) .fail) .fail)
 (ref17_Arrays_l4 n m4 (IntKind.wrap .i64 (i5 + 1)) a2 b3)) .fail) .fail) .fail) .fail)
 (ref17_Arrays_l9 n n 0 a2 b3) := by kernel_rfl
theorem ref17_Arrays_tree (n : Nat) (a0 : D) (b1 : D) : evFun Tryz.prog md ref17_Arrays_orc n 75 [] [a0, b1] =
 .br ((((a0.fld 1).els).length : Int) != (((b1.fld 1).els).length : Int)) (.call 73 [] [D.int (((a0.fld 1).els).length : Int), D.int (((b1.fld 1).els).length : Int)] fun yy1 =>
 .ret [D.int ((yy1.getD 0 D.nil).toInt)])
 (ref17_Arrays_l4 n n 0 a0 b1) := by kernel_rfl

end Go.Proofs.YtbgcadcpeabpgaaGreat
set_option maxRecDepth 100000
namespace Go.Proofs.YtbgcadcpeabpgaaGreat

/-! A row: any two stand one way, turned round the other way, and it goes on. -/
structure Row {α : Type} (S : α → Prop) (f : α → α → Int) : Prop where
  val : ∀ x y, S x → S y → f x y = -1 ∨ f x y = 0 ∨ f x y = 1
  flip : ∀ x y, S x → S y → f y x = - f x y
  go : ∀ x y z, S x → S y → S z → f x y ≤ 0 → f y z ≤ 0 → f x z ≤ 0
section
variable {α : Type} {S : α → Prop} {f g : α → α → Int}
theorem Row.self (h : Row S f) {x : α} (hx : S x) : f x x = 0 := by have := h.flip x x hx hx; omega
theorem Row.two (h : Row S f) {x y z : α} (hx : S x) (hy : S y) (hz : S z) (h1 : f x y ≤ 0) (h2 : f y z ≤ 0) (h3 : f x z = 0) : f x y = 0 ∧ f y z = 0 := by
  have a1 := h.flip x z hx hz
  have a2 := h.flip x y hx hy
  have a3 := h.flip y z hy hz
  have b1 := h.go y z x hy hz hx h2 (by omega)
  have b2 := h.go z x y hz hx hy (by omega) h1
  omega
theorem Row.mono {T : α → Prop} (h : Row S f) (hs : ∀ x, T x → S x) : Row T f := ⟨fun x y hx hy => h.val x y (hs x hx) (hs y hy), fun x y hx hy => h.flip x y (hs x hx) (hs y hy), fun x y z hx hy hz => h.go x y z (hs x hx) (hs y hy) (hs z hz)⟩
theorem Row.congr (h : Row S f) (e : ∀ x y, S x → S y → g x y = f x y) : Row S g := ⟨fun x y hx hy => by rw [e x y hx hy]; exact h.val x y hx hy, fun x y hx hy => by rw [e x y hx hy, e y x hy hx]; exact h.flip x y hx hy, fun x y z hx hy hz => by rw [e x y hx hy, e y z hy hz, e x z hx hz]; exact h.go x y z hx hy hz⟩
theorem Row.lex (hf : Row S f) (hg : ∀ x, S x → Row (fun y => S y ∧ f x y = 0) g) : Row S (fun x y => if f x y ≠ 0 then f x y else g x y) where
  val x y hx hy := by
    split
    · exact hf.val x y hx hy
    · rename_i h; exact (hg x hx).val x y ⟨hx, hf.self hx⟩ ⟨hy, Classical.not_not.1 h⟩
  flip x y hx hy := by
    have a := hf.flip x y hx hy
    by_cases h : f x y = 0
    · rw [if_neg (by omega), if_neg (by omega)]
      exact (hg x hx).flip x y ⟨hx, hf.self hx⟩ ⟨hy, h⟩
    · rw [if_pos (by omega), if_pos (by omega)]; exact a
  go x y z hx hy hz h1 h2 := by
    have p1 : f x y ≤ 0 := by
      by_cases h : f x y = 0
      · omega
      · rw [if_pos h] at h1; exact h1
    have p2 : f y z ≤ 0 := by
      by_cases h : f y z = 0
      · omega
      · rw [if_pos h] at h2; exact h2
    have p3 := hf.go x y z hx hy hz p1 p2
    by_cases h : f x z = 0
    · obtain ⟨q1, q2⟩ := hf.two hx hy hz p1 p2 h
      rw [if_neg (by omega)] at h1 h2 ⊢
      exact (hg x hx).go x y z ⟨hx, hf.self hx⟩ ⟨hy, q1⟩ ⟨hz, h⟩ h1 h2
    · rw [if_pos h]; exact p3
def lexG (f : α → α → Int) : List (α × α) → Int
  | [] => 0
  | (x, y) :: r => if f x y ≠ 0 then f x y else lexG f r
theorem lexG_val (h : Row S f) : ∀ (l m : List α), (∀ x ∈ l, S x) → (∀ x ∈ m, S x) → lexG f (l.zip m) = -1 ∨ lexG f (l.zip m) = 0 ∨ lexG f (l.zip m) = 1
  | [], _, _, _ => .inr (.inl rfl)
  | _ :: _, [], _, _ => .inr (.inl rfl)
  | x :: xs, y :: ys, hl, hm => by
    simp only [List.zip_cons_cons, lexG]
    split
    · exact h.val x y (hl x (by simp)) (hm y (by simp))
    · exact lexG_val h xs ys (fun z hz => hl z (by simp [hz])) (fun z hz => hm z (by simp [hz]))
theorem lexG_flip (h : Row S f) : ∀ (l m : List α), (∀ x ∈ l, S x) → (∀ x ∈ m, S x) → lexG f (m.zip l) = - lexG f (l.zip m)
  | [], [], _, _ => rfl
  | [], _ :: _, _, _ => rfl
  | _ :: _, [], _, _ => rfl
  | x :: xs, y :: ys, hl, hm => by
    have a := h.flip x y (hl x (by simp)) (hm y (by simp))
    have b := lexG_flip h xs ys (fun z hz => hl z (by simp [hz])) (fun z hz => hm z (by simp [hz]))
    simp only [List.zip_cons_cons, lexG]
    by_cases hh : f x y = 0
    · rw [if_neg (by omega), if_neg (by omega)]; exact b
    · rw [if_pos (by omega), if_pos (by omega)]; exact a
theorem lexG_go (h : Row S f) : ∀ (l m k : List α), l.length = m.length → m.length = k.length → (∀ x ∈ l, S x) → (∀ x ∈ m, S x) → (∀ x ∈ k, S x) → lexG f (l.zip m) ≤ 0 → lexG f (m.zip k) ≤ 0 → lexG f (l.zip k) ≤ 0
  | [], _, _, _, _, _, _, _, _, _ => by simp [lexG]
  | x :: xs, [], _, e, _, _, _, _, _, _ => by simp at e
  | x :: xs, y :: ys, [], _, e, _, _, _, _, _ => by simp at e
  | x :: xs, y :: ys, z :: zs, e1, e2, hl, hm, hk, h1, h2 => by
    simp only [List.zip_cons_cons, lexG] at h1 h2 ⊢
    have hx := hl x (by simp)
    have hy := hm y (by simp)
    have hz := hk z (by simp)
    have p1 : f x y ≤ 0 := by
      by_cases h : f x y = 0
      · omega
      · rw [if_pos h] at h1; exact h1
    have p2 : f y z ≤ 0 := by
      by_cases h : f y z = 0
      · omega
      · rw [if_pos h] at h2; exact h2
    have p3 := h.go x y z hx hy hz p1 p2
    by_cases hh : f x z = 0
    · obtain ⟨q1, q2⟩ := h.two hx hy hz p1 p2 hh
      rw [if_neg (by omega)] at h1 h2 ⊢
      exact lexG_go h xs ys zs (by simpa using e1) (by simpa using e2) (fun z hz => hl z (by simp [hz])) (fun z hz => hm z (by simp [hz])) (fun z hz => hk z (by simp [hz])) h1 h2
    · rw [if_pos hh]; exact p3
theorem Row.list (h : Row S f) (n : Nat) : Row (fun l : List α => l.length = n ∧ ∀ x ∈ l, S x) (fun l m => lexG f (l.zip m)) :=
  ⟨fun l m hl hm => lexG_val h l m hl.2 hm.2, fun l m hl hm => lexG_flip h l m hl.2 hm.2, fun l m k hl hm hk => lexG_go h l m k (hl.1.trans hm.1.symm) (hm.1.trans hk.1.symm) hl.2 hm.2 hk.2⟩
theorem lexG_zero {β : Type} {r : α → β} (h0 : ∀ x y, S x → S y → (f x y = 0 ↔ r x = r y)) : ∀ (l m : List α), l.length = m.length → (∀ x ∈ l, S x) → (∀ x ∈ m, S x) → (lexG f (l.zip m) = 0 ↔ l.map r = m.map r)
  | [], [], _, _, _ => by simp [lexG]
  | [], _ :: _, e, _, _ => by simp at e
  | _ :: _, [], e, _, _ => by simp at e
  | x :: xs, y :: ys, e, hl, hm => by
    have a := h0 x y (hl x (by simp)) (hm y (by simp))
    have b := lexG_zero h0 xs ys (by simpa using e) (fun z hz => hl z (by simp [hz])) (fun z hz => hm z (by simp [hz]))
    simp only [List.zip_cons_cons, lexG, List.map_cons, List.cons.injEq]
    by_cases hh : f x y = 0
    · rw [if_neg (by omega), b]
      exact ⟨fun h => ⟨a.1 hh, h⟩, fun h => h.2⟩
    · rw [if_pos hh]
      exact ⟨fun h => absurd h hh, fun h => absurd (a.2 h.1) hh⟩
end
theorem cmpZ_cases (x y : Int) : (cmpZ x y = -1 ∧ x < y) ∨ (cmpZ x y = 0 ∧ x = y) ∨ (cmpZ x y = 1 ∧ y < x) := by
  unfold cmpZ
  split
  · exact .inl ⟨rfl, by assumption⟩
  · split
    · exact .inr (.inl ⟨rfl, by assumption⟩)
    · exact .inr (.inr ⟨rfl, by omega⟩)
theorem cmpZ_zero {x y : Int} : cmpZ x y = 0 ↔ x = y := by rcases cmpZ_cases x y with ⟨h, h'⟩ | ⟨h, h'⟩ | ⟨h, h'⟩ <;> omega
theorem row_key {α : Type} {S : α → Prop} (k : α → Int) : Row S (fun x y => cmpZ (k x) (k y)) :=
  ⟨fun x y _ _ => by rcases cmpZ_cases (k x) (k y) with h | h | h <;> simp [h.1],
   fun x y _ _ => by rcases cmpZ_cases (k x) (k y) with h | h | h <;> rcases cmpZ_cases (k y) (k x) with h' | h' | h' <;> omega,
   fun x y z _ _ _ h1 h2 => by rcases cmpZ_cases (k x) (k y) with h | h | h <;> rcases cmpZ_cases (k y) (k z) with h' | h' | h' <;> rcases cmpZ_cases (k x) (k z) with h'' | h'' | h'' <;> omega⟩

/-! Cells and arrays. -/
def cmpCf (r : Arr → Arr → Int) (x y : Cell) : Int := if cmpZ x.kind y.kind ≠ 0 then cmpZ x.kind y.kind else if x.kind = 0 then cmpR x.n y.n else if x.kind = 1 then cmpZ x.c y.c else r (x.inn.headD .none) (y.inn.headD .none)
def shR (a b : Arr) : Int := if cmpZ a.shape.length b.shape.length ≠ 0 then cmpZ a.shape.length b.shape.length else lexG cmpZ (a.shape.zip b.shape)
def cmpA : Nat → Arr → Arr → Int
  | 0, _, _ => 0
  | d + 1, a, b => if shR a b ≠ 0 then shR a b else lexG (cmpCf (cmpA d)) (a.cells.zip b.cells)
def cmpC (d : Nat) : Cell → Cell → Int := cmpCf (cmpA d)
theorem cmpA_succ (d : Nat) (a b : Arr) : cmpA (d + 1) a b = if shR a b ≠ 0 then shR a b else lexG (cmpC d) (a.cells.zip b.cells) := rfl
theorem rightC_cases {d : Nat} {c : Cell} (h : rightC d c = true) : (c.kind = 0 ∧ c.c = 0 ∧ c.inn = [] ∧ rightN c.n = true) ∨ (c.kind = 1 ∧ c.n = .zero ∧ c.inn = []) ∨ (c.kind = 2 ∧ c.n = .zero ∧ c.c = 0 ∧ ∃ e x, d = e + 1 ∧ c.inn = [x] ∧ rightA e x = true) := by
  have hinn := rightC_inn h
  have key : ∀ k r, cellR k r c = true → (c.kind = 0 ∧ c.c = 0 ∧ c.inn = [] ∧ rightN c.n = true) ∨ (c.kind = 1 ∧ c.n = .zero ∧ c.inn = []) ∨ (c.kind = 2 ∧ c.n = .zero ∧ c.c = 0 ∧ ∃ x, c.inn = [x]) := by
    intro k r h
    unfold cellR at h
    split at h
    · simp only [Bool.and_eq_true, decide_eq_true_eq] at h
      exact .inl ⟨by assumption, h.1.1, List.length_eq_zero_iff.1 h.1.2, h.2⟩
    split at h
    · simp only [Bool.and_eq_true, decide_eq_true_eq] at h
      exact .inr (.inl ⟨by assumption, h.1.1, List.length_eq_zero_iff.1 h.1.2⟩)
    · simp only [Bool.and_eq_true, decide_eq_true_eq] at h
      have hb := h.2.2
      unfold boxOK at hb
      split at hb
      · rename_i hi; exact .inr (.inr ⟨h.1.1, h.1.2.1, h.1.2.2, _, hi⟩)
      · cases hb
  have h2 : (c.kind = 0 ∧ c.c = 0 ∧ c.inn = [] ∧ rightN c.n = true) ∨ (c.kind = 1 ∧ c.n = .zero ∧ c.inn = []) ∨ (c.kind = 2 ∧ c.n = .zero ∧ c.c = 0 ∧ ∃ x, c.inn = [x]) := by
    cases d with
    | zero => exact key _ _ h
    | succ d => exact key _ _ h
  rcases h2 with h2 | h2 | ⟨h1, h2, h3, x, h4⟩
  · exact .inl h2
  · exact .inr (.inl h2)
  · obtain ⟨e, he, _, hr, _⟩ := hinn x (by rw [h4]; simp)
    exact .inr (.inr ⟨h1, h2, h3, e, x, he, h4, hr⟩)
theorem row_num : Row (fun x : Cell => rightN x.n = true) (fun x y => cmpR x.n y.n) := by
  refine ⟨fun x y _ _ => ?_, fun x y _ _ => ?_, fun x y z hx hy hz => ?_⟩
  · have := cmpZ_cases (numT x.n * numB y.n) (numT y.n * numB x.n); unfold cmpR; omega
  · have := cmpZ_cases (numT x.n * numB y.n) (numT y.n * numB x.n)
    have := cmpZ_cases (numT y.n * numB x.n) (numT x.n * numB y.n); unfold cmpR; omega
  · obtain ⟨a, p, ra⟩ := rn_of hx
    obtain ⟨b, q, rb⟩ := rn_of hy
    obtain ⟨c, r, rc⟩ := rn_of hz
    unfold cmpR
    rw [ra.top, ra.bot, rb.top, rb.bot, rc.top, rc.bot]
    have p0 : (0 : Int) < p := by have := ra.d0; omega
    have q0 : (0 : Int) < q := by have := rb.d0; omega
    have r0 : (0 : Int) < r := by have := rc.d0; omega
    intro h1 h2
    have g1 : a * q ≤ b * p := by rcases cmpZ_cases (a * q) (b * p) with h | h | h <;> omega
    have g2 : b * r ≤ c * q := by rcases cmpZ_cases (b * r) (c * q) with h | h | h <;> omega
    have g3 : a * r ≤ c * p := by
      have e1 : a * q * r ≤ b * p * r := Int.mul_le_mul_of_nonneg_right g1 (by omega)
      have e2 : b * r * p ≤ c * q * p := Int.mul_le_mul_of_nonneg_right g2 (by omega)
      have e3 : (a * r) * q ≤ (c * p) * q := by
        have i1 : a * q * r = a * r * q := by rw [Int.mul_assoc, Int.mul_comm (q : Int) r, ← Int.mul_assoc]
        have i2 : b * p * r = b * r * p := by rw [Int.mul_assoc, Int.mul_comm (p : Int) r, ← Int.mul_assoc]
        have i3 : c * q * p = c * p * q := by rw [Int.mul_assoc, Int.mul_comm (q : Int) p, ← Int.mul_assoc]
        omega
      exact Int.le_of_mul_le_mul_right e3 q0
    rcases cmpZ_cases (a * r) (c * p) with h | h | h <;> omega
theorem num_zero {x y : Num} (hx : rightN x = true) (hy : rightN y = true) : cmpR x y = 0 ↔ x = y := by
  obtain ⟨a, p, ra⟩ := rn_of hx
  obtain ⟨b, q, rb⟩ := rn_of hy
  unfold cmpR
  rw [cmpZ_zero, ra.top, ra.bot, rb.top, rb.bot]
  constructor
  · intro h
    have h1 := mkR_unique (p := a) (q := p) (p' := b) (q' := q) (by have := ra.d0; omega) (by have := rb.d0; omega) h
    rw [ra.self, rb.self] at h1
    exact (Prod.mk.inj h1).1
  · rintro rfl
    have h1 := ra.top.symm.trans rb.top
    have h2 := ra.bot.symm.trans rb.bot
    rw [h1, h2]
theorem row_shape : Row (fun _ : Arr => True) shR := by
  refine Row.lex (f := fun a b : Arr => cmpZ a.shape.length b.shape.length) (row_key fun a : Arr => (a.shape.length : Int)) (fun a _ => ?_)
  have h : Row (fun _ : Int => True) cmpZ := row_key (fun x : Int => x)
  have := h.list a.shape.length
  exact ⟨fun x y hx hy => this.val x.shape y.shape ⟨by have := cmpZ_zero.1 hx.2; omega, fun _ _ => trivial⟩ ⟨by have := cmpZ_zero.1 hy.2; omega, fun _ _ => trivial⟩,
    fun x y hx hy => this.flip x.shape y.shape ⟨by have := cmpZ_zero.1 hx.2; omega, fun _ _ => trivial⟩ ⟨by have := cmpZ_zero.1 hy.2; omega, fun _ _ => trivial⟩,
    fun x y z hx hy hz => this.go x.shape y.shape z.shape ⟨by have := cmpZ_zero.1 hx.2; omega, fun _ _ => trivial⟩ ⟨by have := cmpZ_zero.1 hy.2; omega, fun _ _ => trivial⟩ ⟨by have := cmpZ_zero.1 hz.2; omega, fun _ _ => trivial⟩⟩
theorem shR_zero {a b : Arr} : shR a b = 0 ↔ a.shape = b.shape := by
  unfold shR
  by_cases h : a.shape.length = b.shape.length
  · rw [if_neg (by rw [Ne, cmpZ_zero]; omega)]
    have := lexG_zero (S := fun _ : Int => True) (f := cmpZ) (r := fun x => x) (fun x y _ _ => cmpZ_zero) a.shape b.shape h (fun _ _ => trivial) (fun _ _ => trivial)
    rw [this]; simp
  · rw [if_pos (by rw [Ne, cmpZ_zero]; omega)]
    constructor
    · intro h'; have := cmpZ_zero.1 h'; omega
    · intro h'; rw [h'] at h; exact absurd rfl h
theorem right_same {d : Nat} {a b : Arr} (ha : rightA d a = true) (hb : rightA d b = true) (h : a.shape = b.shape) : a.cells.length = b.cells.length := by
  have h1 := (rightA_cells ha).1
  have h2 := (rightA_cells hb).1
  rw [h, h2] at h1
  have := (Prod.mk.inj h1).1
  omega
theorem row_of_cells {d : Nat} (h : Row (fun x => rightC d x = true) (cmpC d)) : Row (fun a => rightA d a = true) (cmpA (d + 1)) := by
  refine Row.lex (row_shape.mono fun _ _ => trivial) (fun a ha => ?_)
  have := h.list a.cells.length
  have ok : ∀ x, rightA d x = true ∧ shR a x = 0 → x.cells.length = a.cells.length ∧ ∀ c ∈ x.cells, rightC d c = true := fun x hx => ⟨(right_same ha hx.1 (shR_zero.1 hx.2)).symm, (rightA_cells hx.1).2⟩
  exact ⟨fun x y hx hy => this.val _ _ (ok x hx) (ok y hy), fun x y hx hy => this.flip _ _ (ok x hx) (ok y hy), fun x y z hx hy hz => this.go _ _ _ (ok x hx) (ok y hy) (ok z hz)⟩
theorem row_cells_of {d : Nat} (h : ∀ e, d = e + 1 → Row (fun a => rightA e a = true) (cmpA d)) : Row (fun x => rightC d x = true) (cmpC d) := by
  refine Row.lex (f := fun x y : Cell => cmpZ x.kind y.kind) (row_key fun x : Cell => x.kind) (fun x hx => ?_)
  rcases rightC_cases hx with h0 | h0 | ⟨h0, h1, h2, e, x', he, h3, h4⟩
  · have ok : ∀ y : Cell, rightC d y = true ∧ cmpZ x.kind y.kind = 0 → rightN y.n = true ∧ y.kind = 0 := fun y hy => by
      have := cmpZ_zero.1 hy.2
      rcases rightC_cases hy.1 with g | g | g
      · exact ⟨g.2.2.2, g.1⟩
      · omega
      · omega
    exact (row_num.mono (fun y hy => (ok y hy).1)).congr (fun y z hy hz => by rw [if_pos (ok y hy).2])
  · have ok : ∀ y : Cell, rightC d y = true ∧ cmpZ x.kind y.kind = 0 → y.kind = 1 := fun y hy => by have := cmpZ_zero.1 hy.2; omega
    exact (row_key (fun y : Cell => y.c)).congr (fun y z hy hz => by rw [if_neg (by have := ok y hy; omega), if_pos (ok y hy)])
  · subst he
    have ok : ∀ y : Cell, rightC (e + 1) y = true ∧ cmpZ x.kind y.kind = 0 → y.kind = 2 ∧ rightA e (y.inn.headD .none) = true := fun y hy => by
      have := cmpZ_zero.1 hy.2
      rcases rightC_cases hy.1 with g | g | ⟨g0, _, _, e', y', he', h5, h6⟩
      · omega
      · omega
      · have : e' = e := by omega
        subst this
        exact ⟨g0, by rw [h5]; exact h6⟩
    have hr := h e rfl
    have : Row (fun y : Cell => rightC (e + 1) y = true ∧ cmpZ x.kind y.kind = 0) (fun y z => cmpA (e + 1) (y.inn.headD .none) (z.inn.headD .none)) := ⟨fun y z hy hz => hr.val _ _ (ok y hy).2 (ok z hz).2, fun y z hy hz => hr.flip _ _ (ok y hy).2 (ok z hz).2, fun y z w hy hz hw => hr.go _ _ _ (ok y hy).2 (ok z hz).2 (ok w hw).2⟩
    exact this.congr (fun y z hy hz => by rw [if_neg (by have := (ok y hy).1; omega), if_neg (by have := (ok y hy).1; omega)])
theorem row_both : ∀ d : Nat, Row (fun x => rightC d x = true) (cmpC d) ∧ Row (fun a => rightA d a = true) (cmpA (d + 1))
  | 0 => by
    have h := row_cells_of (d := 0) (fun e he => by omega)
    exact ⟨h, row_of_cells h⟩
  | d + 1 => by
    have h := row_cells_of (d := d + 1) (fun e he => by cases he; exact (row_both d).2)
    exact ⟨h, row_of_cells h⟩
abbrev rel0 (x : Cell) : Cell := relC (fun _ => 0) x
theorem zero_of_cells {d : Nat} (h : ∀ x y : Cell, rightC d x = true → rightC d y = true → (cmpC d x y = 0 ↔ rel0 x = rel0 y)) (a b : Arr) (ha : rightA d a = true) (hb : rightA d b = true) : cmpA (d + 1) a b = 0 ↔ eraA a = eraA b := by
  rw [cmpA_succ, show (eraA a = eraA b) ↔ (a.shape = b.shape ∧ a.cells.map rel0 = b.cells.map rel0) by unfold eraA; rw [relA_eq, relA_eq, arr_eq]; exact ⟨fun h => ⟨h.2.1, h.2.2⟩, fun h => ⟨rfl, h.1, h.2⟩⟩]
  by_cases hs : shR a b = 0
  · rw [if_neg (by omega)]
    have hs' := shR_zero.1 hs
    rw [lexG_zero (S := fun x => rightC d x = true) (r := rel0) h a.cells b.cells (right_same ha hb hs') (rightA_cells ha).2 (rightA_cells hb).2]
    exact ⟨fun h => ⟨hs', h⟩, fun h => h.2⟩
  · rw [if_pos hs]
    exact ⟨fun h => absurd h hs, fun h => absurd (shR_zero.2 h.1) hs⟩
theorem cell_eq2 {c d : Cell} (h1 : c.l = d.l) (h2 : c.kind = d.kind) (h3 : c.n = d.n) (h4 : c.c = d.c) (h5 : c.inn = d.inn) : c = d := by cases c; cases d; simp_all
theorem rel0_iff {x y : Cell} : rel0 x = rel0 y ↔ x.kind = y.kind ∧ x.n = y.n ∧ x.c = y.c ∧ x.inn.map eraA = y.inn.map eraA := by
  unfold rel0
  rw [relC_eq, relC_eq]
  constructor
  · intro h
    have h1 := congrArg (fun c : Cell => c.kind) h
    have h2 := congrArg (fun c : Cell => c.n) h
    have h3 := congrArg (fun c : Cell => c.c) h
    have h4 := congrArg (fun c : Cell => c.inn) h
    exact ⟨h1, h2, h3, h4⟩
  · rintro ⟨h1, h2, h3, h4⟩
    exact cell_eq2 rfl h1 h2 h3 h4
theorem zero_cells_of {d : Nat} (h : ∀ e, d = e + 1 → ∀ a b : Arr, rightA e a = true → rightA e b = true → (cmpA d a b = 0 ↔ eraA a = eraA b)) (x y : Cell) (hx : rightC d x = true) (hy : rightC d y = true) : cmpC d x y = 0 ↔ rel0 x = rel0 y := by
  rw [rel0_iff]
  unfold cmpC cmpCf
  by_cases hk : x.kind = y.kind
  · rw [if_neg (by rw [Ne, cmpZ_zero]; omega)]
    rcases rightC_cases hx with h0 | h0 | ⟨h0, h1, h2, e, x', he, h3, h4⟩ <;> rcases rightC_cases hy with g0 | g0 | ⟨g0, g1, g2, e', y', he', g3, g4⟩
    · rw [if_pos h0.1, num_zero h0.2.2.2 g0.2.2.2, h0.2.1, g0.2.1, h0.2.2.1, g0.2.2.1]; simp [hk]
    · omega
    · omega
    · omega
    · rw [if_neg (by omega), if_pos h0.1, cmpZ_zero, h0.2.1, g0.2.1, h0.2.2, g0.2.2]; simp [hk]
    · omega
    · omega
    · omega
    · subst he
      have : e' = e := by omega
      subst this
      rw [if_neg (by omega), if_neg (by omega), h3, g3, h1, g1, h2, g2]
      have := h _ rfl x' y' h4 g4
      simp [hk, this]
  · rw [if_pos (by rw [Ne, cmpZ_zero]; exact hk)]
    exact ⟨fun h => absurd (cmpZ_zero.1 h) hk, fun h => absurd h.1 hk⟩
theorem zero_both : ∀ d : Nat, (∀ x y : Cell, rightC d x = true → rightC d y = true → (cmpC d x y = 0 ↔ rel0 x = rel0 y)) ∧ ∀ a b : Arr, rightA d a = true → rightA d b = true → (cmpA (d + 1) a b = 0 ↔ eraA a = eraA b)
  | 0 => by
    have h := zero_cells_of (d := 0) (fun e he => by omega)
    exact ⟨h, zero_of_cells h⟩
  | d + 1 => by
    have h := zero_cells_of (d := d + 1) (fun e he => by cases he; exact (zero_both d).2)
    exact ⟨h, zero_of_cells h⟩

/-! The walk. -/
theorem isNaN_sp (x : Int) : Sp 140 [.int x] [.bool false] := sound_ 0 (cmp_isNaN_int_tree _ _) (wp_ret (by simp))
theorem cmpInt_sp (x y : Int) : Sp 111 [.int x, .int y] [.int (cmpZ x y)] := by
  refine sound_ 0 (cmp_Compare_int_tree _ _ _) (wp_call (isNaN_sp x) (wp_call (isNaN_sp y) (wp_ff rfl (wp_ff rfl ?_))))
  simp only [toInt_int]
  refine wp_decs (fun h => wp_ret (by unfold cmpZ; rw [if_pos h])) (fun h => wp_decs (fun h' => wp_ret (by unfold cmpZ; rw [if_neg h, if_neg (by omega)])) (fun h' => wp_ret (by unfold cmpZ; rw [if_neg h, if_pos (by omega)])))
theorem ref17_ints_sp (x y : Int) : Sp 73 [.int x, .int y] [.int (cmpZ x y)] := by
  refine sound_ 0 (ref17_ints_tree _ _ _) ?_
  simp only [toInt_int]
  refine wp_decs (fun h => wp_ret (by unfold cmpZ; rw [if_pos h])) (fun h => wp_decs (fun h' => wp_ret (by unfold cmpZ; rw [if_neg h, if_neg (by omega)])) (fun h' => wp_ret (by unfold cmpZ; rw [if_neg h, if_pos (by omega)])))
theorem zip_at {α β : Type} {l : List α} {m : List β} {k : Nat} {x : α} {y : β} (h : (l.zip m)[k]? = some (x, y)) : l[k]? = some x ∧ m[k]? = some y := by
  rw [List.getElem?_zip_eq_some] at h; exact h
theorem lt_of_at {α : Type} {l : List α} {k : Nat} {x : α} (h : l[k]? = some x) : k < l.length := (List.getElem?_eq_some_iff.1 h).1
theorem slices_Compare_sp (l m : List Int) (hl : l.length ≤ 1048576) (e : l.length = m.length) : Sp 144 [dI l, dI m] [.int (lexG cmpZ (l.zip m))] := by
  refine sound_ 1048577 (slices_Compare_int_int_tree _ _ _) ?_
  have hz : (l.zip m).length = l.length := by simp [List.length_zip, e]
  have key := loop_list (P := Tryz.prog) (md := md) (l.zip m) (fun q k (_ : Unit) => slices_Compare_int_int_l2 1048577 q (dI l) (dI m) (dI l) (l.length : Int) (k : Int)) (fun rest _ => [.int (lexG cmpZ rest)]) (fun _ _ => True)
    (fun q k s hk _ => by
      simp only [slices_Compare_int_int_l2_succ, els_dI, List.length_map]
      exact wp_ndec (by omega) (wp_ndec (by omega) (wp_ret rfl)))
    (fun q k s p rest hd _ ih => by
      obtain ⟨h1, h2, h3⟩ := drop_cons hd
      obtain ⟨x, y⟩ := p
      obtain ⟨g1, g2⟩ := zip_at h2
      have l1 := lt_of_at g1
      simp only [slices_Compare_int_int_l2_succ, els_dI, List.length_map, Int.toNat_natCast, getD_map g1, getD_map g2, toInt_int, wrap_succ (show k < 9223372036854775807 by omega)]
      refine wp_dec (by omega) (wp_dec (by omega) (wp_dec (by omega) (wp_ndec (by omega) (wp_dec (by omega) (wp_dec (by omega) (wp_call (cmpInt_sp x y) ?_))))))
      simp only [getD_c0, toInt_int, int_bne, lexG]
      exact wp_decs (fun h => wp_ret (by rw [if_pos h])) (fun h => by rw [if_neg h]; exact ih () trivial))
    1048577 0 () (by omega) (by omega) trivial
  simp only [els_dI, List.length_map]
  exact key
theorem smN_right {n : Num} (h : rightN n = true) : SmN n := ⟨by have := (rightN_len h).1; omega, by have := (rightN_len h).2; omega⟩
theorem arrays_of {d : Nat} (h : ∀ x y : Cell, rightC d x = true → rightC d y = true → Sp 71 [dC x, dC y] [.int (cmpC d x y)]) (a b : Arr) (ha : rightA d a = true) (hb : rightA d b = true) : Sp 113 [dA a, dA b] [.int (cmpA (d + 1) a b)] := by
  have la := rightA_len ha
  have lb := rightA_len hb
  refine sound_ 1048577 (grade_arrays_tree _ _ _) ?_
  simp only [dA_0, dA_1, dA_2, dC_0, dC_1, dC_2, dC_3, dC_4, dN_0, dN_1, dN_2, els_sl, els_dI, els_dL, List.length_map, Int.toNat_natCast, toInt_int, toInt_dB, toBool_bool, getD_c0, getD_c1, int_beq, int_bne, not_dec, dInt_dB, Int.toNat_zero]
  refine wp_call (cmpInt_sp _ _) ?_
  rw [cmpA_succ]
  unfold shR
  simp only [getD_c0, toInt_int, int_bne]
  refine wp_decs (fun h => wp_ret (by simp only [if_pos h])) (fun h1 => ?_)
  simp only [if_neg h1]
  have hl : a.shape.length = b.shape.length := by have := cmpZ_zero.1 (Classical.not_not.1 h1); omega
  refine wp_call (slices_Compare_sp a.shape b.shape (by omega) hl) ?_
  simp only [getD_c0, toInt_int]
  refine wp_decs (fun h => wp_ret (by simp only [if_pos h])) (fun h2 => ?_)
  simp only [if_neg h2]
  have hs : a.shape = b.shape := shR_zero.1 (by unfold shR; rw [if_neg h1]; exact Classical.not_not.1 h2)
  have hc := right_same ha hb hs
  have hz : (a.cells.zip b.cells).length = a.cells.length := by simp [List.length_zip, hc]
  have key := loop_list (P := Tryz.prog) (md := md) (a.cells.zip b.cells) (fun q k (_ : Unit) => grade_arrays_l8 1048577 q (a.cells.length : Int) (k : Int) (dA a) (dA b)) (fun rest _ => [.int (lexG (cmpC d) rest)]) (fun _ _ => True)
    (fun q k s hk _ => by
      simp only [grade_arrays_l8_succ, dA_0, dA_1, dA_2, dC_0, dC_1, dC_2, dC_3, dC_4, dN_0, dN_1, dN_2, els_sl, els_dI, els_dL, List.length_map, Int.toNat_natCast, toInt_int, toInt_dB, toBool_bool, getD_c0, getD_c1, int_beq, int_bne, not_dec, dInt_dB, Int.toNat_zero]
      exact wp_ndec (by omega) (wp_ret rfl))
    (fun q k s p rest hd _ ih => by
      obtain ⟨_, k2, k3⟩ := drop_cons hd
      obtain ⟨x, y⟩ := p
      obtain ⟨g1, g2⟩ := zip_at k2
      have l1 := lt_of_at g1
      simp only [grade_arrays_l8_succ, dA_0, dA_1, dA_2, dC_0, dC_1, dC_2, dC_3, dC_4, dN_0, dN_1, dN_2, els_sl, els_dI, els_dL, List.length_map, Int.toNat_natCast, toInt_int, toInt_dB, toBool_bool, getD_c0, getD_c1, int_beq, int_bne, not_dec, dInt_dB, Int.toNat_zero, getD_map g1, getD_map g2, wrap_succ (show k < 9223372036854775807 by omega)]
      refine wp_dec (by omega) (wp_dec (by omega) (wp_dec (by omega) (wp_dec (by omega) (wp_dec (by omega) (wp_call (h x y ((rightA_cells ha).2 x (List.mem_of_getElem? g1)) ((rightA_cells hb).2 y (List.mem_of_getElem? g2))) ?_)))))
      simp only [getD_c0, toInt_int, lexG]
      exact wp_decs (fun h => wp_ret (by rw [if_pos h])) (fun h => by rw [if_neg h]; exact ih () trivial))
    1048577 0 () (by omega) (by omega) trivial
  exact key
theorem gcells_of {d : Nat} (h : ∀ e, d = e + 1 → ∀ a b : Arr, rightA e a = true → rightA e b = true → Sp 113 [dA a, dA b] [.int (cmpA d a b)]) (x y : Cell) (hx : rightC d x = true) (hy : rightC d y = true) : Sp 71 [dC x, dC y] [.int (cmpC d x y)] := by
  refine sound_ 0 (grade_cells_tree _ _ _) ?_
  unfold cmpC cmpCf
  simp only [dA_0, dA_1, dA_2, dC_0, dC_1, dC_2, dC_3, dC_4, dN_0, dN_1, dN_2, els_sl, els_dI, els_dL, List.length_map, Int.toNat_natCast, toInt_int, toInt_dB, toBool_bool, getD_c0, getD_c1, int_beq, int_bne, not_dec, dInt_dB, Int.toNat_zero]
  refine wp_decs (fun hk => wp_call (cmpInt_sp _ _) (wp_ret (by rw [if_pos (by rw [Ne, cmpZ_zero]; exact hk)]; rfl))) (fun hk => ?_)
  have hk := Classical.not_not.1 hk
  rw [if_neg (by rw [Ne, cmpZ_zero]; omega)]
  rcases rightC_cases hx with h0 | h0 | ⟨h0, h1, h2, e, x', he, h3, h4⟩ <;> rcases rightC_cases hy with g0 | g0 | ⟨g0, g1, g2, e', y', he', g3, g4⟩
  · exact wp_dec h0.1 (wp_call (ratio_Cmp_sp (smN_right h0.2.2.2) (smN_right g0.2.2.2)) (wp_ret (by rw [if_pos h0.1]; rfl)))
  · omega
  · omega
  · omega
  · exact wp_ndec (by omega) (wp_dec h0.1 (wp_call (cmpInt_sp _ _) (wp_ret (by rw [if_neg (by omega), if_pos h0.1]; rfl))))
  · omega
  · omega
  · omega
  · subst he
    have : e' = e := by omega
    subst this
    simp only [dC_4, h3, g3, els_sl, List.map_cons, List.map_nil, List.length_cons, List.length_nil, Int.toNat_zero, getD_c0]
    exact wp_ndec (by omega) (wp_ndec (by omega) (wp_dec (by omega) (wp_dec (by omega) (wp_dec (by omega) (wp_dec (by omega) (wp_call (h _ rfl x' y' h4 g4) (wp_ret (by rw [if_neg (by omega), if_neg (by omega)]; rfl))))))))
theorem grade_both : ∀ d : Nat, (∀ x y : Cell, rightC d x = true → rightC d y = true → Sp 71 [dC x, dC y] [.int (cmpC d x y)]) ∧ ∀ a b : Arr, rightA d a = true → rightA d b = true → Sp 113 [dA a, dA b] [.int (cmpA (d + 1) a b)]
  | 0 => by
    have h := gcells_of (d := 0) (fun e he => by omega)
    exact ⟨h, arrays_of h⟩
  | d + 1 => by
    have h := gcells_of (d := d + 1) (fun e he => by cases he; exact (grade_both d).2)
    exact ⟨h, arrays_of h⟩
theorem ref17_arrays_of {d : Nat} (h : ∀ x y : Cell, rightC d x = true → rightC d y = true → Sp 35 [dC x, dC y] [.int (cmpC d x y)]) (a b : Arr) (ha : rightA d a = true) (hb : rightA d b = true) : Sp 75 [dA a, dA b] [.int (cmpA (d + 1) a b)] := by
  have la := rightA_len ha
  have lb := rightA_len hb
  refine sound_ 4096 (ref17_Arrays_tree _ _ _) ?_
  simp only [dA_0, dA_1, dA_2, dC_0, dC_1, dC_2, dC_3, dC_4, dN_0, dN_1, dN_2, els_sl, els_dI, els_dL, List.length_map, Int.toNat_natCast, toInt_int, toInt_dB, toBool_bool, getD_c0, getD_c1, int_beq, int_bne, not_dec, dInt_dB, Int.toNat_zero]
  rw [cmpA_succ]
  unfold shR
  refine wp_decs (fun h => wp_call (ref17_ints_sp _ _) (wp_ret (by
    have h' : cmpZ (a.shape.length : Int) (b.shape.length : Int) ≠ 0 := by rw [Ne, cmpZ_zero]; exact h
    simp only [if_pos h']; rfl))) (fun h1 => ?_)
  have hl : a.shape.length = b.shape.length := by omega
  have h1' : ¬ cmpZ (a.shape.length : Int) (b.shape.length : Int) ≠ 0 := by rw [Classical.not_not, cmpZ_zero]; omega
  simp only [if_neg h1']
  have hz : (a.shape.zip b.shape).length = a.shape.length := by simp [List.length_zip, hl]
  have last : a.shape = b.shape → Tw (ref17_Arrays_l9 4096 4096 0 (dA a) (dA b)) [.int (lexG (cmpC d) (a.cells.zip b.cells))] := by
    intro hs
    have hc := right_same ha hb hs
    have hz : (a.cells.zip b.cells).length = a.cells.length := by simp [List.length_zip, hc]
    have key := loop_list (P := Tryz.prog) (md := md) (a.cells.zip b.cells) (fun q k (_ : Unit) => ref17_Arrays_l9 4096 q (k : Int) (dA a) (dA b)) (fun rest _ => [.int (lexG (cmpC d) rest)]) (fun _ _ => True)
      (fun q k s hk _ => by
        simp only [ref17_Arrays_l9_succ, dA_0, dA_1, dA_2, dC_0, dC_1, dC_2, dC_3, dC_4, dN_0, dN_1, dN_2, els_sl, els_dI, els_dL, List.length_map, Int.toNat_natCast, toInt_int, toInt_dB, toBool_bool, getD_c0, getD_c1, int_beq, int_bne, not_dec, dInt_dB, Int.toNat_zero]
        exact wp_ndec (by omega) (wp_ret rfl))
      (fun q k s p rest hd _ ih => by
        obtain ⟨_, k2, k3⟩ := drop_cons hd
        obtain ⟨x, y⟩ := p
        obtain ⟨g1, g2⟩ := zip_at k2
        have l1 := lt_of_at g1
        simp only [ref17_Arrays_l9_succ, dA_0, dA_1, dA_2, dC_0, dC_1, dC_2, dC_3, dC_4, dN_0, dN_1, dN_2, els_sl, els_dI, els_dL, List.length_map, Int.toNat_natCast, toInt_int, toInt_dB, toBool_bool, getD_c0, getD_c1, int_beq, int_bne, not_dec, dInt_dB, Int.toNat_zero, getD_map g1, getD_map g2, wrap_succ (show k < 9223372036854775807 by omega)]
        refine wp_dec (by omega) (wp_dec (by omega) (wp_dec (by omega) (wp_dec (by omega) (wp_dec (by omega) (wp_call (h x y ((rightA_cells ha).2 x (List.mem_of_getElem? g1)) ((rightA_cells hb).2 y (List.mem_of_getElem? g2))) ?_)))))
        simp only [getD_c0, toInt_int, lexG]
        exact wp_decs (fun h => wp_ret (by rw [if_pos h])) (fun h => by rw [if_neg h]; exact ih () trivial))
      4096 0 () (by omega) (by omega) trivial
    exact key
  have key := loop_list (P := Tryz.prog) (md := md) (a.shape.zip b.shape) (fun q k (_ : Unit) => ref17_Arrays_l4 4096 q (k : Int) (dA a) (dA b)) (fun rest _ => [.int (if lexG cmpZ rest ≠ 0 then lexG cmpZ rest else lexG (cmpC d) (a.cells.zip b.cells))]) (fun rest _ => lexG cmpZ rest = 0 → a.shape = b.shape)
    (fun q k s hk hI => by
      simp only [ref17_Arrays_l4_succ, dA_0, dA_1, dA_2, dC_0, dC_1, dC_2, dC_3, dC_4, dN_0, dN_1, dN_2, els_sl, els_dI, els_dL, List.length_map, Int.toNat_natCast, toInt_int, toInt_dB, toBool_bool, getD_c0, getD_c1, int_beq, int_bne, not_dec, dInt_dB, Int.toNat_zero]
      exact wp_ndec (by omega) (last (hI rfl)))
    (fun q k s p rest hd hI ih => by
      obtain ⟨_, k2, k3⟩ := drop_cons hd
      obtain ⟨x, y⟩ := p
      obtain ⟨g1, g2⟩ := zip_at k2
      have l1 := lt_of_at g1
      simp only [ref17_Arrays_l4_succ, dA_0, dA_1, dA_2, dC_0, dC_1, dC_2, dC_3, dC_4, dN_0, dN_1, dN_2, els_sl, els_dI, els_dL, List.length_map, Int.toNat_natCast, toInt_int, toInt_dB, toBool_bool, getD_c0, getD_c1, int_beq, int_bne, not_dec, dInt_dB, Int.toNat_zero, getD_map g1, getD_map g2, wrap_succ (show k < 9223372036854775807 by omega)]
      refine wp_dec (by omega) (wp_dec (by omega) (wp_dec (by omega) (wp_dec (by omega) (wp_dec (by omega) (wp_decs (fun hne => ?_) (fun he => ?_))))))
      · have hne' : cmpZ x y ≠ 0 := by rw [Ne, cmpZ_zero]; exact hne
        refine wp_dec (by omega) (wp_dec (by omega) (wp_dec (by omega) (wp_dec (by omega) (wp_call (ref17_ints_sp x y) (wp_ret ?_)))))
        simp only [lexG, if_pos hne', getD_c0, toInt_int]
      · have he' : ¬ cmpZ x y ≠ 0 := by rw [Classical.not_not, cmpZ_zero]; omega
        simp only [lexG, if_neg he'] at hI ⊢
        exact ih () hI)
    4096 0 () (by omega) (by omega) (fun h0 => shR_zero.1 (by unfold shR; rw [if_neg h1']; exact h0))
  exact key
theorem ref17_cells_of {d : Nat} (h : ∀ e, d = e + 1 → ∀ a b : Arr, rightA e a = true → rightA e b = true → Sp 75 [dA a, dA b] [.int (cmpA d a b)]) (x y : Cell) (hx : rightC d x = true) (hy : rightC d y = true) : Sp 35 [dC x, dC y] [.int (cmpC d x y)] := by
  refine sound_ 0 (ref17_Compare_tree _ _ _) ?_
  unfold cmpC cmpCf
  simp only [dA_0, dA_1, dA_2, dC_0, dC_1, dC_2, dC_3, dC_4, dN_0, dN_1, dN_2, els_sl, els_dI, els_dL, List.length_map, Int.toNat_natCast, toInt_int, toInt_dB, toBool_bool, getD_c0, getD_c1, int_beq, int_bne, not_dec, dInt_dB, Int.toNat_zero]
  refine wp_decs (fun hk => wp_call (ref17_ints_sp _ _) (wp_ret (by rw [if_pos (by rw [Ne, cmpZ_zero]; exact hk)]; rfl))) (fun hk => ?_)
  have hk := Classical.not_not.1 hk
  rw [if_neg (by rw [Ne, cmpZ_zero]; omega)]
  rcases rightC_cases hx with h0 | h0 | ⟨h0, h1, h2, e, x', he, h3, h4⟩ <;> rcases rightC_cases hy with g0 | g0 | ⟨g0, g1, g2, e', y', he', g3, g4⟩
  · exact wp_dec h0.1 (wp_call (ref04_Cmp_sp (smN_right h0.2.2.2) (smN_right g0.2.2.2)) (wp_ret (by rw [if_pos h0.1]; rfl)))
  · omega
  · omega
  · omega
  · exact wp_ndec (by omega) (wp_dec h0.1 (wp_call (ref17_ints_sp _ _) (wp_ret (by rw [if_neg (by omega), if_pos h0.1]; rfl))))
  · omega
  · omega
  · omega
  · subst he
    have : e' = e := by omega
    subst this
    simp only [dC_4, h3, g3, els_sl, List.map_cons, List.map_nil, List.length_cons, List.length_nil, Int.toNat_zero, getD_c0]
    exact wp_ndec (by omega) (wp_ndec (by omega) (wp_dec (by omega) (wp_dec (by omega) (wp_dec (by omega) (wp_dec (by omega) (wp_call (h _ rfl x' y' h4 g4) (wp_ret (by rw [if_neg (by omega), if_neg (by omega)]; rfl))))))))
theorem ref17_both : ∀ d : Nat, (∀ x y : Cell, rightC d x = true → rightC d y = true → Sp 35 [dC x, dC y] [.int (cmpC d x y)]) ∧ ∀ a b : Arr, rightA d a = true → rightA d b = true → Sp 75 [dA a, dA b] [.int (cmpA (d + 1) a b)]
  | 0 => by
    have h := ref17_cells_of (d := 0) (fun e he => by omega)
    exact ⟨h, ref17_arrays_of h⟩
  | d + 1 => by
    have h := ref17_cells_of (d := d + 1) (fun e he => by cases he; exact (ref17_both d).2)
    exact ⟨h, ref17_arrays_of h⟩
end Go.Proofs.YtbgcadcpeabpgaaGreat
set_option maxRecDepth 100000
namespace Go.Proofs.YtbgcadcpeabpgaaGreat

def leK (k : Nat → Nat → Int) (i j : Nat) : Prop := k i j < 0 ∨ (k i j = 0 ∧ i ≤ j)
instance (k : Nat → Nat → Int) (i j : Nat) : Decidable (leK k i j) := by unfold leK; infer_instance
abbrev AllN (f : Nat → Nat → Int) : Prop := Row (fun _ : Nat => True) f
section
variable {k : Nat → Nat → Int} (hk : AllN k)
include hk
theorem leK_total (i j : Nat) : leK k i j ∨ leK k j i := by
  have := hk.flip i j trivial trivial
  unfold leK; omega
theorem leK_self (i : Nat) : leK k i i := by have := leK_total hk i i; simpa using this
theorem leK_anti {i j : Nat} (h1 : leK k i j) (h2 : leK k j i) : i = j := by
  have := hk.flip i j trivial trivial
  unfold leK at h1 h2; omega
theorem leK_trans {i j m : Nat} (h1 : leK k i j) (h2 : leK k j m) : leK k i m := by
  have g1 : k i j ≤ 0 := by unfold leK at h1; omega
  have g2 : k j m ≤ 0 := by unfold leK at h2; omega
  have g3 := hk.go i j m trivial trivial trivial g1 g2
  by_cases h : k i m = 0
  · obtain ⟨q1, q2⟩ := hk.two (x := i) (y := j) (z := m) trivial trivial trivial g1 g2 h
    unfold leK at h1 h2 ⊢; omega
  · unfold leK; omega
theorem leK_lt {i j : Nat} (h : i < j) : (k j i < 0) ↔ ¬ leK k i j := by
  have := hk.flip i j trivial trivial
  unfold leK; omega
omit hk in
theorem leK_not (hk : AllN k) {i j : Nat} (h : ¬ leK k i j) : leK k j i := (leK_total hk i j).resolve_left h
end
def insK (k : Nat → Nat → Int) (x : Nat) : List Nat → List Nat
  | [] => [x]
  | y :: ys => if leK k x y then x :: y :: ys else y :: insK k x ys
def srt (k : Nat → Nat → Int) : List Nat → List Nat
  | [] => []
  | x :: xs => insK k x (srt k xs)
theorem insK_perm (k : Nat → Nat → Int) (x : Nat) : ∀ l, (insK k x l).Perm (x :: l)
  | [] => List.Perm.refl _
  | y :: ys => by
    rw [insK]
    split
    · exact List.Perm.refl _
    · exact ((insK_perm k x ys).cons y).trans (List.Perm.swap x y ys)
theorem srt_perm (k : Nat → Nat → Int) : ∀ l, (srt k l).Perm l
  | [] => List.Perm.refl _
  | x :: xs => by rw [srt]; exact (insK_perm k x _).trans ((srt_perm k xs).cons x)
theorem srt_len (k : Nat → Nat → Int) (l : List Nat) : (srt k l).length = l.length := (srt_perm k l).length_eq
theorem srt_mem {k : Nat → Nat → Int} {l : List Nat} {x : Nat} : x ∈ srt k l ↔ x ∈ l := (srt_perm k l).mem_iff
section
variable {k : Nat → Nat → Int} (hk : AllN k)
include hk
theorem insK_sorted (x : Nat) : ∀ l, l.Pairwise (leK k) → (insK k x l).Pairwise (leK k)
  | [], _ => by simp [insK]
  | y :: ys, h => by
    rw [insK]
    rw [List.pairwise_cons] at h
    split
    · rename_i hxy
      refine List.pairwise_cons.2 ⟨fun z hz => ?_, List.pairwise_cons.2 h⟩
      rcases List.mem_cons.1 hz with rfl | hz
      · exact hxy
      · exact leK_trans hk hxy (h.1 z hz)
    · rename_i hxy
      refine List.pairwise_cons.2 ⟨fun z hz => ?_, insK_sorted x ys h.2⟩
      rcases List.mem_cons.1 ((insK_perm k x ys).mem_iff.1 hz) with rfl | hz
      · exact leK_not hk hxy
      · exact h.1 z hz
theorem srt_sorted : ∀ l, (srt k l).Pairwise (leK k)
  | [] => List.Pairwise.nil
  | x :: xs => insK_sorted hk x _ (srt_sorted xs)
theorem sorted_unique : ∀ {l m : List Nat}, l.Perm m → l.Pairwise (leK k) → m.Pairwise (leK k) → l = m
  | [], m, hp, _, _ => (List.Perm.nil_eq hp)
  | x :: xs, [], hp, _, _ => by have := hp.length_eq; simp at this
  | x :: xs, y :: ys, hp, h1, h2 => by
    rw [List.pairwise_cons] at h1 h2
    have hx : x ∈ y :: ys := hp.mem_iff.1 (by simp)
    have hy : y ∈ x :: xs := hp.mem_iff.2 (by simp)
    have e : x = y := by
      rcases List.mem_cons.1 hx with e | hx
      · exact e
      · rcases List.mem_cons.1 hy with e | hy
        · exact e.symm
        · exact leK_anti hk (h1.1 y hy) (h2.1 x hx)
    subst e
    rw [sorted_unique ((List.perm_cons x).1 hp) h1.2 h2.2]
theorem srt_of {l z : List Nat} (hp : z.Perm l) (hs : z.Pairwise (leK k)) : srt k l = z := (sorted_unique hk (hp.trans (srt_perm k l).symm) hs (srt_sorted hk l)).symm
omit hk in
theorem srt_one {l : List Nat} (h : l.length ≤ 1) : srt k l = l := by
  match l with
  | [] => rfl
  | [x] => rfl
  | _ :: _ :: _ => simp at h
omit hk in
theorem sorted_app {l m : List Nat} (h1 : l.Pairwise (leK k)) (h2 : m.Pairwise (leK k)) (h : ∀ x ∈ l, ∀ y ∈ m, leK k x y) : (l ++ m).Pairwise (leK k) := List.pairwise_append.2 ⟨h1, h2, h⟩
/-- All of a sorted list stand ahead of what its last stands ahead of. -/
theorem upto_last {l : List Nat} {i : Nat} {y z : Nat} (hs : l.Pairwise (leK k)) (hi : l[i]? = some y) (h : leK k y z) : ∀ x ∈ l.take (i + 1), leK k x z := by
  intro x hx
  obtain ⟨j, hj, rfl⟩ := List.mem_iff_getElem.1 hx
  obtain ⟨hi', rfl⟩ := List.getElem?_eq_some_iff.1 hi
  rw [List.length_take] at hj
  rw [List.getElem_take]
  by_cases e : j = i
  · subst e; exact h
  · exact leK_trans hk (List.pairwise_iff_getElem.1 hs j i (by omega) hi' (by omega)) h
theorem from_first {l : List Nat} {i : Nat} {y z : Nat} (hs : l.Pairwise (leK k)) (hi : l[i]? = some y) (h : leK k z y) : ∀ x ∈ l.drop i, leK k z x := by
  intro x hx
  obtain ⟨j, hj, rfl⟩ := List.mem_iff_getElem.1 hx
  obtain ⟨hi', rfl⟩ := List.getElem?_eq_some_iff.1 hi
  rw [List.length_drop] at hj
  rw [List.getElem_drop]
  by_cases e : j = 0
  · subst e; exact h
  · exact leK_trans hk h (List.pairwise_iff_getElem.1 hs i (i + j) hi' (by omega) (by omega))
end
def sg (k : Nat → Nat → Int) (bs : Nat) : Nat → List Nat → List Nat
  | 0, l => srt k l
  | q + 1, l => if l.length < bs then srt k l else srt k (l.take bs) ++ sg k bs q (l.drop bs)
theorem sg_fuel {k : Nat → Nat → Int} {bs : Nat} (hb : 1 ≤ bs) : ∀ {q q' : Nat} {l : List Nat}, l.length ≤ q → l.length ≤ q' → sg k bs q l = sg k bs q' l
  | 0, 0, l, _, _ => rfl
  | 0, q' + 1, l, h, _ => by rw [sg, sg, if_pos (by omega)]
  | q + 1, 0, l, _, h => by rw [sg, sg, if_pos (by omega)]
  | q + 1, q' + 1, l, h, h' => by
    rw [sg, sg]
    split
    · rfl
    · rw [sg_fuel hb (q := q) (q' := q') (by rw [List.length_drop]; omega) (by rw [List.length_drop]; omega)]
def SG (k : Nat → Nat → Int) (bs : Nat) (l : List Nat) : List Nat := sg k bs l.length l
theorem SG_eq {k : Nat → Nat → Int} {bs : Nat} (hb : 1 ≤ bs) (l : List Nat) : SG k bs l = if l.length < bs then srt k l else srt k (l.take bs) ++ SG k bs (l.drop bs) := by
  unfold SG
  rw [sg_fuel hb (q := l.length) (q' := l.length + 1) (by omega) (by omega), sg]
  split
  · rfl
  · rw [sg_fuel hb (q := l.length) (q' := (l.drop bs).length) (by rw [List.length_drop]; omega) (by omega)]
theorem SG_small {k : Nat → Nat → Int} {bs : Nat} (hb : 1 ≤ bs) {l : List Nat} (h : l.length ≤ bs) : SG k bs l = srt k l := by
  rw [SG_eq hb]
  split
  · rfl
  · have h1 : l.take bs = l := List.take_of_length_le h
    have h2 : l.drop bs = [] := List.drop_of_length_le h
    rw [h1, h2, SG_eq hb, if_pos (by simp; omega)]
    simp [srt]
theorem SG_len {k : Nat → Nat → Int} {bs : Nat} (hb : 1 ≤ bs) : ∀ (q : Nat) (l : List Nat), l.length ≤ q → (SG k bs l).length = l.length
  | 0, l, h => by rw [SG_eq hb, if_pos (by omega), srt_len]
  | q + 1, l, h => by
    rw [SG_eq hb]
    split
    · rw [srt_len]
    · rw [List.length_append, srt_len, SG_len hb q _ (by rw [List.length_drop]; omega), List.length_take, List.length_drop]; omega

/-! Places in the data. -/
def dP (i : Nat) : D := .int (i : Int)
theorem dP_int (i : Nat) : (dP i).toInt = (i : Int) := rfl
theorem at_app {A : List Nat} {x : Nat} {B : List Nat} {i : Nat} (h : i = A.length) : ((A ++ x :: B).map dP).getD i D.nil = dP x := by
  subst h; simp [List.getD_eq_getElem?_getD]
theorem at_app2 {A M : List Nat} {x y : Nat} {B : List Nat} {i : Nat} (h : i = A.length + 1 + M.length) : ((A ++ x :: (M ++ y :: B)).map dP).getD i D.nil = dP y := by
  rw [show A ++ x :: (M ++ y :: B) = (A ++ x :: M) ++ y :: B by simp]
  exact at_app (by simp; omega)
theorem set_app {A : List Nat} {x y : Nat} {B : List Nat} {i : Nat} (h : i = A.length) : ((A ++ x :: B).map dP).set i (dP y) = (A ++ y :: B).map dP := by
  subst h; simp
theorem set_app2 {A M : List Nat} {x y z : Nat} {B : List Nat} {i : Nat} (h : i = A.length + 1 + M.length) : ((A ++ x :: (M ++ y :: B)).map dP).set i (dP z) = (A ++ x :: (M ++ z :: B)).map dP := by
  rw [show A ++ x :: (M ++ y :: B) = (A ++ x :: M) ++ y :: B by simp, set_app (by simp; omega)]
  simp
theorem swap_up {A M : List Nat} {x y : Nat} {B : List Nat} {i j : Nat} (hi : i = A.length) (hj : j = A.length + 1 + M.length) : (((A ++ x :: (M ++ y :: B)).map dP).set i (dP y)).set j (dP x) = (A ++ y :: (M ++ x :: B)).map dP := by
  rw [set_app hi, set_app2 hj]
theorem swap_down {A M : List Nat} {x y : Nat} {B : List Nat} {i j : Nat} (hi : i = A.length) (hj : j = A.length + 1 + M.length) : (((A ++ x :: (M ++ y :: B)).map dP).set j (dP x)).set i (dP y) = (A ++ y :: (M ++ x :: B)).map dP := by
  rw [set_app2 hj, set_app hi]
theorem half_eq {i j : Nat} (h : i + j ≤ 1000000) : IntKind.wrap .i64 (Int.fdiv (IntKind.wrap .u64 (IntKind.wrap .i64 ((i : Int) + (j : Int)))) (2 ^ (min (Int.toNat 1) (IntKind.bits .u64)))) = (((i + j) / 2 : Nat) : Int) := by
  rw [wrap64 (x := (i : Int) + (j : Int)) (by omega) (by omega), wrapU64 (by omega) (by omega), show (2 : Int) ^ (min (Int.toNat 1) (IntKind.bits .u64)) = 2 by decide, Int.fdiv_eq_ediv_of_nonneg _ (by decide), wrap64 (by omega) (by omega)]
  omega
end Go.Proofs.YtbgcadcpeabpgaaGreat
set_option maxRecDepth 100000
namespace Go.Proofs.YtbgcadcpeabpgaaGreat
/-- Which of two places stands ahead. -/
def kk (d : Nat) (cs : List Cell) (dn : Bool) (i j : Nat) : Int := if dn then cmpC d (cs.getD j (intC 0)) (cs.getD i (intC 0)) else cmpC d (cs.getD i (intC 0)) (cs.getD j (intC 0))
theorem at_right {d : Nat} {cs : List Cell} (h : ∀ c ∈ cs, rightC d c = true) (i : Nat) : rightC d (cs.getD i (intC 0)) = true := by
  rw [List.getD_eq_getElem?_getD]
  cases hg : cs[i]? with
  | none => exact rightC_int d inR0
  | some c => exact h c (List.mem_of_getElem? hg)
theorem row_kk {d : Nat} {cs : List Cell} {dn : Bool} (h : ∀ c ∈ cs, rightC d c = true) : AllN (kk d cs dn) := by
  have r := (row_both d).1
  have o := at_right h
  cases dn with
  | false => exact ⟨fun x y _ _ => r.val _ _ (o x) (o y), fun x y _ _ => r.flip _ _ (o x) (o y), fun x y z _ _ _ => r.go _ _ _ (o x) (o y) (o z)⟩
  | true => exact ⟨fun x y _ _ => r.val _ _ (o y) (o x), fun x y _ _ => r.flip _ _ (o y) (o x), fun x y z _ _ _ h1 h2 => r.go _ _ _ (o z) (o y) (o x) h2 h1⟩
abbrev gfn (dn : Bool) (a : Arr) : D := D.fn 70 [.ref 4, .ref 26] [.ref (.bool dn), .ref (dA a)]
section
variable {d : Nat} {a : Arr} {dn : Bool} (ha : ∀ c ∈ a.cells, rightC d c = true)
include ha
theorem gcmp_sp {i j : Nat} (hi : i < a.cells.length) (hj : j < a.cells.length) : Spec Tryz.prog md 70 [.ref 4, .ref 26] [dP i, dP j, .ref (.bool dn), .ref (dA a)] [.int (kk d a.cells dn i j)] := by
  have cell : ∀ i, i < a.cells.length → (a.cells.map dC).getD i D.nil = dC (a.cells.getD i (intC 0)) := fun i hi => by
    rw [getD_map (List.getElem?_eq_getElem hi), List.getD_eq_getElem?_getD, List.getElem?_eq_getElem hi]; rfl
  have o := at_right ha
  refine sound_ 0 (grade_Grade_2_tree _ _ _ _ _) ?_
  simp only [unref_ref, toBool_bool, dA_2, els_sl, dP_int, Int.toNat_natCast, List.length_map, cell i hi, cell j hj]
  refine wp_br (fun h => ?_) (fun h => ?_)
  · refine wp_dec (by omega) (wp_dec (by omega) (wp_dec (by omega) (wp_dec (by omega) (wp_call ((grade_both d).1 _ _ (o j) (o i)) (wp_ret ?_)))))
    simp only [getD_c0, toInt_int, kk, if_pos h]
  · refine wp_dec (by omega) (wp_dec (by omega) (wp_dec (by omega) (wp_dec (by omega) (wp_call ((grade_both d).1 _ _ (o i) (o j)) (wp_ret ?_)))))
    simp only [getD_c0, toInt_int, kk, h]
    rfl

/-! Insertion. -/
theorem insertion_sp (A X B : List Nat) (hX : X.Pairwise (· < ·)) (hin : ∀ x ∈ X, x < a.cells.length) (hlen : A.length + X.length + B.length ≤ 100000) : Sp 138 [.sl ((A ++ X ++ B).map dP), .int (A.length : Int), .int ((A.length + X.length : Nat) : Int), gfn dn a] [.sl ((A ++ srt (kk d a.cells dn) X ++ B).map dP)] := by
  have hk := row_kk (dn := dn) ha
  generalize hkk : kk d a.cells dn = k at *
  refine sound_ 200000 (slices_insertionSortCmpFunc_int_tree_grade_Grade_2 _ _ _ _ _ _) ?_
  simp only [els_sl, toInt_int]
  -- the outer round: so many stand in their row
  have outer : ∀ (m t : Nat), t ≤ X.length → 1 ≤ t ∨ X.length = 0 → X.length - t < m → Tw (slices_insertionSortCmpFunc_int_l1 200000 m ((A ++ srt k (X.take t) ++ X.drop t ++ B).map dP) (A.length : Int) ((A.length + X.length : Nat) : Int) (gfn dn a) ((A.length + t : Nat) : Int)) [.sl ((A ++ srt k X ++ B).map dP)] := by
    intro m
    induction m with
    | zero => intro t _ _ h; omega
    | succ m ih =>
      intro t ht h1 hm
      simp only [slices_insertionSortCmpFunc_int_l1_succ_grade_Grade_2]
      by_cases he : t < X.length
      · refine wp_dec (by omega) ?_
        have hd : X.drop t = X[t] :: X.drop (t + 1) := List.drop_eq_getElem_cons he
        have hy : X[t] ∈ X := List.getElem_mem he
        have hyl := hin _ hy
        have htk : X.take (t + 1) = X.take t ++ [X[t]] := by rw [List.take_add_one, List.getElem?_eq_getElem he]; rfl
        have hlt : ∀ z ∈ X.take t, z < X[t] := fun z hz => by
          obtain ⟨j, hj, rfl⟩ := List.mem_iff_getElem.1 hz
          rw [List.length_take] at hj
          rw [List.getElem_take]
          exact List.pairwise_iff_getElem.1 hX j t (by omega) he (by omega)
        have hZs := srt_sorted hk (X.take t)
        have hZm : ∀ z ∈ srt k (X.take t), z < X[t] ∧ z < a.cells.length := fun z hz => ⟨hlt z (srt_mem.1 hz), hin z (List.mem_of_mem_take (srt_mem.1 hz))⟩
        have hZl : (srt k (X.take t)).length = t := by rw [srt_len, List.length_take]; omega
        have hZp := srt_perm k (X.take t)
        have nxt : ∀ Z, Z.Perm (X.take (t + 1)) → Z.Pairwise (leK k) → Tw (slices_insertionSortCmpFunc_int_l1 200000 m ((A ++ Z ++ X.drop (t + 1) ++ B).map dP) (A.length : Int) ((A.length + X.length : Nat) : Int) (gfn dn a) ((A.length + (t + 1) : Nat) : Int)) [.sl ((A ++ srt k X ++ B).map dP)] := fun Z h1 h2 => by
          rw [← srt_of hk h1 h2]
          exact ih (t + 1) (by omega) (by omega) (by omega)
        rw [hd]
        generalize X[t] = y at *
        generalize srt k (X.take t) = Z at *
        have hw : IntKind.wrap .i64 (((A.length + t : Nat) : Int) + 1) = ((A.length + (t + 1) : Nat) : Int) := by rw [wrap64 (by omega) (by omega)]; omega
        have inner := loop_down (P := Tryz.prog) (md := md) (fun q j (_ : Unit) => slices_insertionSortCmpFunc_int_l4 200000 m q ((A ++ Z.take j ++ y :: (Z.drop j ++ X.drop (t + 1) ++ B)).map dP) (A.length : Int) ((A.length + X.length : Nat) : Int) (gfn dn a) ((A.length + t : Nat) : Int) ((A.length + j : Nat) : Int)) (fun _ _ => [.sl ((A ++ srt k X ++ B).map dP)]) (fun j _ => j ≤ t ∧ ∀ z ∈ Z.drop j, ¬ leK k z y)
          (fun q s hI => by
            simp only [slices_insertionSortCmpFunc_int_l4_succ_grade_Grade_2, hw]
            refine wp_ndec (by omega) ?_
            have := nxt (y :: Z) (by rw [htk]; exact (hZp.cons y).trans (List.perm_append_singleton y _).symm) (List.pairwise_cons.2 ⟨fun z hz => leK_not hk (hI.2 z (by simpa using hz)), hZs⟩)
            simpa using this)
          (fun q j s hI ih' => by
            obtain ⟨hj, hd2⟩ := hI
            have hjl : j < Z.length := by omega
            have hz : Z[j] ∈ Z := List.getElem_mem hjl
            have e1 : Z.take (j + 1) = Z.take j ++ [Z[j]] := by rw [List.take_add_one, List.getElem?_eq_getElem hjl]; rfl
            have e2 : Z.drop j = Z[j] :: Z.drop (j + 1) := List.drop_eq_getElem_cons hjl
            have hzl := hZm _ hz
            have hsl := upto_last hk (z := y) hZs (List.getElem?_eq_getElem hjl)
            rw [e1]
            rw [e2] at ih'
            generalize Z[j] = z at *
            have tl : (Z.take j).length = j := by rw [List.length_take]; omega
            have hdl : (Z.drop (j + 1)).length = t - (j + 1) := by rw [List.length_drop]; omega
            have ed : A ++ (Z.take j ++ [z]) ++ y :: (Z.drop (j + 1) ++ X.drop (t + 1) ++ B) = (A ++ Z.take j) ++ z :: ([] ++ y :: (Z.drop (j + 1) ++ X.drop (t + 1) ++ B)) := by simp
            have w1 : IntKind.wrap .i64 (((A.length + (j + 1) : Nat) : Int) - 1) = ((A.length + j : Nat) : Int) := by rw [wrap64 (by omega) (by omega)]; omega
            have al : (A ++ Z.take j).length = A.length + j := by rw [List.length_append, tl]
            have bl : A.length + (t + 1) ≤ A.length + X.length := by omega
            have dl : (X.drop (t + 1)).length = X.length - (t + 1) := by rw [List.length_drop]
            rw [ed]
            simp only [slices_insertionSortCmpFunc_int_l4_succ_grade_Grade_2, w1, hw, Int.toNat_natCast, fnId_fn, fnCts_fn, fnDs_fn, List.cons_append, at_app (show A.length + j = (A ++ Z.take j).length from al.symm), at_app2 (M := []) (show A.length + (j + 1) = (A ++ Z.take j).length + 1 + ([] : List Nat).length by rw [al]; simp; omega), List.length_map, List.length_set]
            have hll : (A ++ Z.take j ++ z :: ([] ++ y :: (Z.drop (j + 1) ++ X.drop (t + 1) ++ B))).length = A.length + X.length + B.length := by simp only [List.length_append, List.length_cons, List.length_nil, tl, hdl, dl]; omega
            simp only [List.cons_append, List.nil_append] at hll
            simp only [List.nil_append, hll]
            refine wp_dec (by omega) (wp_dec (by omega) (wp_dec (by omega) (wp_dec (by omega) (wp_dec (by omega) (wp_call (gcmp_sp (dn := dn) ha hyl hzl.2) ?_)))))
            simp only [getD_c0, toInt_int, hkk]
            refine wp_decs (fun h => ?_) (fun h => ?_)
            · have hn := (leK_lt hk hzl.1).1 h
              refine wp_dec (by omega) (wp_dec (by omega) (wp_dec (by omega) (wp_dec (by omega) (wp_dec (by omega) (wp_dec (by omega) (wp_dec (by omega) (wp_dec (by omega) ?_)))))))
              have sw := swap_down (A := A ++ Z.take j) (M := []) (x := z) (y := y) (B := Z.drop (j + 1) ++ X.drop (t + 1) ++ B) (i := A.length + j) (j := A.length + (j + 1)) al.symm (by rw [al]; simp; omega)
              simp only [List.nil_append] at sw
              have sw2 : (((A ++ Z.take j ++ z :: y :: (Z.drop (j + 1) ++ X.drop (t + 1) ++ B)).map dP).set (A.length + (j + 1)) (D.int (dP z).toInt)).set (A.length + j) (D.int (dP y).toInt) = _ := sw
              rw [sw2]
              have := ih' () ⟨by omega, fun x hx => by
                rcases List.mem_cons.1 hx with rfl | hx
                · exact hn
                · exact hd2 x hx⟩
              simpa using this
            · have hp : leK k z y := Classical.not_not.1 (fun hh => h ((leK_lt hk hzl.1).2 hh))
              have := nxt (Z.take (j + 1) ++ y :: Z.drop (j + 1)) (by
                  rw [htk]
                  refine List.Perm.trans ?_ (hZp.append_right [y])
                  refine List.Perm.trans List.perm_middle ?_
                  rw [List.take_append_drop]
                  exact (List.perm_append_singleton y _).symm) (sorted_app (hZs.sublist (List.take_sublist _ _)) (List.pairwise_cons.2 ⟨fun x hx => leK_not hk (hd2 x hx), hZs.sublist (List.drop_sublist _ _)⟩) (fun x hx w hw => by
                  have h1 := hsl hp x hx
                  rcases List.mem_cons.1 hw with rfl | hw
                  · exact h1
                  · exact leK_trans hk h1 (leK_not hk (hd2 w hw))))
              rw [e1] at this
              simpa using this)
          200000 t () (by omega) ⟨Nat.le_refl _, fun z hz => by rw [List.drop_of_length_le (by omega)] at hz; cases hz⟩
        rw [List.take_of_length_le (by omega), List.drop_of_length_le (by omega)] at inner
        simpa using inner
      · refine wp_ndec (by omega) (wp_ret ?_)
        rw [List.take_of_length_le (by omega), List.drop_of_length_le (by omega)]
        simp
  by_cases h0 : X.length = 0
  · have hX0 := List.length_eq_zero_iff.1 h0
    subst hX0
    rw [wrap64 (by omega) (by simp at hlen; omega)]
    simp only [slices_insertionSortCmpFunc_int_l1_succ_grade_Grade_2]
    exact wp_ndec (by simp only [List.length_nil]; omega) (wp_ret (by simp [srt]))
  · have := outer 200000 1 (by omega) (by omega) (by omega)
    rw [srt_one (by rw [List.length_take]; omega)] at this
    rw [show A ++ X.take 1 ++ X.drop 1 ++ B = A ++ X ++ B by rw [List.append_assoc A, List.take_append_drop]] at this
    rw [show IntKind.wrap .i64 ((A.length : Int) + 1) = ((A.length + 1 : Nat) : Int) by rw [wrap64 (by omega) (by omega)]; rfl]
    exact this
/-! Turning two stretches round. -/
omit ha in
theorem swapRange_sp (A U M V B : List Nat) (n : Nat) (hu : U.length = n) (hv : V.length = n) (hlen : A.length + n + M.length + n + B.length ≤ 100000) : Sp 168 [.sl ((A ++ U ++ M ++ V ++ B).map dP), .int (A.length : Int), .int ((A.length + n + M.length : Nat) : Int), .int (n : Int), gfn dn a] [.sl ((A ++ V ++ M ++ U ++ B).map dP)] := by
  refine sound_ 200000 (slices_swapRangeCmpFunc_int_tree_grade_Grade_2 _ _ _ _ _ _ _) ?_
  simp only [els_sl, toInt_int]
  have key := loop_up (P := Tryz.prog) (md := md) n (fun m i (_ : Unit) => slices_swapRangeCmpFunc_int_l1 200000 m ((A ++ (V.take i ++ U.drop i) ++ M ++ (U.take i ++ V.drop i) ++ B).map dP) (A.length : Int) ((A.length + n + M.length : Nat) : Int) (n : Int) (i : Int)) (fun _ _ => [.sl ((A ++ V ++ M ++ U ++ B).map dP)]) (fun _ _ => True)
    (fun m s _ => by
      simp only [slices_swapRangeCmpFunc_int_l1_succ]
      refine wp_ndec (by omega) (wp_ret ?_)
      rw [List.take_of_length_le (by omega), List.take_of_length_le (by omega), List.drop_of_length_le (by omega), List.drop_of_length_le (by omega)]
      simp)
    (fun m i s hi _ ih => by
      have ih := ih () trivial
      have e1 : U.take (i + 1) = U.take i ++ [U[i]'(by omega)] := by rw [List.take_add_one, List.getElem?_eq_getElem (by omega)]; rfl
      have e2 : V.take (i + 1) = V.take i ++ [V[i]'(by omega)] := by rw [List.take_add_one, List.getElem?_eq_getElem (by omega)]; rfl
      have e3 : U.drop i = U[i]'(by omega) :: U.drop (i + 1) := List.drop_eq_getElem_cons (by omega)
      have e4 : V.drop i = V[i]'(by omega) :: V.drop (i + 1) := List.drop_eq_getElem_cons (by omega)
      rw [e1, e2] at ih
      rw [e3, e4]
      generalize U[i]'(by omega) = u at *
      generalize V[i]'(by omega) = v at *
      have t1 : (V.take i).length = i := by rw [List.length_take]; omega
      have t2 : (U.take i).length = i := by rw [List.length_take]; omega
      have t3 : (U.drop (i + 1)).length = n - (i + 1) := by rw [List.length_drop]; omega
      have t4 : (V.drop (i + 1)).length = n - (i + 1) := by rw [List.length_drop]; omega
      have al : (A ++ V.take i).length = A.length + i := by rw [List.length_append, t1]
      have ml : (U.drop (i + 1) ++ M ++ U.take i).length = n - 1 + M.length := by simp only [List.length_append, t3, t2]; omega
      have ed : A ++ (V.take i ++ u :: U.drop (i + 1)) ++ M ++ (U.take i ++ v :: V.drop (i + 1)) ++ B = (A ++ V.take i) ++ u :: ((U.drop (i + 1) ++ M ++ U.take i) ++ v :: (V.drop (i + 1) ++ B)) := by simp
      have hll : ((A ++ V.take i) ++ u :: ((U.drop (i + 1) ++ M ++ U.take i) ++ v :: (V.drop (i + 1) ++ B))).length = A.length + n + M.length + n + B.length := by rw [List.length_append, al, List.length_cons, List.length_append, ml, List.length_cons, List.length_append, t4]; omega
      have w1 : IntKind.wrap .i64 (((A.length + n + M.length : Nat) : Int) + (i : Int)) = ((A.length + n + M.length + i : Nat) : Int) := by rw [wrap64 (by omega) (by omega)]; omega
      have w2 : IntKind.wrap .i64 ((A.length : Int) + (i : Int)) = ((A.length + i : Nat) : Int) := by rw [wrap64 (by omega) (by omega)]; omega
      rw [ed]
      have sw := swap_up (A := A ++ V.take i) (M := U.drop (i + 1) ++ M ++ U.take i) (x := u) (y := v) (B := V.drop (i + 1) ++ B) (i := A.length + i) (j := A.length + n + M.length + i) al.symm (by rw [al, ml]; omega)
      simp only [slices_swapRangeCmpFunc_int_l1_succ, w1, w2, Int.toNat_natCast, at_app (show A.length + i = (A ++ V.take i).length from al.symm), at_app2 (show A.length + n + M.length + i = (A ++ V.take i).length + 1 + (U.drop (i + 1) ++ M ++ U.take i).length by rw [al, ml]; omega), List.length_map, List.length_set, hll, wrap_succ (show i < 9223372036854775807 by omega)]
      have sw2 : ((((A ++ V.take i) ++ u :: ((U.drop (i + 1) ++ M ++ U.take i) ++ v :: (V.drop (i + 1) ++ B))).map dP).set (A.length + i) (D.int (dP v).toInt)).set (A.length + n + M.length + i) (D.int (dP u).toInt) = _ := sw
      rw [sw2]
      refine wp_dec (by omega) (wp_dec (by omega) (wp_dec (by omega) (wp_dec (by omega) (wp_dec (by omega) (wp_dec (by omega) (wp_dec (by omega) (wp_dec (by omega) (wp_dec (by omega) ?_))))))))
      simpa using ih)
    200000 0 () (by omega) (by omega) trivial
  simpa using key
omit ha in
theorem rotate_sp (A X Y B : List Nat) (hx : 1 ≤ X.length) (hy : 1 ≤ Y.length) (hlen : A.length + X.length + Y.length + B.length ≤ 100000) : Sp 158 [.sl ((A ++ X ++ Y ++ B).map dP), .int (A.length : Int), .int ((A.length + X.length : Nat) : Int), .int ((A.length + X.length + Y.length : Nat) : Int), gfn dn a] [.sl ((A ++ Y ++ X ++ B).map dP)] := by
  refine sound_ 200000 (slices_rotateCmpFunc_int_tree_grade_Grade_2 _ _ _ _ _ _ _) ?_
  simp only [els_sl, toInt_int]
  have key : ∀ (m : Nat) (mm : Nat) (A U V B : List Nat), U.length + V.length < m → 1 ≤ U.length → 1 ≤ V.length → A.length + U.length = mm → A.length + U.length + V.length + B.length ≤ 100000 → Tw (slices_rotateCmpFunc_int_l2 200000 m ((A ++ U ++ V ++ B).map dP) (mm : Int) (gfn dn a) (U.length : Int) (V.length : Int)) [.sl ((A ++ V ++ U ++ B).map dP)] := by
    intro m
    induction m with
    | zero => intro mm A U V B h; omega
    | succ m ih =>
      intro mm A U V B hm h1 h2 hmm hl
      simp only [slices_rotateCmpFunc_int_l2_succ_grade_Grade_2, int_bne]
      have w1 : IntKind.wrap .i64 ((mm : Int) - (U.length : Int)) = (A.length : Int) := by rw [wrap64 (by omega) (by omega)]; omega
      rw [w1]
      refine wp_decs (fun hne => wp_decs (fun hlt => ?_) (fun hlt => ?_)) (fun he => ?_)
      · -- the first is longer
        have hsp := swapRange_sp (dn := dn) (a := a) A (U.take V.length) (U.drop V.length) V B V.length (by rw [List.length_take]; omega) rfl (by rw [List.length_drop]; omega)
        rw [show A ++ U.take V.length ++ U.drop V.length ++ V ++ B = A ++ U ++ V ++ B by rw [List.append_assoc A, List.take_append_drop]] at hsp
        rw [show A.length + V.length + (U.drop V.length).length = mm by rw [List.length_drop]; omega] at hsp
        refine wp_call hsp ?_
        have := ih mm (A ++ V) (U.drop V.length) (U.take V.length) B (by rw [List.length_drop, List.length_take]; omega) (by rw [List.length_drop]; omega) (by rw [List.length_take]; omega) (by rw [List.length_append, List.length_drop]; omega) (by rw [List.length_append, List.length_drop, List.length_take]; omega)
        rw [show (A ++ V) ++ U.take V.length ++ U.drop V.length ++ B = A ++ V ++ U ++ B by rw [List.append_assoc (A ++ V), List.take_append_drop]] at this
        rw [show (U.drop V.length).length = U.length - V.length by rw [List.length_drop], show (U.take V.length).length = V.length by rw [List.length_take]; omega] at this
        rw [show IntKind.wrap .i64 ((U.length : Int) - (V.length : Int)) = ((U.length - V.length : Nat) : Int) by rw [wrap64 (by omega) (by omega)]; omega]
        exact this
      · have hq : U.length < V.length := by omega
        have hsp := swapRange_sp (dn := dn) (a := a) A U (V.take (V.length - U.length)) (V.drop (V.length - U.length)) B U.length rfl (by rw [List.length_drop]; omega) (by rw [List.length_take]; omega)
        rw [show A ++ U ++ V.take (V.length - U.length) ++ V.drop (V.length - U.length) ++ B = A ++ U ++ V ++ B by rw [List.append_assoc (A ++ U), List.take_append_drop]] at hsp
        rw [show A.length + U.length + (V.take (V.length - U.length)).length = mm + V.length - U.length by rw [List.length_take]; omega] at hsp
        rw [show IntKind.wrap .i64 ((IntKind.wrap .i64 ((mm : Int) + (V.length : Int))) - (U.length : Int)) = ((mm + V.length - U.length : Nat) : Int) by rw [wrap64 (x := (mm : Int) + (V.length : Int)) (by omega) (by omega), wrap64 (by omega) (by omega)]; omega]
        refine wp_call hsp ?_
        have := ih mm A (V.drop (V.length - U.length)) (V.take (V.length - U.length)) (U ++ B) (by rw [List.length_drop, List.length_take]; omega) (by rw [List.length_drop]; omega) (by rw [List.length_take]; omega) (by rw [List.length_drop]; omega) (by rw [List.length_append, List.length_drop, List.length_take]; omega)
        rw [show A ++ V.take (V.length - U.length) ++ V.drop (V.length - U.length) ++ (U ++ B) = A ++ V ++ U ++ B by rw [List.append_assoc A, List.take_append_drop]; simp] at this
        rw [show A ++ V.drop (V.length - U.length) ++ V.take (V.length - U.length) ++ (U ++ B) = A ++ V.drop (V.length - U.length) ++ V.take (V.length - U.length) ++ U ++ B by simp] at this
        rw [show (V.drop (V.length - U.length)).length = U.length by rw [List.length_drop]; omega, show (V.take (V.length - U.length)).length = V.length - U.length by rw [List.length_take]; omega] at this
        rw [show IntKind.wrap .i64 ((V.length : Int) - (U.length : Int)) = ((V.length - U.length : Nat) : Int) by rw [wrap64 (by omega) (by omega)]; omega]
        exact this
      · have he : U.length = V.length := by omega
        have hsp := swapRange_sp (dn := dn) (a := a) A U [] V B U.length rfl he.symm (by simp; omega)
        simp only [List.append_nil, List.length_nil, Nat.add_zero, hmm] at hsp
        exact wp_call hsp (wp_ret rfl)
  rw [show IntKind.wrap .i64 (((A.length + X.length : Nat) : Int) - (A.length : Int)) = (X.length : Int) by rw [wrap64 (by omega) (by omega)]; omega, show IntKind.wrap .i64 (((A.length + X.length + Y.length : Nat) : Int) - ((A.length + X.length : Nat) : Int)) = (Y.length : Int) by rw [wrap64 (by omega) (by omega)]; omega]
  exact key 200000 _ A X Y B (by omega) hx hy rfl hlen
end
end Go.Proofs.YtbgcadcpeabpgaaGreat
set_option maxRecDepth 100000
namespace Go.Proofs.YtbgcadcpeabpgaaGreat
theorem of_nott {p : Prop} {i : Decidable p} (h : (!(@decide p i)) = true) : ¬ p := by
  cases h' : @decide p i
  · exact of_decide_eq_false h'
  · rw [h'] at h; cases h
theorem of_notf {p : Prop} {i : Decidable p} (h : (!(@decide p i)) = false) : p := by
  cases h' : @decide p i
  · rw [h'] at h; cases h
  · exact of_decide_eq_true h'
theorem get_in {A Y B : List Nat} {t i : Nat} {y : Nat} (h : Y[t]? = some y) (hi : i = A.length + t) : ((A ++ Y ++ B).map dP).getD i D.nil = dP y := by
  obtain ⟨ht, rfl⟩ := List.getElem?_eq_some_iff.1 h
  subst hi
  rw [List.getD_eq_getElem?_getD, List.getElem?_map, List.append_assoc, List.getElem?_append_right (by omega), Nat.add_sub_cancel_left, List.getElem?_append_left ht, List.getElem?_eq_getElem ht]
  rfl
theorem take_succ' {l : List Nat} {t : Nat} (h : t < l.length) : l.take (t + 1) = l.take t ++ [l[t]] := by rw [List.take_add_one, List.getElem?_eq_getElem h]; rfl
section
variable {d : Nat} {a : Arr} {dn : Bool} (ha : ∀ c ∈ a.cells, rightC d c = true)
include ha
theorem sym_left (A : List Nat) (x : Nat) (Y B : List Nat) (hY : Y.Pairwise (leK (kk d a.cells dn))) (hlt : ∀ y ∈ Y, x < y) (hx : x < a.cells.length) (hin : ∀ y ∈ Y, y < a.cells.length) (hlen : A.length + 1 + Y.length + B.length ≤ 100000) :
    ∀ m u v, v - u < m → u ≤ v → v ≤ Y.length → (∀ y ∈ Y.take u, leK (kk d a.cells dn) y x) → (∀ y ∈ Y.drop v, leK (kk d a.cells dn) x y) → Tw (slices_symMergeCmpFunc_int_l3 200000 m ((A ++ [x] ++ Y ++ B).map dP) (A.length : Int) (gfn dn a) ((A.length + 1 + u : Nat) : Int) ((A.length + 1 + v : Nat) : Int)) [.sl ((A ++ srt (kk d a.cells dn) ([x] ++ Y) ++ B).map dP)] := by
  have hk := row_kk (dn := dn) ha
  intro m
  induction m with
  | zero => intro u v h; omega
  | succ m ih =>
    intro u v hm huv hv h1 h2
    have hll : (A ++ [x] ++ Y ++ B).length = A.length + 1 + Y.length + B.length := by simp only [List.length_append, List.length_cons, List.length_nil]
    simp only [slices_symMergeCmpFunc_int_l3_succ_grade_Grade_2]
    rw [half_eq (by omega)]
    by_cases he : u < v
    · have hh : (A.length + 1 + u + (A.length + 1 + v)) / 2 = A.length + 1 + (u + v) / 2 := by omega
      rw [hh]
      obtain ⟨h, hdef⟩ : ∃ h, h = (u + v) / 2 := ⟨_, rfl⟩
      rw [← hdef]
      have b1 : u ≤ h := by omega
      have b2 : h < v := by omega
      have hy : Y[h]? = some (Y[h]'(by omega)) := List.getElem?_eq_getElem (by omega)
      have hmem : Y[h]'(by omega) ∈ Y := List.getElem_mem _
      generalize Y[h]'(by omega) = y at *
      have gy : ((A ++ [x] ++ Y ++ B).map dP).getD (A.length + 1 + h) D.nil = dP y := get_in (A := A ++ [x]) hy (by simp)
      have gx : ((A ++ [x] ++ Y ++ B).map dP).getD A.length D.nil = dP x := by
        have := get_in (A := A) (Y := [x]) (B := Y ++ B) (t := 0) (i := A.length) (y := x) rfl rfl
        rw [List.append_assoc (A ++ [x])]
        exact this
      simp only [Int.toNat_natCast, gy, gx, fnId_fn, fnCts_fn, fnDs_fn, List.cons_append, List.nil_append, List.length_map]
      simp only [List.cons_append, List.nil_append, List.append_assoc] at hll
      simp only [List.cons_append, List.nil_append, List.append_assoc, hll]
      refine wp_dec (by omega) (wp_dec (by omega) (wp_dec (by omega) (wp_dec (by omega) (wp_dec (by omega) (wp_dec (by omega) (wp_call (gcmp_sp (dn := dn) ha (hin y hmem) hx) ?_))))))
      simp only [getD_c0, toInt_int]
      have w : IntKind.wrap .i64 (((A.length + 1 + h : Nat) : Int) + 1) = ((A.length + 1 + (h + 1) : Nat) : Int) := by rw [wrap64 (by omega) (by omega)]; omega
      rw [w]
      have e1 := ih (h + 1) v (by omega) (by omega) hv
      have e2 := ih u h (by omega) b1 (by omega) h1
      simp only [List.cons_append, List.nil_append, List.append_assoc] at e1 e2
      refine wp_decs (fun g => ?_) (fun g => ?_)
      · have := leK_not hk ((leK_lt hk (hlt y hmem)).1 g)
        exact e1 (upto_last hk hY hy this) h2
      · have : leK (kk d a.cells dn) x y := Classical.not_not.1 (fun hh => g ((leK_lt hk (hlt y hmem)).2 hh))
        exact e2 (from_first hk hY hy this)
    · have : u = v := by omega
      subst this
      refine wp_ndec (by omega) ?_
      have hs : srt (kk d a.cells dn) ([x] ++ Y) = Y.take u ++ x :: Y.drop u := srt_of hk (by
          refine List.Perm.trans List.perm_middle ?_
          rw [List.take_append_drop]; exact List.Perm.refl _) (sorted_app (hY.sublist (List.take_sublist _ _)) (List.pairwise_cons.2 ⟨h2, hY.sublist (List.drop_sublist _ _)⟩) (fun y hy z hz => by
          rcases List.mem_cons.1 hz with rfl | hz
          · exact h1 y hy
          · exact leK_trans hk (h1 y hy) (h2 z hz)))
      rw [hs]
      have key := loop_up (P := Tryz.prog) (md := md) u (fun q i (_ : Unit) => slices_symMergeCmpFunc_int_l9 200000 q ((A ++ Y.take i ++ x :: (Y.drop i ++ B)).map dP) ((A.length + 1 + u : Nat) : Int) ((A.length + i : Nat) : Int)) (fun _ _ => [.sl ((A ++ (Y.take u ++ x :: Y.drop u) ++ B).map dP)]) (fun _ _ => True)
        (fun q s _ => by
          have w : IntKind.wrap .i64 (((A.length + 1 + u : Nat) : Int) - 1) = ((A.length + u : Nat) : Int) := by rw [wrap64 (by omega) (by omega)]; omega
          simp only [slices_symMergeCmpFunc_int_l9_succ, w]
          refine wp_ndec (by omega) (wp_ret ?_)
          simp)
        (fun q i s hi _ ih' => by
          have ih' := ih' () trivial
          have hil : i < Y.length := by omega
          rw [take_succ' hil] at ih'
          have e4 : Y.drop i = Y[i] :: Y.drop (i + 1) := List.drop_eq_getElem_cons hil
          rw [e4]
          generalize Y[i] = y at *
          have t1 : (Y.take i).length = i := by rw [List.length_take]; omega
          have t4 : (Y.drop (i + 1)).length = Y.length - (i + 1) := by rw [List.length_drop]
          have al : (A ++ Y.take i).length = A.length + i := by rw [List.length_append, t1]
          have w : IntKind.wrap .i64 (((A.length + 1 + u : Nat) : Int) - 1) = ((A.length + u : Nat) : Int) := by rw [wrap64 (by omega) (by omega)]; omega
          have w2 : IntKind.wrap .i64 (((A.length + i : Nat) : Int) + 1) = ((A.length + i + 1 : Nat) : Int) := by rw [wrap64 (by omega) (by omega)]; omega
          have hll2 : (A ++ Y.take i ++ x :: (y :: Y.drop (i + 1) ++ B)).length = A.length + 1 + Y.length + B.length := by rw [List.length_append, al, List.length_cons, List.length_append, List.length_cons, t4]; omega
          have sw := swap_up (A := A ++ Y.take i) (M := []) (x := x) (y := y) (B := Y.drop (i + 1) ++ B) (i := A.length + i) (j := A.length + i + 1) al.symm (by rw [al]; rfl)
          have g1 := at_app (A := A ++ Y.take i) (x := x) (B := y :: Y.drop (i + 1) ++ B) (i := A.length + i) al.symm
          have g2 := at_app2 (A := A ++ Y.take i) (M := []) (x := x) (y := y) (B := Y.drop (i + 1) ++ B) (i := A.length + i + 1) (by rw [al]; rfl)
          simp only [List.nil_append] at sw g2
          simp only [List.cons_append] at hll2 g1
          simp only [List.cons_append]
          simp only [slices_symMergeCmpFunc_int_l9_succ, w, w2, Int.toNat_natCast, g1, g2, List.length_map, List.length_set, hll2]
          have sw2 : (((A ++ Y.take i ++ x :: y :: (Y.drop (i + 1) ++ B)).map dP).set (A.length + i) (D.int (dP y).toInt)).set (A.length + i + 1) (D.int (dP x).toInt) = _ := sw
          rw [sw2]
          refine wp_dec (by omega) (wp_dec (by omega) (wp_dec (by omega) (wp_dec (by omega) (wp_dec (by omega) (wp_dec (by omega) (wp_dec (by omega) (wp_dec (by omega) (wp_dec (by omega) ?_))))))))
          simpa [Nat.add_assoc] using ih')
        200000 0 () (by omega) (by omega) trivial
      simpa using key
theorem sym_right (A X : List Nat) (y : Nat) (B : List Nat) (hX : X.Pairwise (leK (kk d a.cells dn))) (hlt : ∀ x ∈ X, x < y) (hy : y < a.cells.length) (hin : ∀ x ∈ X, x < a.cells.length) (hlen : A.length + X.length + 1 + B.length ≤ 100000) :
    ∀ m u v, v - u < m → u ≤ v → v ≤ X.length → (∀ x ∈ X.take u, leK (kk d a.cells dn) x y) → (∀ x ∈ X.drop v, leK (kk d a.cells dn) y x) → Tw (slices_symMergeCmpFunc_int_l15 200000 m ((A ++ X ++ [y] ++ B).map dP) ((A.length + X.length : Nat) : Int) (gfn dn a) ((A.length + u : Nat) : Int) ((A.length + v : Nat) : Int)) [.sl ((A ++ srt (kk d a.cells dn) (X ++ [y]) ++ B).map dP)] := by
  have hk := row_kk (dn := dn) ha
  intro m
  induction m with
  | zero => intro u v h; omega
  | succ m ih =>
    intro u v hm huv hv h1 h2
    have hll : (A ++ X ++ [y] ++ B).length = A.length + X.length + 1 + B.length := by simp only [List.length_append, List.length_cons, List.length_nil]
    simp only [slices_symMergeCmpFunc_int_l15_succ_grade_Grade_2]
    rw [half_eq (by omega)]
    by_cases he : u < v
    · have hh : (A.length + u + (A.length + v)) / 2 = A.length + (u + v) / 2 := by omega
      rw [hh]
      obtain ⟨h, hdef⟩ : ∃ h, h = (u + v) / 2 := ⟨_, rfl⟩
      rw [← hdef]
      have b1 : u ≤ h := by omega
      have b2 : h < v := by omega
      have hx : X[h]? = some (X[h]'(by omega)) := List.getElem?_eq_getElem (by omega)
      have hmem : X[h]'(by omega) ∈ X := List.getElem_mem _
      generalize X[h]'(by omega) = x at *
      have gx : ((A ++ X ++ [y] ++ B).map dP).getD (A.length + h) D.nil = dP x := by
        have := get_in (A := A) (Y := X) (B := [y] ++ B) (i := A.length + h) hx rfl
        rw [List.append_assoc (A ++ X)]
        exact this
      have gy : ((A ++ X ++ [y] ++ B).map dP).getD (A.length + X.length) D.nil = dP y := get_in (A := A ++ X) (Y := [y]) (t := 0) (y := y) rfl (by simp)
      simp only [Int.toNat_natCast, gy, gx, fnId_fn, fnCts_fn, fnDs_fn, List.cons_append, List.nil_append, List.length_map, hll]
      refine wp_dec (by omega) (wp_dec (by omega) (wp_dec (by omega) (wp_dec (by omega) (wp_dec (by omega) (wp_dec (by omega) (wp_call (gcmp_sp (dn := dn) ha hy (hin x hmem)) ?_))))))
      simp only [getD_c0, toInt_int, not_dec]
      have w : IntKind.wrap .i64 (((A.length + h : Nat) : Int) + 1) = ((A.length + (h + 1) : Nat) : Int) := by rw [wrap64 (by omega) (by omega)]; omega
      rw [w]
      refine wp_br (fun g => ?_) (fun g => ?_)
      · have g : ¬ kk d a.cells dn y x < 0 := of_nott g
        have : leK (kk d a.cells dn) x y := Classical.not_not.1 (fun hh => g ((leK_lt hk (hlt x hmem)).2 hh))
        exact ih (h + 1) v (by omega) (by omega) hv (upto_last hk hX hx this) h2
      · have := leK_not hk ((leK_lt hk (hlt x hmem)).1 (of_notf g))
        exact ih u h (by omega) b1 (by omega) h1 (from_first hk hX hx this)
    · have : u = v := by omega
      subst this
      refine wp_ndec (by omega) ?_
      have hs : srt (kk d a.cells dn) (X ++ [y]) = X.take u ++ y :: X.drop u := srt_of hk (by
          refine List.Perm.trans List.perm_middle ?_
          rw [List.take_append_drop]; exact (List.perm_append_singleton y _).symm) (sorted_app (hX.sublist (List.take_sublist _ _)) (List.pairwise_cons.2 ⟨h2, hX.sublist (List.drop_sublist _ _)⟩) (fun x hx z hz => by
          rcases List.mem_cons.1 hz with rfl | hz
          · exact h1 x hx
          · exact leK_trans hk (h1 x hx) (h2 z hz)))
      rw [hs]
      have key := loop_down (P := Tryz.prog) (md := md) (fun q j (_ : Unit) => slices_symMergeCmpFunc_int_l21 200000 q ((A ++ X.take (u + j) ++ y :: (X.drop (u + j) ++ B)).map dP) ((A.length + u : Nat) : Int) ((A.length + (u + j) : Nat) : Int)) (fun _ _ => [.sl ((A ++ (X.take u ++ y :: X.drop u) ++ B).map dP)]) (fun j _ => u + j ≤ X.length)
        (fun q s _ => by
          simp only [slices_symMergeCmpFunc_int_l21_succ]
          refine wp_ndec (by omega) (wp_ret ?_)
          simp)
        (fun q j s hj ih' => by
          have ih' := ih' () (by omega)
          have hil : u + j < X.length := by omega
          have e4 : X.drop (u + j) = X[u + j] :: X.drop (u + (j + 1)) := List.drop_eq_getElem_cons hil
          rw [e4] at ih'
          have e5 : X.take (u + (j + 1)) = X.take (u + j) ++ [X[u + j]] := take_succ' hil
          rw [e5]
          generalize X[u + j] = x at *
          have t1 : (X.take (u + j)).length = u + j := by rw [List.length_take]; omega
          have t4 : (X.drop (u + (j + 1))).length = X.length - (u + (j + 1)) := by rw [List.length_drop]
          have al : (A ++ X.take (u + j)).length = A.length + (u + j) := by rw [List.length_append, t1]
          have w2 : IntKind.wrap .i64 (((A.length + (u + (j + 1)) : Nat) : Int) - 1) = ((A.length + (u + j) : Nat) : Int) := by rw [wrap64 (by omega) (by omega)]; omega
          have ed : A ++ (X.take (u + j) ++ [x]) ++ y :: (X.drop (u + (j + 1)) ++ B) = A ++ X.take (u + j) ++ x :: y :: (X.drop (u + (j + 1)) ++ B) := by simp
          have hll2 : (A ++ X.take (u + j) ++ x :: y :: (X.drop (u + (j + 1)) ++ B)).length = A.length + X.length + 1 + B.length := by rw [List.length_append, al, List.length_cons, List.length_cons, List.length_append, t4]; omega
          have sw := swap_down (A := A ++ X.take (u + j)) (M := []) (x := x) (y := y) (B := X.drop (u + (j + 1)) ++ B) (i := A.length + (u + j)) (j := A.length + (u + (j + 1))) al.symm (by rw [al]; simp; omega)
          have g1 := at_app (A := A ++ X.take (u + j)) (x := x) (B := y :: (X.drop (u + (j + 1)) ++ B)) (i := A.length + (u + j)) al.symm
          have g2 := at_app2 (A := A ++ X.take (u + j)) (M := []) (x := x) (y := y) (B := X.drop (u + (j + 1)) ++ B) (i := A.length + (u + (j + 1))) (by rw [al]; simp; omega)
          simp only [List.nil_append] at sw g2
          rw [ed]
          simp only [slices_symMergeCmpFunc_int_l21_succ, w2, Int.toNat_natCast, g1, g2, List.length_map, List.length_set, hll2]
          have sw2 : (((A ++ X.take (u + j) ++ x :: y :: (X.drop (u + (j + 1)) ++ B)).map dP).set (A.length + (u + (j + 1))) (D.int (dP x).toInt)).set (A.length + (u + j)) (D.int (dP y).toInt) = _ := sw
          rw [sw2]
          refine wp_dec (by omega) (wp_dec (by omega) (wp_dec (by omega) (wp_dec (by omega) (wp_dec (by omega) (wp_dec (by omega) (wp_dec (by omega) (wp_dec (by omega) (wp_dec (by omega) ?_))))))))
          simpa using ih')
        200000 (X.length - u) () (by omega) (by omega)
      rw [show u + (X.length - u) = X.length by omega, List.take_of_length_le (Nat.le_refl _), List.drop_of_length_le (Nat.le_refl _)] at key
      simpa using key
omit ha in
theorem cross {k : Nat → Nat → Int} {l : List Nat} {t : Nat} (h : l.Pairwise (leK k)) : ∀ x ∈ l.take t, ∀ y ∈ l.drop t, leK k x y := by
  rw [← List.take_append_drop t l] at h
  exact (List.pairwise_append.1 h).2.2
theorem symMerge_sp : ∀ (N : Nat) (A X Y B : List Nat), X.length + Y.length ≤ N → 1 ≤ X.length → 1 ≤ Y.length → A.length + X.length + Y.length + B.length ≤ 100000 → (∀ x ∈ X, x < a.cells.length) → (∀ y ∈ Y, y < a.cells.length) → X.Pairwise (leK (kk d a.cells dn)) → Y.Pairwise (leK (kk d a.cells dn)) → (∀ x ∈ X, ∀ y ∈ Y, x < y) →
    Sp 139 [.sl ((A ++ X ++ Y ++ B).map dP), .int (A.length : Int), .int ((A.length + X.length : Nat) : Int), .int ((A.length + X.length + Y.length : Nat) : Int), gfn dn a] [.sl ((A ++ srt (kk d a.cells dn) (X ++ Y) ++ B).map dP)] := by
  have hk := row_kk (dn := dn) ha
  intro N
  induction N with
  | zero => intro A X Y B h h1; omega
  | succ N IH =>
    intro A X Y B hN hx1 hy1 hlen hXin hYin hX hY hlt
    refine sound_ 200000 (slices_symMergeCmpFunc_int_tree_grade_Grade_2 _ _ _ _ _ _ _) ?_
    simp only [els_sl, toInt_int]
    have w1 : IntKind.wrap .i64 (((A.length + X.length : Nat) : Int) - (A.length : Int)) = (X.length : Int) := by rw [wrap64 (by omega) (by omega)]; omega
    have w2 : IntKind.wrap .i64 (((A.length + X.length + Y.length : Nat) : Int) - ((A.length + X.length : Nat) : Int)) = (Y.length : Int) := by rw [wrap64 (by omega) (by omega)]; omega
    rw [w1, w2]
    simp only [int_beq]
    refine wp_decs (fun hX1 => ?_) (fun hX1 => ?_)
    · obtain ⟨x, rfl⟩ := len_one (l := X) (by omega)
      have := sym_left (dn := dn) ha A x Y B hY (fun y hy => hlt x (by simp) y hy) (hXin x (by simp)) hYin (by simpa using hlen) 200000 0 Y.length (by omega) (by omega) (by omega) (by simp) (by simp)
      exact this
    refine wp_decs (fun hY1 => ?_) (fun hY1 => ?_)
    · obtain ⟨y, rfl⟩ := len_one (l := Y) (by omega)
      have := sym_right (dn := dn) ha A X y B hX (fun x hx => hlt x hx y (by simp)) (hYin y (by simp)) hXin (by simpa using hlen) 200000 0 X.length (by omega) (by omega) (by omega) (by simp) (by simp)
      exact this
    have w0 := half_eq (i := A.length) (j := A.length + X.length + Y.length) (by omega)
    obtain ⟨q, hq⟩ : ∃ q, q = (X.length + Y.length) / 2 := ⟨_, rfl⟩
    rw [show (A.length + (A.length + X.length + Y.length)) / 2 = A.length + q by omega] at w0
    simp only [w0]
    have w3 : IntKind.wrap .i64 (((A.length + q : Nat) : Int) + ((A.length + X.length : Nat) : Int)) = ((A.length + q + (A.length + X.length) : Nat) : Int) := by rw [wrap64 (by omega) (by omega)]; omega
    have w4 : IntKind.wrap .i64 (((A.length + q + (A.length + X.length) : Nat) : Int) - 1) = ((A.length + q + (A.length + X.length) - 1 : Nat) : Int) := by rw [wrap64 (by omega) (by omega)]; omega
    simp only [w3, w4]
    -- the search, and what is behind it
    have search : ∀ (t0 t1 : Nat), t1 ≤ X.length → t1 ≤ q → q ≤ t0 + Y.length → ∀ m s r, r - s < m → t0 ≤ s → s ≤ r → r ≤ t1 → (∀ x ∈ X.take s, ∀ y ∈ Y.drop (q - s), leK (kk d a.cells dn) x y) → (∀ y ∈ Y.take (q - r), ∀ x ∈ X.drop r, leK (kk d a.cells dn) y x) →
        Tw (slices_symMergeCmpFunc_int_l33 200000 m ((A ++ X ++ Y ++ B).map dP) (A.length : Int) ((A.length + X.length : Nat) : Int) ((A.length + X.length + Y.length : Nat) : Int) (gfn dn a) ((A.length + q : Nat) : Int) ((A.length + q + (A.length + X.length) : Nat) : Int) ((A.length + s : Nat) : Int) ((A.length + r : Nat) : Int) ((A.length + q + (A.length + X.length) - 1 : Nat) : Int)) [.sl ((A ++ srt (kk d a.cells dn) (X ++ Y) ++ B).map dP)] := by
      intro t0 t1 ht1 ht1' ht0 m
      induction m with
      | zero => intro s r h; omega
      | succ m ih =>
        intro s r hm hs0 hsr hr1 inv1 inv2
        simp only [slices_symMergeCmpFunc_int_l33_succ_grade_Grade_2]
        rw [half_eq (by omega)]
        by_cases he : s < r
        · rw [show (A.length + s + (A.length + r)) / 2 = A.length + (s + r) / 2 by omega]
          obtain ⟨h, hdef⟩ : ∃ h, h = (s + r) / 2 := ⟨_, rfl⟩
          rw [← hdef]
          have b1 : s ≤ h := by omega
          have b2 : h < r := by omega
          have hx : X[h]? = some (X[h]'(by omega)) := List.getElem?_eq_getElem (by omega)
          have hxm : X[h]'(by omega) ∈ X := List.getElem_mem _
          have hy : Y[q - 1 - h]? = some (Y[q - 1 - h]'(by omega)) := List.getElem?_eq_getElem (by omega)
          have hym : Y[q - 1 - h]'(by omega) ∈ Y := List.getElem_mem _
          generalize X[h]'(by omega) = x at *
          generalize Y[q - 1 - h]'(by omega) = y at *
          have w5 : IntKind.wrap .i64 (((A.length + q + (A.length + X.length) - 1 : Nat) : Int) - ((A.length + h : Nat) : Int)) = ((A.length + X.length + (q - 1 - h) : Nat) : Int) := by rw [wrap64 (by omega) (by omega)]; omega
          have w6 : IntKind.wrap .i64 (((A.length + h : Nat) : Int) + 1) = ((A.length + (h + 1) : Nat) : Int) := by rw [wrap64 (by omega) (by omega)]; omega
          have gx : ((A ++ X ++ Y ++ B).map dP).getD (A.length + h) D.nil = dP x := by
            have := get_in (A := A) (Y := X) (B := Y ++ B) (i := A.length + h) hx rfl
            rw [List.append_assoc (A ++ X)]
            exact this
          have gy : ((A ++ X ++ Y ++ B).map dP).getD (A.length + X.length + (q - 1 - h)) D.nil = dP y := get_in (A := A ++ X) hy (by simp)
          have hll : (A ++ X ++ Y ++ B).length = A.length + X.length + Y.length + B.length := by simp only [List.length_append]
          simp only [w5, w6, Int.toNat_natCast, gy, gx, fnId_fn, fnCts_fn, fnDs_fn, List.cons_append, List.nil_append, List.length_map, hll]
          refine wp_dec (by omega) (wp_dec (by omega) (wp_dec (by omega) (wp_dec (by omega) (wp_dec (by omega) (wp_dec (by omega) (wp_call (gcmp_sp (dn := dn) ha (hYin y hym) (hXin x hxm)) ?_))))))
          simp only [getD_c0, toInt_int, not_dec]
          refine wp_br (fun g => ?_) (fun g => ?_)
          · have g : ¬ kk d a.cells dn y x < 0 := of_nott g
            have : leK (kk d a.cells dn) x y := Classical.not_not.1 (fun hh => g ((leK_lt hk (hlt x hxm y hym)).2 hh))
            refine ih (h + 1) r (by omega) (by omega) (by omega) hr1 (fun x' hx' => ?_) inv2
            rw [show q - (h + 1) = q - 1 - h by omega]
            exact from_first hk hY hy (upto_last hk hX hx this x' hx')
          · have := leK_not hk ((leK_lt hk (hlt x hxm y hym)).1 (of_notf g))
            refine ih s h (by omega) (by omega) (by omega) (by omega) inv1 (fun y' hy' => ?_)
            rw [show q - h = q - 1 - h + 1 by omega] at hy'
            exact from_first hk hX hx (upto_last hk hY hy this y' hy')
        · have : s = r := by omega
          subst this
          refine wp_ndec (by omega) ?_
          have hXe : X = X.take s ++ X.drop s := (List.take_append_drop _ _).symm
          have hYe : Y = Y.take (q - s) ++ Y.drop (q - s) := (List.take_append_drop _ _).symm
          have l1 : (X.take s).length = s := by rw [List.length_take]; omega
          have l2 : (X.drop s).length = X.length - s := by rw [List.length_drop]
          have l3 : (Y.take (q - s)).length = q - s := by rw [List.length_take]; omega
          have l4 : (Y.drop (q - s)).length = Y.length - (q - s) := by rw [List.length_drop]
          have c1 := cross (t := s) hX
          have c2 := cross (t := q - s) hY
          have m1 : ∀ x ∈ X.take s, x ∈ X := fun x h => List.mem_of_mem_take h
          have m2 : ∀ x ∈ X.drop s, x ∈ X := fun x h => List.mem_of_mem_drop h
          have m3 : ∀ x ∈ Y.take (q - s), x ∈ Y := fun x h => List.mem_of_mem_take h
          have m4 : ∀ x ∈ Y.drop (q - s), x ∈ Y := fun x h => List.mem_of_mem_drop h
          have p1 := hX.sublist (List.take_sublist s X)
          have p2 := hX.sublist (List.drop_sublist s X)
          have p3 := hY.sublist (List.take_sublist (q - s) Y)
          have p4 := hY.sublist (List.drop_sublist (q - s) Y)
          have hdata : A ++ X ++ Y ++ B = A ++ X.take s ++ X.drop s ++ Y.take (q - s) ++ (Y.drop (q - s) ++ B) := by
            have e : A ++ (X.take s ++ X.drop s) ++ (Y.take (q - s) ++ Y.drop (q - s)) ++ B = A ++ X.take s ++ X.drop s ++ Y.take (q - s) ++ (Y.drop (q - s) ++ B) := by simp only [List.append_assoc]
            rw [List.take_append_drop, List.take_append_drop] at e
            exact e
          have hxy : (X ++ Y).Perm ((X.take s ++ Y.take (q - s)) ++ (X.drop s ++ Y.drop (q - s))) := by
            have e : X ++ Y = X.take s ++ ((X.drop s ++ Y.take (q - s)) ++ Y.drop (q - s)) := by
              rw [List.append_assoc (X.drop s), List.take_append_drop, ← List.append_assoc, List.take_append_drop]
            rw [e, List.append_assoc (X.take s), ← List.append_assoc (Y.take (q - s))]
            exact List.Perm.append_left _ (List.Perm.append_right _ List.perm_append_comm)
          generalize X.take s = X1 at *
          generalize X.drop s = X2 at *
          generalize Y.take (q - s) = Y1 at *
          generalize Y.drop (q - s) = Y2 at *
          have hsrt : srt (kk d a.cells dn) (X ++ Y) = srt (kk d a.cells dn) (X1 ++ Y1) ++ srt (kk d a.cells dn) (X2 ++ Y2) := by
            refine srt_of hk (((srt_perm _ _).append (srt_perm _ _)).trans hxy.symm) (sorted_app (srt_sorted hk _) (srt_sorted hk _) (fun x hx y hy => ?_))
            rcases List.mem_append.1 (srt_mem.1 hx) with hx | hx <;> rcases List.mem_append.1 (srt_mem.1 hy) with hy | hy
            · exact c1 x hx y hy
            · exact inv1 x hx y hy
            · exact inv2 x hx y hy
            · exact c2 x hx y hy
          have lW : (srt (kk d a.cells dn) (X1 ++ Y1)).length = q := by rw [srt_len, List.length_append]; omega
          have w5 : IntKind.wrap .i64 (((A.length + q + (A.length + X.length) : Nat) : Int) - ((A.length + s : Nat) : Int)) = ((A.length + q + X2.length : Nat) : Int) := by rw [wrap64 (by omega) (by omega)]; omega
          simp only [w5]
          -- the upper half
          have hU : Tw (.br (decide (((A.length + q : Nat) : Int) < ((A.length + q + X2.length : Nat) : Int))) (.br (decide (((A.length + q + X2.length : Nat) : Int) < ((A.length + X.length + Y.length : Nat) : Int))) (.call 139 [] [D.sl ((A ++ srt (kk d a.cells dn) (X1 ++ Y1) ++ X2 ++ Y2 ++ B).map dP), .int ((A.length + q : Nat) : Int), .int ((A.length + q + X2.length : Nat) : Int), .int ((A.length + X.length + Y.length : Nat) : Int), gfn dn a] fun yy => .ret [D.sl ((yy.getD 0 D.nil).els)]) (.ret [D.sl ((A ++ srt (kk d a.cells dn) (X1 ++ Y1) ++ X2 ++ Y2 ++ B).map dP)])) (.ret [D.sl ((A ++ srt (kk d a.cells dn) (X1 ++ Y1) ++ X2 ++ Y2 ++ B).map dP)])) [.sl ((A ++ srt (kk d a.cells dn) (X ++ Y) ++ B).map dP)] := by
            rw [hsrt]
            have alone : X2.length = 0 ∨ Y2.length = 0 → srt (kk d a.cells dn) (X2 ++ Y2) = X2 ++ Y2 := fun h => by
              rcases h with h | h
              · rw [List.length_eq_zero_iff.1 h]
                exact srt_of hk (List.Perm.refl _) (by simpa using p4)
              · rw [List.length_eq_zero_iff.1 h]
                exact srt_of hk (List.Perm.refl _) (by simpa using p2)
            refine wp_decs (fun g1 => wp_decs (fun g2 => ?_) (fun g2 => wp_ret ?_)) (fun g1 => wp_ret ?_)
            · have := IH (A ++ srt (kk d a.cells dn) (X1 ++ Y1)) X2 Y2 B (by omega) (by omega) (by omega) (by rw [List.length_append, lW]; omega) (fun x h => hXin x (m2 x h)) (fun y h => hYin y (m4 y h)) p2 p4 (fun x h y h' => hlt x (m2 x h) y (m4 y h'))
              simp only [List.length_append, lW] at this
              rw [show A.length + q + X2.length + Y2.length = A.length + X.length + Y.length by omega] at this
              refine wp_call this (wp_ret ?_)
              simp
            · rw [alone (by omega)]; simp
            · rw [alone (by omega)]; simp
          have hT : Tw (.br (decide ((A.length : Int) < ((A.length + s : Nat) : Int))) (.br (decide (((A.length + s : Nat) : Int) < ((A.length + q : Nat) : Int))) (.call 139 [] [D.sl ((A ++ X1 ++ Y1 ++ X2 ++ Y2 ++ B).map dP), .int (A.length : Int), .int ((A.length + s : Nat) : Int), .int ((A.length + q : Nat) : Int), gfn dn a] fun yy => (.br (decide (((A.length + q : Nat) : Int) < ((A.length + q + X2.length : Nat) : Int))) (.br (decide (((A.length + q + X2.length : Nat) : Int) < ((A.length + X.length + Y.length : Nat) : Int))) (.call 139 [] [D.sl ((yy.getD 0 D.nil).els), .int ((A.length + q : Nat) : Int), .int ((A.length + q + X2.length : Nat) : Int), .int ((A.length + X.length + Y.length : Nat) : Int), gfn dn a] fun yy => .ret [D.sl ((yy.getD 0 D.nil).els)]) (.ret [D.sl ((yy.getD 0 D.nil).els)])) (.ret [D.sl ((yy.getD 0 D.nil).els)])))
              (.br (decide (((A.length + q : Nat) : Int) < ((A.length + q + X2.length : Nat) : Int))) (.br (decide (((A.length + q + X2.length : Nat) : Int) < ((A.length + X.length + Y.length : Nat) : Int))) (.call 139 [] [D.sl ((A ++ X1 ++ Y1 ++ X2 ++ Y2 ++ B).map dP), .int ((A.length + q : Nat) : Int), .int ((A.length + q + X2.length : Nat) : Int), .int ((A.length + X.length + Y.length : Nat) : Int), gfn dn a] fun yy => .ret [D.sl ((yy.getD 0 D.nil).els)]) (.ret [D.sl ((A ++ X1 ++ Y1 ++ X2 ++ Y2 ++ B).map dP)])) (.ret [D.sl ((A ++ X1 ++ Y1 ++ X2 ++ Y2 ++ B).map dP)])))
              (.br (decide (((A.length + q : Nat) : Int) < ((A.length + q + X2.length : Nat) : Int))) (.br (decide (((A.length + q + X2.length : Nat) : Int) < ((A.length + X.length + Y.length : Nat) : Int))) (.call 139 [] [D.sl ((A ++ X1 ++ Y1 ++ X2 ++ Y2 ++ B).map dP), .int ((A.length + q : Nat) : Int), .int ((A.length + q + X2.length : Nat) : Int), .int ((A.length + X.length + Y.length : Nat) : Int), gfn dn a] fun yy => .ret [D.sl ((yy.getD 0 D.nil).els)]) (.ret [D.sl ((A ++ X1 ++ Y1 ++ X2 ++ Y2 ++ B).map dP)])) (.ret [D.sl ((A ++ X1 ++ Y1 ++ X2 ++ Y2 ++ B).map dP)]))) [.sl ((A ++ srt (kk d a.cells dn) (X ++ Y) ++ B).map dP)] := by
            have alone : X1.length = 0 ∨ Y1.length = 0 → A ++ srt (kk d a.cells dn) (X1 ++ Y1) ++ X2 ++ Y2 ++ B = A ++ X1 ++ Y1 ++ X2 ++ Y2 ++ B := fun h => by
              have : srt (kk d a.cells dn) (X1 ++ Y1) = X1 ++ Y1 := by
                rcases h with h | h
                · rw [List.length_eq_zero_iff.1 h]
                  exact srt_of hk (List.Perm.refl _) (by simpa using p3)
                · rw [List.length_eq_zero_iff.1 h]
                  exact srt_of hk (List.Perm.refl _) (by simpa using p1)
              rw [this, ← List.append_assoc]
            refine wp_decs (fun g1 => wp_decs (fun g2 => ?_) (fun g2 => ?_)) (fun g1 => ?_)
            · have := IH A X1 Y1 (X2 ++ Y2 ++ B) (by omega) (by omega) (by omega) (by simp only [List.length_append]; omega) (fun x h => hXin x (m1 x h)) (fun y h => hYin y (m3 y h)) p1 p3 (fun x h y h' => hlt x (m1 x h) y (m3 y h'))
              rw [show A.length + X1.length + Y1.length = A.length + q by omega, l1, show A ++ X1 ++ Y1 ++ (X2 ++ Y2 ++ B) = A ++ X1 ++ Y1 ++ X2 ++ Y2 ++ B by simp, show A ++ srt (kk d a.cells dn) (X1 ++ Y1) ++ (X2 ++ Y2 ++ B) = A ++ srt (kk d a.cells dn) (X1 ++ Y1) ++ X2 ++ Y2 ++ B by simp] at this
              exact wp_call this hU
            · rw [alone (by omega)] at hU; exact hU
            · rw [alone (by omega)] at hU; exact hU
          -- the turn
          refine wp_decs (fun g1 => wp_decs (fun g2 => ?_) (fun g2 => ?_)) (fun g1 => ?_)
          · have := rotate_sp (dn := dn) (a := a) (A ++ X1) X2 Y1 (Y2 ++ B) (by omega) (by omega) (by simp only [List.length_append]; omega)
            rw [← hdata, show A ++ X1 ++ Y1 ++ X2 ++ (Y2 ++ B) = A ++ X1 ++ Y1 ++ X2 ++ Y2 ++ B by simp, List.length_append, l1, show A.length + s + X2.length = A.length + X.length by omega, show A.length + X.length + Y1.length = A.length + q + X2.length by omega] at this
            exact wp_call this hT
          · have e : A ++ X ++ Y ++ B = A ++ X1 ++ Y1 ++ X2 ++ Y2 ++ B := by
              have : Y1 = [] := List.length_eq_zero_iff.1 (by omega)
              rw [hdata, this]; simp
            rw [e]; exact hT
          · have e : A ++ X ++ Y ++ B = A ++ X1 ++ Y1 ++ X2 ++ Y2 ++ B := by
              have : X2 = [] := List.length_eq_zero_iff.1 (by omega)
              rw [hdata, this]; simp
            rw [e]; exact hT
    refine wp_dec (by omega) (wp_decs (fun g => ?_) (fun g => ?_))
    · have w7 : IntKind.wrap .i64 (((A.length + q + (A.length + X.length) : Nat) : Int) - ((A.length + X.length + Y.length : Nat) : Int)) = ((A.length + (q - Y.length) : Nat) : Int) := by rw [wrap64 (by omega) (by omega)]; omega
      rw [w7]
      exact search (q - Y.length) q (by omega) (by omega) (by omega) 200000 (q - Y.length) q (by omega) (by omega) (by omega) (by omega) (fun x _ y hy => by rw [List.drop_of_length_le (by omega)] at hy; cases hy) (fun y hy => by rw [Nat.sub_self] at hy; cases hy)
    · exact search 0 X.length (by omega) (by omega) (by omega) 200000 0 X.length (by omega) (by omega) (by omega) (by omega) (fun x hx => by cases hx) (fun y _ x hx => by rw [List.drop_of_length_le (by omega)] at hx; cases hx)
end
end Go.Proofs.YtbgcadcpeabpgaaGreat
set_option maxRecDepth 100000
namespace Go.Proofs.YtbgcadcpeabpgaaGreat
section
variable {d : Nat} {a : Arr} {dn : Bool} (ha : ∀ c ∈ a.cells, rightC d c = true)
include ha
theorem stable_sp (l : List Nat) (hl : l.Pairwise (· < ·)) (hin : ∀ x ∈ l, x < a.cells.length) (hlen : l.length ≤ 50000) : Sp 110 [.sl (l.map dP), .int (l.length : Int), gfn dn a] [.sl ((srt (kk d a.cells dn) l).map dP)] := by
  have hk := row_kk (dn := dn) ha
  refine sound_ 200000 (slices_stableCmpFunc_int_tree_grade_Grade_2 _ _ _ _ _) ?_
  simp only [els_sl, toInt_int]
  generalize hkk : kk d a.cells dn = k at *
  have join2 : ∀ U V : List Nat, srt k (srt k U ++ srt k V) = srt k (U ++ V) := fun U V => srt_of hk (((srt_perm k (U ++ V)).trans ((srt_perm k U).append (srt_perm k V)).symm)) (srt_sorted hk _)
  -- pairs of stretches
  have pairs : ∀ (m7 bs : Nat), 1 ≤ bs → bs ≤ 100000 → Tw (slices_stableCmpFunc_int_l7 200000 m7 ((SG k (2 * bs) l).map dP) (l.length : Int) (gfn dn a) ((2 * bs : Nat) : Int)) [.sl ((srt k l).map dP)] → ∀ (m : Nat) (P rest : List Nat), P ++ SG k (2 * bs) rest = SG k (2 * bs) l → l.length = P.length + rest.length → rest.Pairwise (· < ·) → (∀ x ∈ rest, x < a.cells.length) → rest.length < m →
      Tw (slices_stableCmpFunc_int_l9 200000 m7 m ((P ++ SG k bs rest).map dP) (l.length : Int) (gfn dn a) (bs : Int) (P.length : Int) ((P.length + 2 * bs : Nat) : Int)) [.sl ((srt k l).map dP)] := by
    intro m7 bs hb1 hb2 cont m
    induction m with
    | zero => intro P rest _ _ _ _ h; omega
    | succ m ih =>
      intro P rest hP hL hR hRin hm
      have w1 : IntKind.wrap .i64 ((P.length : Int) + (bs : Int)) = ((P.length + bs : Nat) : Int) := by rw [wrap64 (by omega) (by omega)]; omega
      have w2 : IntKind.wrap .i64 (2 * (bs : Int)) = ((2 * bs : Nat) : Int) := by rw [wrap64 (by omega) (by omega)]; omega
      have w3 : IntKind.wrap .i64 (((P.length + 2 * bs : Nat) : Int) + ((2 * bs : Nat) : Int)) = ((P.length + 2 * bs + 2 * bs : Nat) : Int) := by rw [wrap64 (by omega) (by omega)]; omega
      have w4 : IntKind.wrap .i64 ((bs : Int) * 2) = ((2 * bs : Nat) : Int) := by rw [wrap64 (by omega) (by omega)]; omega
      simp only [slices_stableCmpFunc_int_l9_succ_grade_Grade_2, w1, w2, w3, w4]
      have hcross : ∀ t, ∀ x ∈ rest.take t, ∀ y ∈ rest.drop t, x < y := fun t => by
        rw [← List.take_append_drop t rest] at hR
        exact (List.pairwise_append.1 hR).2.2
      refine wp_decs (fun g => ?_) (fun g => wp_decs (fun g2 => ?_) (fun g2 => ?_))
      · have e1 : SG k bs rest = srt k (rest.take bs) ++ (srt k ((rest.drop bs).take bs) ++ SG k bs (rest.drop (2 * bs))) := by
          rw [SG_eq hb1, if_neg (by omega), SG_eq hb1 (rest.drop bs), if_neg (by rw [List.length_drop]; omega), List.drop_drop, show bs + bs = 2 * bs by omega]
        have e2 : rest.take bs ++ (rest.drop bs).take bs = rest.take (2 * bs) := by rw [show 2 * bs = bs + bs by omega, List.take_add]
        have l1 : (rest.take bs).length = bs := by rw [List.length_take]; omega
        have l2 : ((rest.drop bs).take bs).length = bs := by rw [List.length_take, List.length_drop]; omega
        have l3 : (SG k bs (rest.drop (2 * bs))).length = rest.length - 2 * bs := by rw [SG_len hb1 _ _ (Nat.le_refl _), List.length_drop]
        have l4 : (rest.take (2 * bs)).length = 2 * bs := by rw [List.length_take]; omega
        have sp := symMerge_sp (dn := dn) ha (2 * bs) P (srt k (rest.take bs)) (srt k ((rest.drop bs).take bs)) (SG k bs (rest.drop (2 * bs))) (by rw [srt_len, srt_len]; omega) (by rw [srt_len]; omega) (by rw [srt_len]; omega) (by rw [srt_len, srt_len, l3]; omega) (fun x hx => hRin x (List.mem_of_mem_take (srt_mem.1 hx))) (fun y hy => hRin y (List.mem_of_mem_drop (List.mem_of_mem_take (srt_mem.1 hy)))) (by rw [hkk]; exact srt_sorted hk _) (by rw [hkk]; exact srt_sorted hk _) (fun x hx y hy => hcross bs x (srt_mem.1 hx) y (List.mem_of_mem_take (srt_mem.1 hy)))
        rw [hkk, join2, e2, srt_len, srt_len, l1, l2] at sp
        rw [show P ++ srt k (rest.take bs) ++ srt k ((rest.drop bs).take bs) ++ SG k bs (rest.drop (2 * bs)) = P ++ SG k bs rest by rw [e1]; simp only [List.append_assoc], show P.length + bs + bs = P.length + 2 * bs by omega] at sp
        refine wp_call sp ?_
        have := ih (P ++ srt k (rest.take (2 * bs))) (rest.drop (2 * bs)) (by
            rw [← hP, SG_eq (bs := 2 * bs) (by omega) rest, if_neg (by omega)]; simp only [List.append_assoc]) (by rw [List.length_append, srt_len, l4, List.length_drop]; omega) (hR.sublist (List.drop_sublist _ _)) (fun x hx => hRin x (List.mem_of_mem_drop hx)) (by rw [List.length_drop]; omega)
        rw [List.length_append, srt_len, l4] at this
        exact this
      · have l1 : (rest.take bs).length = bs := by rw [List.length_take]; omega
        have e1 : SG k bs rest = srt k (rest.take bs) ++ srt k (rest.drop bs) := by
          rw [SG_eq hb1, if_neg (by omega), SG_small hb1 (by rw [List.length_drop]; omega)]
        have sp := symMerge_sp (dn := dn) ha (rest.length) P (srt k (rest.take bs)) (srt k (rest.drop bs)) [] (by rw [srt_len, srt_len, List.length_drop]; omega) (by rw [srt_len]; omega) (by rw [srt_len, List.length_drop]; omega) (by rw [srt_len, srt_len, List.length_drop]; simp only [List.length_nil]; omega) (fun x hx => hRin x (List.mem_of_mem_take (srt_mem.1 hx))) (fun y hy => hRin y (List.mem_of_mem_drop (srt_mem.1 hy))) (by rw [hkk]; exact srt_sorted hk _) (by rw [hkk]; exact srt_sorted hk _) (fun x hx y hy => hcross bs x (srt_mem.1 hx) y (srt_mem.1 hy))
        rw [hkk, join2, List.take_append_drop, srt_len, srt_len, l1] at sp
        simp only [List.append_nil] at sp
        rw [show P ++ srt k (rest.take bs) ++ srt k (rest.drop bs) = P ++ SG k bs rest by rw [e1]; simp only [List.append_assoc], show P.length + bs + (rest.drop bs).length = l.length by rw [List.length_drop]; omega] at sp
        refine wp_call sp ?_
        rw [SG_small (bs := 2 * bs) (by omega) (l := rest) (by omega)] at hP
        simp only [getD_c0, els_sl]
        rw [hP]
        exact cont
      · rw [SG_small (bs := 2 * bs) (by omega) (l := rest) (by omega)] at hP
        rw [SG_small hb1 (l := rest) (by omega), hP]
        exact cont
  have rounds : ∀ (m bs : Nat), 1 ≤ bs → bs ≤ 100000 → l.length - bs < m → Tw (slices_stableCmpFunc_int_l7 200000 m ((SG k bs l).map dP) (l.length : Int) (gfn dn a) (bs : Int)) [.sl ((srt k l).map dP)] := by
    intro m
    induction m with
    | zero => intro bs _ _ h; omega
    | succ m ih =>
      intro bs hb1 hb2 hm
      have w2 : IntKind.wrap .i64 (2 * (bs : Int)) = ((2 * bs : Nat) : Int) := by rw [wrap64 (by omega) (by omega)]; omega
      simp only [slices_stableCmpFunc_int_l7_succ_grade_Grade_2, w2]
      refine wp_decs (fun g => ?_) (fun g => wp_ret ?_)
      · have := pairs m bs hb1 hb2 (ih (2 * bs) (by omega) (by omega) (by omega)) 200000 [] l (by simp) (by simp) hl hin (by omega)
        simpa using this
      · rw [SG_small hb1 (by omega)]
  have first : ∀ (m : Nat) (P rest : List Nat), P ++ SG k 20 rest = SG k 20 l → l.length = P.length + rest.length → rest.Pairwise (· < ·) → (∀ x ∈ rest, x < a.cells.length) → rest.length < m →
      Tw (slices_stableCmpFunc_int_l2 200000 m ((P ++ rest).map dP) (l.length : Int) (gfn dn a) 20 (P.length : Int) ((P.length + 20 : Nat) : Int)) [.sl ((srt k l).map dP)] := by
    intro m
    induction m with
    | zero => intro P rest _ _ _ _ h; omega
    | succ m ih =>
      intro P rest hP hL hR hRin hm
      have w1 : IntKind.wrap .i64 (((P.length + 20 : Nat) : Int) + 20) = ((P.length + 20 + 20 : Nat) : Int) := by rw [wrap64 (by omega) (by omega)]; omega
      simp only [slices_stableCmpFunc_int_l2_succ_grade_Grade_2, w1]
      refine wp_decs (fun g => ?_) (fun g => ?_)
      · have l1 : (rest.take 20).length = 20 := by rw [List.length_take]; omega
        have sp := insertion_sp (dn := dn) ha P (rest.take 20) (rest.drop 20) (hR.sublist (List.take_sublist _ _)) (fun x hx => hRin x (List.mem_of_mem_take hx)) (by rw [l1, List.length_drop]; omega)
        rw [hkk, List.append_assoc P, List.take_append_drop, l1] at sp
        refine wp_call sp ?_
        have := ih (P ++ srt k (rest.take 20)) (rest.drop 20) (by
            rw [← hP, SG_eq (bs := 20) (by omega) rest, if_neg (by omega)]; simp only [List.append_assoc]) (by rw [List.length_append, srt_len, l1, List.length_drop]; omega) (hR.sublist (List.drop_sublist _ _)) (fun x hx => hRin x (List.mem_of_mem_drop hx)) (by rw [List.length_drop]; omega)
        rw [List.length_append, srt_len, l1] at this
        exact this
      · have sp := insertion_sp (dn := dn) ha P rest [] hR hRin (by simp only [List.length_nil]; omega)
        simp only [List.append_nil, hkk, ← hL] at sp
        refine wp_call sp ?_
        rw [SG_small (bs := 20) (by omega) (l := rest) (by omega)] at hP
        simp only [getD_c0, els_sl]
        rw [hP]
        exact rounds 200000 20 (by omega) (by omega) (by omega)
  have := first 200000 [] l (by simp) (by simp) hl hin (by omega)
  simpa using this
theorem sort_sp (l : List Nat) (hl : l.Pairwise (· < ·)) (hin : ∀ x ∈ l, x < a.cells.length) (hlen : l.length ≤ 50000) : Sp 69 [.sl (l.map dP), gfn dn a] [.sl ((srt (kk d a.cells dn) l).map dP)] := by
  refine sound_ 0 (slices_SortStableFunc_int_int_tree_grade_Grade_2 _ _ _ _) ?_
  simp only [els_sl, List.length_map]
  exact wp_call (stable_sp ha l hl hin hlen) (wp_ret rfl)
end
/-- Where a list's cells stand. -/
def orderS (a : Arr) (dn : Bool) : List Nat := srt (kk 8 a.cells dn) (List.range a.cells.length)
def gradeA (a : Arr) (dn : Bool) : Arr × Int := if a.shape.length = 1 then (vecA ((orderS a dn).map (fun (i : Nat) => (i : Int) + 1)) (totA a), 0) else (.none, 5)
theorem range_up (n : Nat) : (List.range n).Pairwise (· < ·) := List.pairwise_lt_range
theorem order_len (a : Arr) (dn : Bool) : (orderS a dn).length = a.cells.length := by unfold orderS; rw [srt_len, List.length_range]
theorem order_mem {a : Arr} {dn : Bool} {i : Nat} : i ∈ orderS a dn ↔ i < a.cells.length := by unfold orderS; rw [srt_mem, List.mem_range]
theorem grade_Grade_sp (a : Arr) (dn : Bool) (ha : rightA 8 a = true) : Sp 33 [dA a, .bool dn] [dA (gradeA a dn).1, .int (gradeA a dn).2] := by
  have la := (rightA_len ha).1
  have hc := (rightA_cells ha).2
  refine sound_ 4096 (grade_Grade_tree _ _ _) ?_
  unfold gradeA
  simp only [dA_0, dA_1, dA_2, dC_0, dC_1, dC_2, dC_3, dC_4, dN_0, dN_1, dN_2, els_sl, els_dI, els_dL, List.length_map, Int.toNat_natCast, toInt_int, toInt_dB, toBool_bool, getD_c0, getD_c1, int_beq, int_bne, not_dec, dInt_dB, Int.toNat_zero, dA_none, dC_none', List.length_replicate]
  refine wp_decs (fun h => wp_ret (by rw [if_neg (by omega)])) (fun h => ?_)
  rw [if_pos (by omega)]
  refine wp_dec (by omega) (wp_dec (by omega) (wp_dec (by simp only [bigN]; omega) ?_))
  have hol := order_len a dn
  have key := loop_up (P := Tryz.prog) (md := md) a.cells.length (fun m k (_ : Unit) => grade_Grade_l6 4096 m ((List.range k).map dP ++ List.replicate (a.cells.length - k) (D.int 0)) (a.cells.length : Int) (k : Int) (dA a) dn 0 0) (fun _ _ => [dA (vecA ((orderS a dn).map (fun (i : Nat) => (i : Int) + 1)) (totA a)), .int 0]) (fun _ _ => True)
    (fun m s _ => by
      have sp := sort_sp (dn := dn) hc (List.range a.cells.length) (range_up _) (fun x hx => List.mem_range.1 hx) (by rw [List.length_range]; omega)
      simp only [grade_Grade_l6_succ, dA_none, dC_none']
      rw [Nat.sub_self, List.replicate_zero, List.append_nil]
      refine wp_ndec (by omega) (wp_call sp ?_)
      rw [show srt (kk 8 a.cells dn) (List.range a.cells.length) = orderS a dn from rfl]
      simp only [getD_c0, els_sl, List.length_map, hol, Int.toNat_natCast]
      refine wp_dec (by omega) (wp_dec (by omega) (wp_dec (by simp only [bigN]; omega) ?_))
      have key2 := loop_list (P := Tryz.prog) (md := md) (orderS a dn) (fun m k (cs : List D) => grade_Grade_l13 4096 m cs ((orderS a dn).map dP) (a.cells.length : Int) (k : Int) (dA a) 0 0) (fun _ _ => [dA (vecA ((orderS a dn).map (fun (i : Nat) => (i : Int) + 1)) (totA a)), .int 0])
        (fun rest cs => ∃ pre : List Nat, orderS a dn = pre ++ rest ∧ cs = (pre.map (fun (i : Nat) => intC ((i : Int) + 1))).map dC ++ List.replicate rest.length (dC Cell.none))
        (fun m k cs hk hI => by
          obtain ⟨pre, h1, rfl⟩ := hI
          rw [List.append_nil] at h1
          simp only [grade_Grade_l13_succ, List.length_nil, List.replicate_zero, List.append_nil]
          have hb : ∀ c ∈ pre.map (fun (i : Nat) => intC ((i : Int) + 1)), SmlC 0 c := fun c hcc => by
            obtain ⟨i, hi, rfl⟩ := List.mem_map.1 hcc
            have := order_mem.1 (by rw [h1]; exact hi : i ∈ orderS a dn)
            exact smlC_int (inR_small (by omega) (by omega)) 0
          refine wp_ndec (by omega) (wp_call (array_Vector_sp _ hb (by rw [List.length_map, ← h1, hol]; omega)) (wp_call (array_Total_sp a (rightA_sml ha).fits) ?_))
          simp only [getD_c0, toInt_dB, dInt_dB]
          refine wp_call (array_Raise_sp _ (totA a)) (wp_ret ?_)
          simp only [getD_c0, h1]
          simp [raiseA, vectA, vecA]
          rfl)
        (fun m k cs i rest hdr hI ih => by
          obtain ⟨h1, h2, h3⟩ := drop_cons hdr
          obtain ⟨pre, hp, rfl⟩ := hI
          have hk : k = (pre.map (fun (i : Nat) => intC ((i : Int) + 1))).length := by
            have := congrArg List.length hdr
            rw [hp] at this h1
            simp at this h1 ⊢; omega
          have hcl : ((pre.map (fun (i : Nat) => intC ((i : Int) + 1))).map dC ++ List.replicate (rest.length + 1) (dC Cell.none)).length = a.cells.length := by rw [← hol, hp]; simp
          have hi := order_mem.1 (List.mem_of_getElem? h2)
          have w1 : IntKind.wrap .i64 ((i : Int) + 1) = (i : Int) + 1 := wrap64 (by omega) (by omega)
          simp only [grade_Grade_l13_succ, List.length_map, hol, Int.toNat_natCast, getD_map h2, dP_int, w1, wrap_succ (show k < 9223372036854775807 by omega), List.length_cons]
          simp only [hcl]
          refine wp_dec (by omega) (wp_dec (by omega) (wp_dec (by omega) (wp_call (array_Int_sp _ (inR_small (by omega) (by omega))) (wp_dec (by omega) (wp_dec (by omega) ?_)))))
          simp only [getD_c0]
          rw [show (((pre.map (fun (i : Nat) => intC ((i : Int) + 1))).map dC ++ List.replicate (rest.length + 1) (dC Cell.none)).set k (dC (intC ((i : Int) + 1)))) = (((pre ++ [i]).map (fun (i : Nat) => intC ((i : Int) + 1))).map dC ++ List.replicate rest.length (dC Cell.none)) by
            rw [hk, set_next (f := dC) (z := dC Cell.none)]; simp]
          exact ih _ ⟨pre ++ [i], by rw [hp]; simp, rfl⟩)
        4096 0 (List.replicate a.cells.length (dC Cell.none)) (by omega) (by omega) ⟨[], by simp, by simp [hol]⟩
      exact key2)
    (fun m k s hk _ ih => by
      have ih := ih () trivial
      simp only [grade_Grade_l6_succ, List.length_append, List.length_map, List.length_range, List.length_replicate, Int.toNat_natCast, wrap_succ (show k < 9223372036854775807 by omega)]
      refine wp_dec (by omega) (wp_dec (by omega) (wp_dec (by omega) ?_))
      have e := set_next (f := dP) (z := D.int 0) (List.range k) k (a.cells.length - (k + 1))
      rw [List.length_range, ← List.range_succ, show a.cells.length - (k + 1) + 1 = a.cells.length - k by omega] at e
      rw [show D.int (k : Int) = dP k from rfl, e]
      exact ih)
    4096 0 () (by omega) (by omega) trivial
  simpa using key
end Go.Proofs.YtbgcadcpeabpgaaGreat
set_option maxRecDepth 100000
namespace Go.Proofs.YtbgcadcpeabpgaaGreat
def ahead (k : Nat → Nat → Int) (i j : Nat) : Bool := decide (k j i < 0 ∨ (k j i = 0 ∧ j < i))
/-- How many stand ahead. -/
def rnk (k : Nat → Nat → Int) (i m : Nat) : Nat := (List.range m).countP (ahead k i)
theorem rnk_succ (k : Nat → Nat → Int) (i m : Nat) : rnk k i (m + 1) = rnk k i m + if ahead k i m then 1 else 0 := by
  unfold rnk
  rw [List.range_succ, List.countP_append, List.countP_singleton]
theorem rnk_le (k : Nat → Nat → Int) (i m : Nat) : rnk k i m ≤ m := by
  unfold rnk
  have := List.countP_le_length (p := ahead k i) (l := List.range m)
  rwa [List.length_range] at this
theorem countP_all {α : Type} {p : α → Bool} : ∀ {l : List α}, (∀ x ∈ l, p x = true) → l.countP p = l.length := fun h => List.countP_eq_length.2 h
theorem countP_none {α : Type} {p : α → Bool} : ∀ {l : List α}, (∀ x ∈ l, p x = false) → l.countP p = 0 := fun h => List.countP_eq_zero.2 (fun x hx => by rw [h x hx]; decide)
theorem rnk_at {k : Nat → Nat → Int} (hk : AllN k) {n : Nat} {s1 s2 : List Nat} {i : Nat} (h : srt k (List.range n) = s1 ++ i :: s2) : rnk k i n = s1.length := by
  unfold rnk
  rw [← (srt_perm k (List.range n)).countP_eq, h]
  have hs := srt_sorted hk (List.range n)
  have hn : (srt k (List.range n)).Nodup := (srt_perm k _).nodup_iff.2 List.nodup_range
  rw [h] at hs hn
  rw [List.pairwise_append, List.pairwise_cons] at hs
  have hn := List.nodup_append.1 hn
  have h1 : ∀ x ∈ s1, ahead k i x = true := fun x hx => by
    have h1 := hs.2.2 x hx i (by simp)
    have h2 : x ≠ i := hn.2.2 x hx i (by simp)
    unfold ahead
    unfold leK at h1
    exact decide_eq_true (by omega)
  have h2 : ∀ x ∈ i :: s2, ahead k i x = false := fun x hx => by
    unfold ahead
    refine decide_eq_false (fun hh => ?_)
    rcases List.mem_cons.1 hx with rfl | hx
    · have := hk.self (x := x) trivial
      omega
    · have h1 := hs.2.1.1 x hx
      have h2 : leK k x i := by unfold leK; omega
      have := leK_anti hk h1 h2
      subst this
      have hn2 := List.nodup_cons.1 hn.2.1
      exact hn2.1 hx
  rw [List.countP_append, countP_all h1, countP_none h2, Nat.add_zero]
/-- What is filled in so far. -/
def fillS (s : List Nat) (t : Nat) : List Int := s.map (fun (x : Nat) => if x < t then (x : Int) + 1 else 0)
theorem fillS_zero (s : List Nat) : fillS s 0 = List.replicate s.length 0 := by
  unfold fillS
  induction s with
  | nil => rfl
  | cons x xs ih => simp only [List.map_cons, ih, List.length_cons, List.replicate_succ]; simp
theorem fillS_all {s : List Nat} {n : Nat} (h : ∀ x ∈ s, x < n) : fillS s n = s.map (fun (x : Nat) => (x : Int) + 1) := List.map_congr_left (fun x hx => by rw [if_pos (h x hx)])
theorem fillS_set {s1 s2 : List Nat} {i : Nat} (hn : (s1 ++ i :: s2).Nodup) : (fillS (s1 ++ i :: s2) i).set s1.length ((i : Int) + 1) = fillS (s1 ++ i :: s2) (i + 1) := by
  have hn := List.nodup_append.1 hn
  have e : ∀ x : Nat, x ≠ i → (if x < i then (x : Int) + 1 else 0) = if x < i + 1 then (x : Int) + 1 else 0 := fun x hx => by
    by_cases h : x < i
    · rw [if_pos h, if_pos (by omega)]
    · rw [if_neg h, if_neg (by omega)]
  have e1 : fillS s1 i = fillS s1 (i + 1) := List.map_congr_left (fun x hx => e x (hn.2.2 x hx i (by simp)))
  have e2 : fillS s2 i = fillS s2 (i + 1) := List.map_congr_left (fun x hx => e x (fun hh => by
    subst hh; exact (List.nodup_cons.1 hn.2.1).1 hx))
  have app : ∀ t, fillS (s1 ++ i :: s2) t = fillS s1 t ++ (if i < t then (i : Int) + 1 else 0) :: fillS s2 t := fun t => by simp [fillS]
  have l1 : (fillS s1 (i + 1)).length = s1.length := by simp [fillS]
  rw [app, app, e1, e2, if_neg (by omega), if_pos (by omega), List.set_append_right _ _ (by omega), l1, Nat.sub_self]
  rfl
end Go.Proofs.YtbgcadcpeabpgaaGreat
set_option maxRecDepth 100000
namespace Go.Proofs.YtbgcadcpeabpgaaGreat
/-! scrim/scrimlaw17.GradeSorts -/
def law17_GradeSorts_orc : List (Nat × Orc) := [(10, ⟨[(1, none), (2, none), (7, none), (9, none), (10, some 23), (12, none)], [(2, true), (7, true)], [(.slot 9, 1100, 4)]⟩)]
def law17_GradeSorts_ps : List Nat := [26, 4]
def law17_GradeSorts_rs : List ResultVar := [.tmp 4]
def law17_GradeSorts_ts : List Nat := [4]
noncomputable def law17_GradeSorts_l10 (n m10 : Nat) (down1 : Bool) (seen9 : List D) (k10 : D) (i12 : Int) (a2 : D) (l7 : D) : Tree :=
  evLoop Tryz.prog md (ev Tryz.prog md n law17_GradeSorts_orc (cAt (bodyOf Tryz.prog 8) [1, 1, 1, 1, 1, 1, 1, 0, 1, 0, 0])) (orcAt law17_GradeSorts_orc 10) m10 ⟨[.undef, .b down1, .ptr 2 [], .undef, .undef, .undef, .undef, .ptr 7 [], .undef, .row 1100, .d 23 k10, .undef, .i .i64 i12, .undef, .undef, .undef, .undef, .undef, .undef, .undef, .undef, .undef, .undef, .undef, .undef, .undef, .undef, .undef, .undef, .undef, .undef, .undef, .undef, .undef, .undef, .undef, .undef, .undef, .undef, .undef, .undef, .undef, .undef, .undef, .undef, .undef, .undef, .undef, .undef, .undef, .undef, .undef, .undef, .undef, .undef, .undef, .undef, .undef, .undef, .undef, .undef, .undef, .undef, .undef, .undef, .undef, .undef, .undef, .undef, .undef, .undef, .undef, .undef, .undef, .undef, .undef, .undef, .undef, .undef, .undef, .undef, .undef, .undef, .undef, .undef, .undef, .undef, .undef, .undef, .undef, .undef, .undef, .undef, .undef, .undef, .undef, .undef, .undef, .undef, .undef, .undef, .undef, .undef, .undef, .undef, .undef, .undef, .undef, .undef, .undef, .undef, .undef, .undef, .undef, .undef, .undef, .undef, .undef, .undef, .undef, .undef, .undef, .undef, .undef, .undef, .undef, .undef, .undef, .undef, .undef, .undef, .undef, .undef, .undef, .undef], [(2, .var 26 (.d 26 a2) true), (7, .var 26 (.d 26 l7) true), (1100, .row 4 seen9 true)], [2, 7, 1100], [], []⟩
   (blockK 0 (seqK (joinE Tryz.prog md (joinAt law17_GradeSorts_orc (cAt (bodyOf Tryz.prog 8) [1, 1, 1, 1, 1, 1, 1, 1])) (ev Tryz.prog md n law17_GradeSorts_orc (cAt (bodyOf Tryz.prog 8) [1, 1, 1, 1, 1, 1, 1, 1]))) (retK Tryz.prog md (md 8) law17_GradeSorts_ps law17_GradeSorts_rs law17_GradeSorts_ts)))
theorem law17_GradeSorts_l10_succ (n m10 : Nat) (down1 : Bool) (seen9 : List D) (k10 : D) (i12 : Int) (a2 : D) (l7 : D) : law17_GradeSorts_l10 n (m10 + 1) down1 seen9 k10 i12 a2 l7 =
 .br (decide (i12 < (k10.els.length : Int))) (.br (decide (0 ≤ i12)) (.br (decide (i12 < (k10.els.length : Int))) (.br (decide (((k10.els.getD (Int.toNat i12) D.nil).toInt) < 1)) (.ret [D.bool false])
 (.br (decide (0 ≤ i12)) (.br (decide (i12 < (k10.els.length : Int))) (.br (decide ((((a2.fld 2).els).length : Int) < ((k10.els.getD (Int.toNat i12) D.nil).toInt))) (.ret [D.bool false])
 (.br (decide (0 ≤ i12)) (.br (decide (i12 < (k10.els.length : Int))) (.br (decide (0 ≤ (k10.els.getD (Int.toNat i12) D.nil).toInt)) (.br (decide ((k10.els.getD (Int.toNat i12) D.nil).toInt < (seen9.length : Int))) (.br ((seen9.getD (Int.toNat ((k10.els.getD (Int.toNat i12) D.nil).toInt)) D.nil).toBool) (.ret [D.bool false])
 (.br (decide (0 ≤ i12)) (.br (decide (i12 < (k10.els.length : Int))) (.br (decide (0 ≤ (k10.els.getD (Int.toNat i12) D.nil).toInt)) (.br (decide ((k10.els.getD (Int.toNat i12) D.nil).toInt < (seen9.length : Int))) (.br (i12 == 0) (law17_GradeSorts_l10 n m10 down1 (seen9.set (Int.toNat ((k10.els.getD (Int.toNat i12) D.nil).toInt)) (D.bool true)) k10 (IntKind.wrap .i64 (i12 + 1)) a2 l7)
 (.br (decide (0 ≤ IntKind.wrap .i64 (i12 - 1))) (.br (decide (IntKind.wrap .i64 (i12 - 1) < (((l7.fld 2).els).length : Int))) (.br (decide (0 ≤ i12)) (.br (decide (i12 < (((l7.fld 2).els).length : Int))) (.call 35 [] [((l7.fld 2).els).getD (Int.toNat (IntKind.wrap .i64 (i12 - 1))) D.nil, ((l7.fld 2).els).getD (Int.toNat i12) D.nil] fun yy7 =>
 .br down1 (.br (decide (0 < (IntKind.wrap .i64 (0 - ((yy7.getD 0 D.nil).toInt))))) (.ret [D.bool false])
 (.br ((IntKind.wrap .i64 (0 - ((yy7.getD 0 D.nil).toInt))) == 0) (.br (decide (0 ≤ IntKind.wrap .i64 (i12 - 1))) (.br (decide (IntKind.wrap .i64 (i12 - 1) < (k10.els.length : Int))) (.br (decide (0 ≤ i12)) (.br (decide (i12 < (k10.els.length : Int))) (.br (decide (((k10.els.getD (Int.toNat i12) D.nil).toInt) < ((k10.els.getD (Int.toNat (IntKind.wrap .i64 (i12 - 1))) D.nil).toInt))) (.ret [D.bool false])
 (law17_GradeSorts_l10 n m10 down1 (seen9.set (Int.toNat ((k10.els.getD (Int.toNat i12) D.nil).toInt)) (D.bool true)) k10 (IntKind.wrap .i64 (i12 + 1)) a2 l7)) .fail) .fail) .fail) .fail)
 (law17_GradeSorts_l10 n m10 down1 (seen9.set (Int.toNat ((k10.els.getD (Int.toNat i12) D.nil).toInt)) (D.bool true)) k10 (IntKind.wrap .i64 (i12 + 1)) a2 l7)))
 (.br (decide (0 < ((yy7.getD 0 D.nil).toInt))) (.ret [D.bool false])
 (.br (((yy7.getD 0 D.nil).toInt) == 0) (.br (decide (0 ≤ IntKind.wrap .i64 (i12 - 1))) (.br (decide (IntKind.wrap .i64 (i12 - 1) < (k10.els.length : Int))) (.br (decide (0 ≤ i12)) (.br (decide (i12 < (k10.els.length : Int))) (.br (decide (((k10.els.getD (Int.toNat i12) D.nil).toInt) < ((k10.els.getD (Int.toNat (IntKind.wrap .i64 (i12 - 1))) D.nil).toInt))) (.ret [D.bool false])
 (law17_GradeSorts_l10 n m10 down1 (seen9.set (Int.toNat ((k10.els.getD (Int.toNat i12) D.nil).toInt)) (D.bool true)) k10 (IntKind.wrap .i64 (i12 + 1)) a2 l7)) .fail) .fail) .fail) .fail)
 (law17_GradeSorts_l10 n m10 down1 (seen9.set (Int.toNat ((k10.els.getD (Int.toNat i12) D.nil).toInt)) (D.bool true)) k10 (IntKind.wrap .i64 (i12 + 1)) a2 l7)))) .fail) .fail) .fail) .fail)) .fail) .fail) .fail) .fail)) .fail) .fail) .fail) .fail)) .fail) .fail)) .fail) .fail)
 (.call 32 [] [] fun yy8 =>
 .ret [D.bool ((yy8.getD 0 D.nil).toBool)]) := by kernel_rfl
theorem law17_GradeSorts_tree (n : Nat) (a0 : D) (down1 : D) : evFun Tryz.prog md law17_GradeSorts_orc n 8 [] [a0, down1] =
 .call 31 [] [a0] fun yy1 =>
 .br (!((yy1.getD 0 D.nil).toBool)) (.call 32 [] [] fun yy2 =>
 .ret [D.bool ((yy2.getD 0 D.nil).toBool)])
 (.br ((((a0.fld 1).els).length : Int) != 1) (.call 32 [] [] fun yy3 =>
 .ret [D.bool ((yy3.getD 0 D.nil).toBool)])
 (.call 33 [] [a0, D.bool down1.toBool] fun yy4 =>
 .call 19 [] [a0, D.sl [D.agg [D.bool false, yy4.getD 0 D.nil]]] fun yy5 =>
 .br (((yy4.getD 1 D.nil).toInt) != 0) (.ret [D.bool false])
 (.br (((yy5.getD 1 D.nil).toInt) != 0) (.ret [D.bool false])
 (.br (((((yy5.getD 0 D.nil).fld 2).els).length : Int) != (((a0.fld 2).els).length : Int)) (.ret [D.bool false])
 (.br (decide (0 ≤ IntKind.wrap .i64 ((((a0.fld 2).els).length : Int) + 1))) (.br (decide (IntKind.wrap .i64 ((((a0.fld 2).els).length : Int) + 1) ≤ IntKind.wrap .i64 ((((a0.fld 2).els).length : Int) + 1))) (.br (decide (IntKind.wrap .i64 ((((a0.fld 2).els).length : Int) + 1) ≤ bigN)) (.call 34 [] [yy4.getD 0 D.nil] fun yy6 =>
 law17_GradeSorts_l10 n n down1.toBool (List.replicate (Int.toNat (IntKind.wrap .i64 ((((a0.fld 2).els).length : Int) + 1))) (D.bool false)) (yy6.getD 0 D.nil) 0 a0 (yy5.getD 0 D.nil)) .fail) .fail) .fail))))) := by kernel_rfl

/-! scrim/scrimlaw17.light -/
def law17_light_orc : List (Nat × Orc) := []
theorem law17_light_tree (n : Nat) (a0 : D) : evFun Tryz.prog md law17_light_orc n 31 [] [a0] =
 .call 36 [] [a0] fun yy1 =>
 .br ((yy1.getD 0 D.nil).toBool) (.ret [D.bool (decide ((((a0.fld 2).els).length : Int) ≤ 100))])
 (.ret [D.bool false]) := by kernel_rfl

/-! scrim/scrimlaw17.awake -/
def law17_awake_orc : List (Nat × Orc) := []
theorem law17_awake_tree (n : Nat)  : evFun Tryz.prog md law17_awake_orc n 32 [] [] =
 .call 37 [] [D.sl [D.int 3, D.int 1, D.int 2], D.int 0] fun yy1 =>
 .call 33 [] [yy1.getD 0 D.nil, D.bool false] fun yy2 =>
 .call 33 [] [yy1.getD 0 D.nil, D.bool true] fun yy3 =>
 .br (((yy2.getD 1 D.nil).toInt) == 0) (.br (((yy3.getD 1 D.nil).toInt) == 0) (.call 37 [] [D.sl [D.int 2, D.int 3, D.int 1], D.int 0] fun yy4 =>
 .call 38 [] [yy2.getD 0 D.nil, yy4.getD 0 D.nil] fun yy5 =>
 .br ((yy5.getD 0 D.nil).toBool) (.call 37 [] [D.sl [D.int 1, D.int 3, D.int 2], D.int 0] fun yy6 =>
 .call 38 [] [yy3.getD 0 D.nil, yy6.getD 0 D.nil] fun yy7 =>
 .ret [D.bool ((yy7.getD 0 D.nil).toBool)])
 (.ret [D.bool false]))
 (.ret [D.bool false]))
 (.ret [D.bool false]) := by kernel_rfl

end Go.Proofs.YtbgcadcpeabpgaaGreat
set_option maxRecDepth 100000
namespace Go.Proofs.YtbgcadcpeabpgaaGreat
def light17 (a : Arr) : Bool := goodA a && decide ((a.cells.length : Int) ≤ 100)
theorem light17_good {a : Arr} (h : light17 a = true) : rightA 8 a = true ∧ a.cells.length ≤ 100 := by
  unfold light17 at h
  simp only [Bool.and_eq_true, decide_eq_true_eq] at h
  exact ⟨goodA_right h.1, by omega⟩
theorem law17_light_sp (a : Arr) (ha : Fits a) : Sp 31 [dA a] [.bool (light17 a)] := by
  refine sound_ 0 (law17_light_tree _ _) (wp_call (ref08_Good_sp a ha) ?_)
  unfold light17
  simp only [dA_0, dA_1, dA_2, dC_0, dC_1, dC_2, dC_3, dC_4, dN_0, dN_1, dN_2, els_sl, els_dI, els_dL, List.length_map, Int.toNat_natCast, toInt_int, toInt_dB, toBool_bool, getD_c0, getD_c1, int_beq, int_bne, not_dec, dInt_dB, Int.toNat_zero]
  refine wp_br (fun h => wp_ret (by rw [h]; rfl)) (fun h => wp_ret (by rw [h]; rfl))
theorem grade_fits {a : Arr} {dn : Bool} (ha : rightA 8 a = true) : Fits (gradeA a dn).1 := by
  have la := (rightA_len ha).1
  unfold gradeA
  split
  · refine fits_vec (by rw [List.length_map, order_len]; omega) (fun x hx => ?_)
    obtain ⟨i, hi, rfl⟩ := List.mem_map.1 hx
    have := order_mem.1 hi
    exact inR_small (by omega) (by omega)
  · exact fits_none
theorem same17_sp (l m : List Int) (h : l.all (fun x => decide (-100000 ≤ x ∧ x ≤ 100000)) = true) (hl : l.length ≤ 100) (e : vecA l 0 = vecA m 0) : Sp 38 [dA (vecA l 0), dA (vecA m 0)] [.bool true] := by
  have := ref08_Same_sp (vecA l 0) (fits_vec (by omega) (aw_in l h)) (vecA m 0)
  rw [show eqA (vecA l 0) (vecA m 0) = true from eqA_iff.2 e] at this
  exact this
theorem cmp_ints (d : Nat) (x y : Int) : cmpC d (intC x) (intC y) = cmpZ x y := by
  unfold cmpC cmpCf
  have e : cmpR (ofZ x) (ofZ y) = cmpZ x y := by
    unfold cmpR
    rw [numT_ofZ, numT_ofZ, numB_one rfl, numB_one rfl, Int.mul_one, Int.mul_one]
  exact e
theorem aw_right : rightA 8 (vecA [3, 1, 2] 0) = true := rightA_of rfl (fun c hc => by
  obtain ⟨x, hx, rfl⟩ := List.mem_map.1 hc
  exact rightC_int 8 (aw_in [3, 1, 2] (by decide) x hx))
theorem law17_awake_sp : Sp 32 [] [.bool true] := by
  have k3 : ∀ (dn : Bool) (i j : Nat), kk 8 (vecA [3, 1, 2] 0).cells dn i j = if dn then cmpZ ([3, 1, 2].getD j 0) ([3, 1, 2].getD i 0) else cmpZ ([3, 1, 2].getD i 0) ([3, 1, 2].getD j 0) := fun dn i j => by
    have e : ∀ i : Nat, (vecA [3, 1, 2] 0).cells.getD i (intC 0) = intC ([3, 1, 2].getD i 0) := fun i => by
      match i with
      | 0 => rfl
      | 1 => rfl
      | 2 => rfl
      | i + 3 => rfl
    unfold kk
    rw [e, e, cmp_ints, cmp_ints]
  have o1 : orderS (vecA [3, 1, 2] 0) false = [1, 2, 0] := by
    unfold orderS
    rw [show kk 8 (vecA [3, 1, 2] 0).cells false = fun i j => cmpZ ([3, 1, 2].getD i 0) ([3, 1, 2].getD j 0) from funext fun i => funext fun j => k3 false i j]
    decide
  have o2 : orderS (vecA [3, 1, 2] 0) true = [0, 2, 1] := by
    unfold orderS
    rw [show kk 8 (vecA [3, 1, 2] 0).cells true = fun i j => cmpZ ([3, 1, 2].getD j 0) ([3, 1, 2].getD i 0) from funext fun i => funext fun j => k3 true i j]
    decide
  have t : totA (vecA [3, 1, 2] 0) = 0 := totA_vec _ _
  have g1 := grade_Grade_sp (vecA [3, 1, 2] 0) false aw_right
  have g2 := grade_Grade_sp (vecA [3, 1, 2] 0) true aw_right
  rw [show gradeA (vecA [3, 1, 2] 0) false = (vecA [2, 3, 1] 0, 0) by unfold gradeA; rw [if_pos (show (vecA [3, 1, 2] 0).shape.length = 1 from rfl), o1, t]; rfl] at g1
  rw [show gradeA (vecA [3, 1, 2] 0) true = (vecA [1, 3, 2] 0, 0) by unfold gradeA; rw [if_pos (show (vecA [3, 1, 2] 0).shape.length = 1 from rfl), o2, t]; rfl] at g2
  refine sound_ 0 (law17_awake_tree _) ?_
  refine wp_call (ref11_Vector_sp [3, 1, 2] 0 (by decide) (aw_in _ (by decide))) (wp_call g1 (wp_call g2 (wp_tt rfl (wp_tt rfl ?_))))
  refine wp_call (ref11_Vector_sp [2, 3, 1] 0 (by decide) (aw_in _ (by decide))) (wp_call (same17_sp [2, 3, 1] _ (by decide) (by decide) rfl) (wp_tt rfl ?_))
  exact wp_call (ref11_Vector_sp [1, 3, 2] 0 (by decide) (aw_in _ (by decide))) (wp_call (same17_sp [1, 3, 2] _ (by decide) (by decide) rfl) (wp_ret rfl))
theorem awake17 : Tw (.call 32 [] [] fun y => .ret [D.bool ((y.getD 0 D.nil).toBool)]) [.bool true] := wp_call law17_awake_sp (wp_ret rfl)
end Go.Proofs.YtbgcadcpeabpgaaGreat
set_option maxRecDepth 100000
namespace Go.Proofs.YtbgcadcpeabpgaaGreat
/-! scrim/pick.At -/
def pick_At_orc : List (Nat × Orc) := [(7, ⟨[(1, some 40), (2, none), (4, none), (5, none), (7, some 23), (8, none), (26, some 23), (27, none), (28, none)], [(2, true), (4, false), (5, false)], [(.slot 8, 1070, 68)]⟩)]
def pick_At_ps : List Nat := [26, 40]
def pick_At_rs : List ResultVar := [.cell 4 26, .cell 5 29]
def pick_At_ts : List Nat := [26, 29]
noncomputable def pick_At_l7 (n m7 : Nat) (l1 : D) (s7 : D) (cells8 : List D) (t26 : D) (t27 : Int) (t28 : Int) (a2 : D) (r4_0 : Int) (e5 : Int) : Tree :=
  evLoop Tryz.prog md (ev Tryz.prog md n pick_At_orc (cAt (bodyOf Tryz.prog 19) [1, 1, 1, 1, 1, 0, 1, 0, 0])) (orcAt pick_At_orc 7) m7 ⟨[.undef, .d 40 l1, .ptr 2 [], .undef, .ptr 4 [], .ptr 5 [], .undef, .d 23 s7, .row 1070, .undef, .undef, .undef, .undef, .undef, .undef, .undef, .undef, .undef, .undef, .undef, .undef, .undef, .undef, .undef, .undef, .undef, .d 23 t26, .i .i64 t27, .i .i64 t28, .undef, .undef, .undef, .undef, .undef, .undef, .undef, .undef, .undef, .undef, .undef, .undef, .undef, .undef, .undef, .undef, .undef, .undef, .undef, .undef, .undef], [(2, .var 26 (.d 26 a2) true), (4, .var 26 (.agg 26 [.i .u64 r4_0, .mt, .mt]) true), (5, .var 29 (.i .i64 e5) true), (1070, .row 68 cells8 true)], [2, 4, 5, 1070], [(53, [.ptr 4 [], .ptr 5 []])], []⟩
   (blockK 0 (seqK (joinE Tryz.prog md (joinAt pick_At_orc (cAt (bodyOf Tryz.prog 19) [1, 1, 1, 1, 1, 1])) (ev Tryz.prog md n pick_At_orc (cAt (bodyOf Tryz.prog 19) [1, 1, 1, 1, 1, 1]))) (retK Tryz.prog md (md 19) pick_At_ps pick_At_rs pick_At_ts)))
theorem pick_At_l7_succ (n m7 : Nat) (l1 : D) (s7 : D) (cells8 : List D) (t26 : D) (t27 : Int) (t28 : Int) (a2 : D) (r4_0 : Int) (e5 : Int) : pick_At_l7 n (m7 + 1) l1 s7 cells8 t26 t27 t28 a2 r4_0 e5 =
 .br (decide (t28 < t27)) (.br (decide (0 ≤ t28)) (.br (decide (t28 < (t26.els.length : Int))) (.br (decide (0 ≤ (t26.els.getD (Int.toNat t28) D.nil).toInt)) (.br (decide ((t26.els.getD (Int.toNat t28) D.nil).toInt < (((a2.fld 2).els).length : Int))) (.br (decide (0 ≤ t28)) (.br (decide (t28 < (cells8.length : Int))) (pick_At_l7 n m7 l1 s7 (cells8.set (Int.toNat t28) (((a2.fld 2).els).getD (Int.toNat ((t26.els.getD (Int.toNat t28) D.nil).toInt)) D.nil)) t26 t27 (IntKind.wrap .i64 (t28 + 1)) a2 r4_0 e5) .fail) .fail) .fail) .fail) .fail) .fail)
 (.call 25 [] [l1] fun yy2 =>
 .call 54 [] [D.int ((a2.fld 0).toInt), D.int ((yy2.getD 0 D.nil).toInt)] fun yy3 =>
 .ret [D.agg [D.int ((yy3.getD 0 D.nil).toInt), s7, D.sl cells8], D.int 0]) := by kernel_rfl
theorem pick_At_tree (n : Nat) (a0 : D) (l1 : D) : evFun Tryz.prog md pick_At_orc n 19 [] [a0, l1] =
 .call 22 [] [a0, l1] fun yy1 =>
 .br (((yy1.getD 2 D.nil).toInt) != 0) (.ret [D.agg [D.int 0, D.sl [], D.sl []], D.int ((yy1.getD 2 D.nil).toInt)])
 (.br (decide (0 ≤ (((yy1.getD 0 D.nil).els).length : Int))) (.br (decide ((((yy1.getD 0 D.nil).els).length : Int) ≤ (((yy1.getD 0 D.nil).els).length : Int))) (.br (decide ((((yy1.getD 0 D.nil).els).length : Int) ≤ bigN)) (pick_At_l7 n n l1 (yy1.getD 1 D.nil) (List.replicate (Int.toNat (((yy1.getD 0 D.nil).els).length : Int)) (D.agg [D.int 0, D.int 0, D.agg [D.bool false, D.sl [], D.sl []], D.int 0, D.sl []])) (yy1.getD 0 D.nil) (((yy1.getD 0 D.nil).els).length : Int) 0 a0 0 ((yy1.getD 2 D.nil).toInt)) .fail) .fail) .fail) := by kernel_rfl

/-! scrim/pick.Places -/
def pick_Places_orc : List (Nat × Orc) := [(6, ⟨[(2, none), (4, none), (5, none), (6, none), (33, some 40), (34, none), (35, none)], [(2, true), (4, false), (5, false), (6, false)], [(.fld 4 [], 1060, 3), (.fld 5 [], 1061, 3)]⟩), (16, ⟨[(2, none), (4, none), (5, none), (6, none), (8, none), (9, none), (10, some 23), (12, none), (33, some 40), (34, none), (35, none), (66, some 23), (67, none), (68, none)], [(2, true), (4, true), (5, false), (6, false), (8, true)], [(.slot 12, 1160, 3), (.fld 5 [], 1161, 3)]⟩), (19, ⟨[(2, none), (4, none), (5, none), (6, none), (8, none), (9, none), (10, some 23), (12, none), (14, none), (33, some 40), (34, none), (35, none), (66, some 23), (67, none), (68, none), (72, some 23), (73, none), (74, none)], [(2, true), (4, true), (5, false), (6, false), (8, true)], [(.slot 12, 1190, 3), (.fld 5 [], 1191, 3)]⟩)]
def pick_Places_ps : List Nat := [26, 40]
def pick_Places_rs : List ResultVar := [.cell 4 23, .cell 5 23, .cell 6 29]
def pick_Places_ts : List Nat := [23, 23, 29]
noncomputable def pick_Places_l19 (n m6 m16 m19 : Nat) (long9 : Int) (part10 : D) (next12 : List D) (k14 : Int) (t33 : D) (t34 : Int) (t35 : Int) (t66 : D) (t67 : Int) (t68 : Int) (t72 : D) (t73 : Int) (t74 : Int) (a2 : D) (at4 : D) (s5 : List D) (e6 : Int) (p8 : D) : Tree :=
  evLoop Tryz.prog md (ev Tryz.prog md n pick_Places_orc (cAt (bodyOf Tryz.prog 22) [1, 1, 1, 1, 0, 1, 0, 0, 1, 1, 0, 0, 1, 1, 1, 1, 1, 1, 0, 1, 0, 0, 1, 1, 0, 0, 1, 1, 0, 0])) (orcAt pick_Places_orc 19) m19 ⟨[.undef, .undef, .ptr 2 [], .undef, .ptr 4 [], .ptr 5 [], .ptr 6 [], .undef, .ptr 8 [], .i .i64 long9, .d 23 part10, .undef, .row 1190, .undef, .i .i64 k14, .undef, .undef, .undef, .undef, .undef, .undef, .undef, .undef, .undef, .undef, .undef, .undef, .undef, .undef, .undef, .undef, .undef, .undef, .d 40 t33, .i .i64 t34, .i .i64 t35, .undef, .undef, .undef, .undef, .undef, .undef, .undef, .undef, .undef, .undef, .undef, .undef, .undef, .undef, .undef, .undef, .undef, .undef, .undef, .undef, .undef, .undef, .undef, .undef, .undef, .undef, .undef, .undef, .undef, .undef, .d 23 t66, .i .i64 t67, .i .i64 t68, .undef, .undef, .undef, .d 23 t72, .i .i64 t73, .i .i64 t74, .undef, .undef, .undef, .undef, .undef, .undef, .undef, .undef, .undef, .undef, .undef, .undef, .undef, .undef, .undef, .undef, .undef, .undef, .undef, .undef, .undef, .undef, .undef, .undef, .undef, .undef, .undef, .undef, .undef, .undef, .undef, .undef, .undef, .undef, .undef, .undef], [(2, .var 26 (.d 26 a2) true), (4, .var 23 (.d 23 at4) true), (5, .var 23 (.row 1191) true), (6, .var 29 (.i .i64 e6) true), (8, .var 53 (.d 53 p8) true), (1190, .row 3 next12 true), (1191, .row 3 s5 true)], [2, 4, 5, 6, 8, 1190, 1191], [(56, [.ptr 4 [], .ptr 5 [], .ptr 6 []])], []⟩
   (blockK 4 (blockK 3 (seqK (joinE Tryz.prog md (joinAt pick_Places_orc (cAt (bodyOf Tryz.prog 22) [1, 1, 1, 1, 0, 1, 0, 0, 1, 1, 0, 0, 1, 1, 1, 1, 1, 1, 0, 1, 0, 0, 1, 1, 1])) (ev Tryz.prog md n pick_Places_orc (cAt (bodyOf Tryz.prog 22) [1, 1, 1, 1, 0, 1, 0, 0, 1, 1, 0, 0, 1, 1, 1, 1, 1, 1, 0, 1, 0, 0, 1, 1, 1]))) (loopK Tryz.prog md (orcAt pick_Places_orc 16) (fun s1 => evLoop Tryz.prog md (ev Tryz.prog md n pick_Places_orc (cAt (bodyOf Tryz.prog 22) [1, 1, 1, 1, 0, 1, 0, 0, 1, 1, 0, 0, 1, 1, 1, 1, 1, 1, 0, 1, 0, 0])) (orcAt pick_Places_orc 16) m16 s1 (blockK 2 (seqK (joinE Tryz.prog md (joinAt pick_Places_orc (cAt (bodyOf Tryz.prog 22) [1, 1, 1, 1, 0, 1, 0, 0, 1, 1, 0, 0, 1, 1, 1, 1, 1, 1, 1])) (ev Tryz.prog md n pick_Places_orc (cAt (bodyOf Tryz.prog 22) [1, 1, 1, 1, 0, 1, 0, 0, 1, 1, 0, 0, 1, 1, 1, 1, 1, 1, 1]))) (blockK 1 (seqK (joinE Tryz.prog md (joinAt pick_Places_orc (cAt (bodyOf Tryz.prog 22) [1, 1, 1, 1, 0, 1, 0, 0, 1, 1, 1])) (ev Tryz.prog md n pick_Places_orc (cAt (bodyOf Tryz.prog 22) [1, 1, 1, 1, 0, 1, 0, 0, 1, 1, 1]))) (loopK Tryz.prog md (orcAt pick_Places_orc 6) (fun s1 => evLoop Tryz.prog md (ev Tryz.prog md n pick_Places_orc (cAt (bodyOf Tryz.prog 22) [1, 1, 1, 1, 0, 1, 0, 0])) (orcAt pick_Places_orc 6) m6 s1 (blockK 0 (seqK (joinE Tryz.prog md (joinAt pick_Places_orc (cAt (bodyOf Tryz.prog 22) [1, 1, 1, 1, 1])) (ev Tryz.prog md n pick_Places_orc (cAt (bodyOf Tryz.prog 22) [1, 1, 1, 1, 1]))) (retK Tryz.prog md (md 22) pick_Places_ps pick_Places_rs pick_Places_ts)))) (blockK 0 (seqK (joinE Tryz.prog md (joinAt pick_Places_orc (cAt (bodyOf Tryz.prog 22) [1, 1, 1, 1, 1])) (ev Tryz.prog md n pick_Places_orc (cAt (bodyOf Tryz.prog 22) [1, 1, 1, 1, 1]))) (retK Tryz.prog md (md 22) pick_Places_ps pick_Places_rs pick_Places_ts))))))))) (blockK 2 (seqK (joinE Tryz.prog md (joinAt pick_Places_orc (cAt (bodyOf Tryz.prog 22) [1, 1, 1, 1, 0, 1, 0, 0, 1, 1, 0, 0, 1, 1, 1, 1, 1, 1, 1])) (ev Tryz.prog md n pick_Places_orc (cAt (bodyOf Tryz.prog 22) [1, 1, 1, 1, 0, 1, 0, 0, 1, 1, 0, 0, 1, 1, 1, 1, 1, 1, 1]))) (blockK 1 (seqK (joinE Tryz.prog md (joinAt pick_Places_orc (cAt (bodyOf Tryz.prog 22) [1, 1, 1, 1, 0, 1, 0, 0, 1, 1, 1])) (ev Tryz.prog md n pick_Places_orc (cAt (bodyOf Tryz.prog 22) [1, 1, 1, 1, 0, 1, 0, 0, 1, 1, 1]))) (loopK Tryz.prog md (orcAt pick_Places_orc 6) (fun s1 => evLoop Tryz.prog md (ev Tryz.prog md n pick_Places_orc (cAt (bodyOf Tryz.prog 22) [1, 1, 1, 1, 0, 1, 0, 0])) (orcAt pick_Places_orc 6) m6 s1 (blockK 0 (seqK (joinE Tryz.prog md (joinAt pick_Places_orc (cAt (bodyOf Tryz.prog 22) [1, 1, 1, 1, 1])) (ev Tryz.prog md n pick_Places_orc (cAt (bodyOf Tryz.prog 22) [1, 1, 1, 1, 1]))) (retK Tryz.prog md (md 22) pick_Places_ps pick_Places_rs pick_Places_ts)))) (blockK 0 (seqK (joinE Tryz.prog md (joinAt pick_Places_orc (cAt (bodyOf Tryz.prog 22) [1, 1, 1, 1, 1])) (ev Tryz.prog md n pick_Places_orc (cAt (bodyOf Tryz.prog 22) [1, 1, 1, 1, 1]))) (retK Tryz.prog md (md 22) pick_Places_ps pick_Places_rs pick_Places_ts))))))))))))
noncomputable def pick_Places_l16 (n m6 m16 : Nat) (long9 : Int) (part10 : D) (next12 : List D) (t33 : D) (t34 : Int) (t35 : Int) (t66 : D) (t67 : Int) (t68 : Int) (a2 : D) (at4 : D) (s5 : List D) (e6 : Int) (p8 : D) : Tree :=
  evLoop Tryz.prog md (ev Tryz.prog md n pick_Places_orc (cAt (bodyOf Tryz.prog 22) [1, 1, 1, 1, 0, 1, 0, 0, 1, 1, 0, 0, 1, 1, 1, 1, 1, 1, 0, 1, 0, 0])) (orcAt pick_Places_orc 16) m16 ⟨[.undef, .undef, .ptr 2 [], .undef, .ptr 4 [], .ptr 5 [], .ptr 6 [], .undef, .ptr 8 [], .i .i64 long9, .d 23 part10, .undef, .row 1160, .undef, .undef, .undef, .undef, .undef, .undef, .undef, .undef, .undef, .undef, .undef, .undef, .undef, .undef, .undef, .undef, .undef, .undef, .undef, .undef, .d 40 t33, .i .i64 t34, .i .i64 t35, .undef, .undef, .undef, .undef, .undef, .undef, .undef, .undef, .undef, .undef, .undef, .undef, .undef, .undef, .undef, .undef, .undef, .undef, .undef, .undef, .undef, .undef, .undef, .undef, .undef, .undef, .undef, .undef, .undef, .undef, .d 23 t66, .i .i64 t67, .i .i64 t68, .undef, .undef, .undef, .undef, .undef, .undef, .undef, .undef, .undef, .undef, .undef, .undef, .undef, .undef, .undef, .undef, .undef, .undef, .undef, .undef, .undef, .undef, .undef, .undef, .undef, .undef, .undef, .undef, .undef, .undef, .undef, .undef, .undef, .undef, .undef, .undef, .undef, .undef, .undef, .undef, .undef, .undef], [(2, .var 26 (.d 26 a2) true), (4, .var 23 (.d 23 at4) true), (5, .var 23 (.row 1161) true), (6, .var 29 (.i .i64 e6) true), (8, .var 53 (.d 53 p8) true), (1160, .row 3 next12 true), (1161, .row 3 s5 true)], [2, 4, 5, 6, 8, 1160, 1161], [(56, [.ptr 4 [], .ptr 5 [], .ptr 6 []])], []⟩
   (blockK 2 (seqK (joinE Tryz.prog md (joinAt pick_Places_orc (cAt (bodyOf Tryz.prog 22) [1, 1, 1, 1, 0, 1, 0, 0, 1, 1, 0, 0, 1, 1, 1, 1, 1, 1, 1])) (ev Tryz.prog md n pick_Places_orc (cAt (bodyOf Tryz.prog 22) [1, 1, 1, 1, 0, 1, 0, 0, 1, 1, 0, 0, 1, 1, 1, 1, 1, 1, 1]))) (blockK 1 (seqK (joinE Tryz.prog md (joinAt pick_Places_orc (cAt (bodyOf Tryz.prog 22) [1, 1, 1, 1, 0, 1, 0, 0, 1, 1, 1])) (ev Tryz.prog md n pick_Places_orc (cAt (bodyOf Tryz.prog 22) [1, 1, 1, 1, 0, 1, 0, 0, 1, 1, 1]))) (loopK Tryz.prog md (orcAt pick_Places_orc 6) (fun s1 => evLoop Tryz.prog md (ev Tryz.prog md n pick_Places_orc (cAt (bodyOf Tryz.prog 22) [1, 1, 1, 1, 0, 1, 0, 0])) (orcAt pick_Places_orc 6) m6 s1 (blockK 0 (seqK (joinE Tryz.prog md (joinAt pick_Places_orc (cAt (bodyOf Tryz.prog 22) [1, 1, 1, 1, 1])) (ev Tryz.prog md n pick_Places_orc (cAt (bodyOf Tryz.prog 22) [1, 1, 1, 1, 1]))) (retK Tryz.prog md (md 22) pick_Places_ps pick_Places_rs pick_Places_ts)))) (blockK 0 (seqK (joinE Tryz.prog md (joinAt pick_Places_orc (cAt (bodyOf Tryz.prog 22) [1, 1, 1, 1, 1])) (ev Tryz.prog md n pick_Places_orc (cAt (bodyOf Tryz.prog 22) [1, 1, 1, 1, 1]))) (retK Tryz.prog md (md 22) pick_Places_ps pick_Places_rs pick_Places_ts))))))))
noncomputable def pick_Places_l6 (n m6 : Nat) (t33 : D) (t34 : Int) (t35 : Int) (a2 : D) (at4 : List D) (s5 : List D) (e6 : Int) : Tree :=
  evLoop Tryz.prog md (ev Tryz.prog md n pick_Places_orc (cAt (bodyOf Tryz.prog 22) [1, 1, 1, 1, 0, 1, 0, 0])) (orcAt pick_Places_orc 6) m6 ⟨[.undef, .undef, .ptr 2 [], .undef, .ptr 4 [], .ptr 5 [], .ptr 6 [], .undef, .undef, .undef, .undef, .undef, .undef, .undef, .undef, .undef, .undef, .undef, .undef, .undef, .undef, .undef, .undef, .undef, .undef, .undef, .undef, .undef, .undef, .undef, .undef, .undef, .undef, .d 40 t33, .i .i64 t34, .i .i64 t35, .undef, .undef, .undef, .undef, .undef, .undef, .undef, .undef, .undef, .undef, .undef, .undef, .undef, .undef, .undef, .undef, .undef, .undef, .undef, .undef, .undef, .undef, .undef, .undef, .undef, .undef, .undef, .undef, .undef, .undef, .undef, .undef, .undef, .undef, .undef, .undef, .undef, .undef, .undef, .undef, .undef, .undef, .undef, .undef, .undef, .undef, .undef, .undef, .undef, .undef, .undef, .undef, .undef, .undef, .undef, .undef, .undef, .undef, .undef, .undef, .undef, .undef, .undef, .undef, .undef, .undef, .undef, .undef, .undef, .undef, .undef, .undef, .undef, .undef, .undef], [(2, .var 26 (.d 26 a2) true), (4, .var 23 (.row 1060) true), (5, .var 23 (.row 1061) true), (6, .var 29 (.i .i64 e6) true), (1060, .row 3 at4 true), (1061, .row 3 s5 true)], [2, 4, 5, 6, 1060, 1061], [(56, [.ptr 4 [], .ptr 5 [], .ptr 6 []])], []⟩
   (blockK 0 (seqK (joinE Tryz.prog md (joinAt pick_Places_orc (cAt (bodyOf Tryz.prog 22) [1, 1, 1, 1, 1])) (ev Tryz.prog md n pick_Places_orc (cAt (bodyOf Tryz.prog 22) [1, 1, 1, 1, 1]))) (retK Tryz.prog md (md 22) pick_Places_ps pick_Places_rs pick_Places_ts)))
theorem pick_Places_l19_succ (n m6 m16 m19 : Nat) (long9 : Int) (part10 : D) (next12 : List D) (k14 : Int) (t33 : D) (t34 : Int) (t35 : Int) (t66 : D) (t67 : Int) (t68 : Int) (t72 : D) (t73 : Int) (t74 : Int) (a2 : D) (at4 : D) (s5 : List D) (e6 : Int) (p8 : D) : pick_Places_l19 n m6 m16 (m19 + 1) long9 part10 next12 k14 t33 t34 t35 t66 t67 t68 t72 t73 t74 a2 at4 s5 e6 p8 =
 .br (decide (t74 < t73)) (.br (decide (0 ≤ t74)) (.br (decide (t74 < (t72.els.length : Int))) (.br (decide (next12.length + [D.int (IntKind.wrap .i64 ((IntKind.wrap .i64 (k14 * long9)) + ((t72.els.getD (Int.toNat t74) D.nil).toInt)))].length ≤ bigN)) (pick_Places_l19 n m6 m16 m19 long9 part10 (next12 ++ [D.int (IntKind.wrap .i64 ((IntKind.wrap .i64 (k14 * long9)) + ((t72.els.getD (Int.toNat t74) D.nil).toInt)))]) k14 t33 t34 t35 t66 t67 t68 t72 t73 (IntKind.wrap .i64 (t74 + 1)) a2 at4 s5 e6 p8) .fail) .fail) .fail)
 (pick_Places_l16 n m6 m16 long9 part10 next12 t33 t34 t35 t66 t67 (IntKind.wrap .i64 (t68 + 1)) a2 at4 s5 e6 p8) := by kernel_rfl
theorem pick_Places_l16_succ (n m6 m16 : Nat) (long9 : Int) (part10 : D) (next12 : List D) (t33 : D) (t34 : Int) (t35 : Int) (t66 : D) (t67 : Int) (t68 : Int) (a2 : D) (at4 : D) (s5 : List D) (e6 : Int) (p8 : D) : pick_Places_l16 n m6 (m16 + 1) long9 part10 next12 t33 t34 t35 t66 t67 t68 a2 at4 s5 e6 p8 =
 .br (decide (t68 < t67)) (.br (decide (0 ≤ t68)) (.br (decide (t68 < (t66.els.length : Int))) (pick_Places_l19 n m6 m16 n long9 part10 next12 ((t66.els.getD (Int.toNat t68) D.nil).toInt) t33 t34 t35 t66 t67 t68 part10 (part10.els.length : Int) 0 a2 at4 s5 e6 p8) .fail) .fail)
 (.br ((p8.fld 0).toBool) (.br (decide (s5.length + [D.int long9].length ≤ bigN)) (pick_Places_l6 n m6 t33 t34 (IntKind.wrap .i64 (t35 + 1)) a2 next12 (s5 ++ [D.int long9]) e6) .fail)
 (.br (decide (s5.length + (((p8.fld 1).fld 1).els).length ≤ bigN)) (pick_Places_l6 n m6 t33 t34 (IntKind.wrap .i64 (t35 + 1)) a2 next12 (s5 ++ (((p8.fld 1).fld 1).els)) e6) .fail)) := by kernel_rfl
theorem pick_Places_l6_succ (n m6 : Nat) (t33 : D) (t34 : Int) (t35 : Int) (a2 : D) (at4 : List D) (s5 : List D) (e6 : Int) : pick_Places_l6 n (m6 + 1) t33 t34 t35 a2 at4 s5 e6 =
 .br (decide (t35 < t34)) (.br (decide (0 ≤ t35)) (.br (decide (t35 < (t33.els.length : Int))) (.br (decide (0 ≤ t35)) (.br (decide (t35 < (((a2.fld 1).els).length : Int))) (.call 57 [] [t33.els.getD (Int.toNat t35) D.nil, D.int ((((a2.fld 1).els).getD (Int.toNat t35) D.nil).toInt)] fun yy1 =>
 .br (((yy1.getD 1 D.nil).toInt) != 0) (.ret [D.sl [], D.sl [], D.int ((yy1.getD 1 D.nil).toInt)])
 (.br (decide (2048 < (IntKind.wrap .i64 ((at4.length : Int) * (((yy1.getD 0 D.nil).els).length : Int))))) (.ret [D.sl [], D.sl [], D.int 7])
 (.br (decide (0 ≤ 0)) (.br (decide (0 ≤ IntKind.wrap .i64 ((at4.length : Int) * (((yy1.getD 0 D.nil).els).length : Int)))) (.br (decide (IntKind.wrap .i64 ((at4.length : Int) * (((yy1.getD 0 D.nil).els).length : Int)) ≤ bigN)) (pick_Places_l16 n m6 n ((((a2.fld 1).els).getD (Int.toNat t35) D.nil).toInt) (yy1.getD 0 D.nil) (List.replicate (Int.toNat 0) (D.int 0)) t33 t34 t35 (D.sl at4) (at4.length : Int) 0 a2 (D.sl at4) s5 e6 (t33.els.getD (Int.toNat t35) D.nil)) .fail) .fail) .fail))) .fail) .fail) .fail) .fail)
 (.call 58 [] [D.sl s5] fun yy2 =>
 .br (((yy2.getD 1 D.nil).toInt) != 0) (.ret [D.sl [], D.sl [], D.int ((yy2.getD 1 D.nil).toInt)])
 (.ret [D.sl at4, D.sl s5, D.int 0])) := by kernel_rfl
theorem pick_Places_tree (n : Nat) (a0 : D) (l1 : D) : evFun Tryz.prog md pick_Places_orc n 22 [] [a0, l1] =
 .br ((l1.els.length : Int) == 0) (.ret [D.sl [], D.sl [], D.int 5])
 (.br ((l1.els.length : Int) != (((a0.fld 1).els).length : Int)) (.ret [D.sl [], D.sl [], D.int 5])
 (pick_Places_l6 n n l1 (l1.els.length : Int) 0 a0 [D.int 0] [] 0)) := by kernel_rfl

/-! scrim/pick.Total -/
def pick_Total_orc : List (Nat × Orc) := [(3, ⟨[(3, none), (6, some 40), (7, none), (8, none)], [], []⟩)]
def pick_Total_ps : List Nat := [40]
def pick_Total_rs : List ResultVar := [.tmp 2]
def pick_Total_ts : List Nat := [22]
noncomputable def pick_Total_l3 (n m3 : Nat) (r3 : Int) (t6 : D) (t7 : Int) (t8 : Int) : Tree :=
  evLoop Tryz.prog md (ev Tryz.prog md n pick_Total_orc (cAt (bodyOf Tryz.prog 25) [1, 1, 0, 1, 0, 0])) (orcAt pick_Total_orc 3) m3 ⟨[.undef, .undef, .undef, .i .u64 r3, .undef, .undef, .d 40 t6, .i .i64 t7, .i .i64 t8, .undef, .undef, .undef, .undef, .undef, .undef, .undef, .undef, .undef, .undef, .undef, .undef, .undef], [], [], [], []⟩
   (blockK 0 (seqK (joinE Tryz.prog md (joinAt pick_Total_orc (cAt (bodyOf Tryz.prog 25) [1, 1, 1])) (ev Tryz.prog md n pick_Total_orc (cAt (bodyOf Tryz.prog 25) [1, 1, 1]))) (retK Tryz.prog md (md 25) pick_Total_ps pick_Total_rs pick_Total_ts)))
theorem pick_Total_l3_succ (n m3 : Nat) (r3 : Int) (t6 : D) (t7 : Int) (t8 : Int) : pick_Total_l3 n (m3 + 1) r3 t6 t7 t8 =
 .br (decide (t8 < t7)) (.br (decide (0 ≤ t8)) (.br (decide (t8 < (t6.els.length : Int))) (.br (!(((t6.els.getD (Int.toNat t8) D.nil).fld 0).toBool)) (.call 61 [] [(t6.els.getD (Int.toNat t8) D.nil).fld 1] fun yy1 =>
 .call 54 [] [D.int r3, D.int ((yy1.getD 0 D.nil).toInt)] fun yy2 =>
 pick_Total_l3 n m3 ((yy2.getD 0 D.nil).toInt) t6 t7 (IntKind.wrap .i64 (t8 + 1)))
 (pick_Total_l3 n m3 r3 t6 t7 (IntKind.wrap .i64 (t8 + 1)))) .fail) .fail)
 (.ret [D.int r3]) := by kernel_rfl
theorem pick_Total_tree (n : Nat) (l0 : D) : evFun Tryz.prog md pick_Total_orc n 25 [] [l0] =
 pick_Total_l3 n n 0 l0 (l0.els.length : Int) 0 := by kernel_rfl

/-! (scrim/pick.Axis).part -/
def pick_Axis_part_orc : List (Nat × Orc) := [(6, ⟨[(6, none), (20, none), (21, none)], [], [(.slot 6, 1060, 3)]⟩), (16, ⟨[(1, none), (10, none), (44, some 23), (45, none), (46, none)], [], [(.slot 10, 1160, 3)]⟩)]
def pick_Axis_part_ps : List Nat := [53, 3]
def pick_Axis_part_rs : List ResultVar := [.tmp 4, .tmp 5]
def pick_Axis_part_ts : List Nat := [23, 29]
noncomputable def pick_Axis_part_l6 (n m6 : Nat) (r6 : List D) (t20 : Int) (t21 : Int) : Tree :=
  evLoop Tryz.prog md (ev Tryz.prog md n pick_Axis_part_orc (cAt (bodyOf Tryz.prog 57) [1, 0, 1, 0, 1, 1, 0, 1, 0, 0])) (orcAt pick_Axis_part_orc 6) m6 ⟨[.undef, .undef, .undef, .undef, .undef, .undef, .row 1060, .undef, .undef, .undef, .undef, .undef, .undef, .undef, .undef, .undef, .undef, .undef, .undef, .undef, .i .i64 t20, .i .i64 t21, .undef, .undef, .undef, .undef, .undef, .undef, .undef, .undef, .undef, .undef, .undef, .undef, .undef, .undef, .undef, .undef, .undef, .undef, .undef, .undef, .undef, .undef, .undef, .undef, .undef, .undef, .undef, .undef, .undef, .undef, .undef, .undef, .undef, .undef, .undef, .undef, .undef, .undef, .undef, .undef, .undef, .undef, .undef], [(1060, .row 3 r6 true)], [1060], [], []⟩
   (blockK 0 (seqK (joinE Tryz.prog md (joinAt pick_Axis_part_orc (cAt (bodyOf Tryz.prog 57) [1, 0, 1, 0, 1, 1, 1])) (ev Tryz.prog md n pick_Axis_part_orc (cAt (bodyOf Tryz.prog 57) [1, 0, 1, 0, 1, 1, 1]))) (seqK (joinE Tryz.prog md (joinAt pick_Axis_part_orc (cAt (bodyOf Tryz.prog 57) [1, 1])) (ev Tryz.prog md n pick_Axis_part_orc (cAt (bodyOf Tryz.prog 57) [1, 1]))) (retK Tryz.prog md (md 57) pick_Axis_part_ps pick_Axis_part_rs pick_Axis_part_ts))))
noncomputable def pick_Axis_part_l16 (n m16 : Nat) (long1 : Int) (r10 : List D) (t44 : D) (t45 : Int) (t46 : Int) : Tree :=
  evLoop Tryz.prog md (ev Tryz.prog md n pick_Axis_part_orc (cAt (bodyOf Tryz.prog 57) [1, 1, 1, 1, 1, 0, 1, 0, 0])) (orcAt pick_Axis_part_orc 16) m16 ⟨[.undef, .i .i64 long1, .undef, .undef, .undef, .undef, .undef, .undef, .undef, .undef, .row 1160, .undef, .undef, .undef, .undef, .undef, .undef, .undef, .undef, .undef, .undef, .undef, .undef, .undef, .undef, .undef, .undef, .undef, .undef, .undef, .undef, .undef, .undef, .undef, .undef, .undef, .undef, .undef, .undef, .undef, .undef, .undef, .undef, .undef, .d 23 t44, .i .i64 t45, .i .i64 t46, .undef, .undef, .undef, .undef, .undef, .undef, .undef, .undef, .undef, .undef, .undef, .undef, .undef, .undef, .undef, .undef, .undef, .undef], [(1160, .row 3 r10 true)], [1160], [], []⟩
   (blockK 2 (seqK (joinE Tryz.prog md (joinAt pick_Axis_part_orc (cAt (bodyOf Tryz.prog 57) [1, 1, 1, 1, 1, 1])) (ev Tryz.prog md n pick_Axis_part_orc (cAt (bodyOf Tryz.prog 57) [1, 1, 1, 1, 1, 1]))) (retK Tryz.prog md (md 57) pick_Axis_part_ps pick_Axis_part_rs pick_Axis_part_ts)))
theorem pick_Axis_part_l6_succ (n m6 : Nat) (r6 : List D) (t20 : Int) (t21 : Int) : pick_Axis_part_l6 n (m6 + 1) r6 t20 t21 =
 .br (decide (t21 < t20)) (.br (decide (0 ≤ t21)) (.br (decide (t21 < (r6.length : Int))) (pick_Axis_part_l6 n m6 (r6.set (Int.toNat t21) (D.int t21)) t20 (IntKind.wrap .i64 (t21 + 1))) .fail) .fail)
 (.ret [D.sl r6, D.int 0]) := by kernel_rfl
theorem pick_Axis_part_l16_succ (n m16 : Nat) (long1 : Int) (r10 : List D) (t44 : D) (t45 : Int) (t46 : Int) : pick_Axis_part_l16 n (m16 + 1) long1 r10 t44 t45 t46 =
 .br (decide (t46 < t45)) (.br (decide (0 ≤ t46)) (.br (decide (t46 < (t44.els.length : Int))) (.br (decide (((t44.els.getD (Int.toNat t46) D.nil).toInt) < 1)) (.ret [D.sl [], D.int 6])
 (.br (decide (long1 < ((t44.els.getD (Int.toNat t46) D.nil).toInt))) (.ret [D.sl [], D.int 6])
 (.br (decide (0 ≤ t46)) (.br (decide (t46 < (r10.length : Int))) (pick_Axis_part_l16 n m16 long1 (r10.set (Int.toNat t46) (D.int (IntKind.wrap .i64 (((t44.els.getD (Int.toNat t46) D.nil).toInt) - 1)))) t44 t45 (IntKind.wrap .i64 (t46 + 1))) .fail) .fail))) .fail) .fail)
 (.ret [D.sl r10, D.int 0]) := by kernel_rfl
theorem pick_Axis_part_tree (n : Nat) (p0 : D) (long1 : D) : evFun Tryz.prog md pick_Axis_part_orc n 57 [] [p0, long1] =
 .br ((p0.fld 0).toBool) (.br (decide (2048 < long1.toInt)) (.ret [D.sl [], D.int 7])
 (.br (decide (0 ≤ long1.toInt)) (.br (decide (long1.toInt ≤ long1.toInt)) (.br (decide (long1.toInt ≤ bigN)) (pick_Axis_part_l6 n n (List.replicate (Int.toNat long1.toInt) (D.int 0)) ((List.replicate (Int.toNat long1.toInt) (D.int 0)).length : Int) 0) .fail) .fail) .fail))
 (.call 66 [] [(p0.fld 1).fld 2] fun yy1 =>
 .call 40 [] [yy1.getD 0 D.nil] fun yy2 =>
 .br (((yy2.getD 1 D.nil).toInt) != 0) (.ret [D.sl [], D.int ((yy2.getD 1 D.nil).toInt)])
 (.br (decide (0 ≤ (((yy2.getD 0 D.nil).els).length : Int))) (.br (decide ((((yy2.getD 0 D.nil).els).length : Int) ≤ (((yy2.getD 0 D.nil).els).length : Int))) (.br (decide ((((yy2.getD 0 D.nil).els).length : Int) ≤ bigN)) (pick_Axis_part_l16 n n long1.toInt (List.replicate (Int.toNat (((yy2.getD 0 D.nil).els).length : Int)) (D.int 0)) (yy2.getD 0 D.nil) (((yy2.getD 0 D.nil).els).length : Int) 0) .fail) .fail) .fail)) := by kernel_rfl

end Go.Proofs.YtbgcadcpeabpgaaGreat
