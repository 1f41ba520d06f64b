/- Proved: lemmas for the law of this folder, part 5. No condition. -/
import Derived.Test.YtbgcadcpeabpgaaGreatRows
import Derived.WalkKit
import Derived.WalkSpells
import Derived.WalkLawsBesides
import Derived.Lib.Hide
import Derived.Laws.CopyOwn
import Derived.Deep.QuietTactic
import Derived.BigQuiet
import Derived.Orders
import Derived.Defers
import Derived.Recover
import Derived.Test.YtbgcadcpeabpgaaGreatProg
import Derived.KernelRfl
import Derived.ProofKit
import Derived.OpenShut
import Derived.Test.YtbgcadcpeabpgaaGreatZdf0bb586
set_option linter.unusedSimpArgs false
set_option linter.unusedVariables false
set_option maxRecDepth 100000
namespace Go.Proofs.YtbgcadcpeabpgaaGreat

theorem Fits.len {a : Arr} (h : Fits a) : a.cells.length ≤ 9223372036854775807 := by cases h; assumption
theorem Fits.sh {a : Arr} (h : Fits a) : a.shape.length ≤ 9223372036854775807 := by cases h; assumption
/-- What a cell's lists may be. -/
def FitsC (c : Cell) : Prop := c.n.top.length ≤ 9223372036854775807 ∧ c.n.bot.length ≤ 9223372036854775807 ∧ c.inn.length ≤ 9223372036854775807 ∧ ∀ x ∈ c.inn, Fits x
theorem Fits.cell {a : Arr} (h : Fits a) : ∀ c ∈ a.cells, FitsC c := by
  cases h with
  | mk h1 h2 h3 h5 h4 => exact fun c hc => ⟨(h3 c hc).1, (h3 c hc).2.1, (h3 c hc).2.2, h4 c hc⟩
theorem Fits.of {s : Lab} {sh : List Int} {cs : List Cell} (h1 : sh.length ≤ 9223372036854775807) (h2 : cs.length ≤ 9223372036854775807) (h3 : ∀ x ∈ sh, inR x) (h4 : ∀ c ∈ cs, FitsC c) : Fits (.mk s sh cs) :=
  .mk h1 h2 (fun c hc => ⟨(h4 c hc).1, (h4 c hc).2.1, (h4 c hc).2.2.1⟩) h3 (fun c hc => (h4 c hc).2.2.2)

mutual
def totA : Arr → Lab
  | .mk s _ cs => totCs s cs
def totCs : Lab → List (CellF Arr) → Lab
  | l, [] => l
  | l, c :: cs => totCs (totC l c) cs
def totC : Lab → CellF Arr → Lab
  | l, ⟨cl, _, _, _, inn⟩ => totAs (l ||| cl) inn
def totAs : Lab → List Arr → Lab
  | l, [] => l
  | l, a :: as_ => totAs (l ||| totA a) as_
end
theorem totAs_fold : ∀ (as_ : List Arr) (l : Lab), totAs l as_ = as_.foldl (fun l x => l ||| totA x) l
  | [], l => by simp [totAs]
  | a :: as_, l => by simp [totAs, totAs_fold as_]
theorem totC_eq (l : Lab) (c : Cell) : totC l c = c.inn.foldl (fun l x => l ||| totA x) (l ||| c.l) := by cases c; rw [totC, totAs_fold]
theorem totCs_fold : ∀ (cs : List Cell) (l : Lab), totCs l cs = cs.foldl totC l
  | [], l => by simp [totCs]
  | c :: cs, l => by simp [totCs, totCs_fold cs]
theorem totA_eq (a : Arr) : totA a = a.cells.foldl totC a.s := by cases a; rw [totA, totCs_fold]; rfl

/-- One cell without axes that is no box. -/
def simpleA (a : Arr) : Bool := match a.shape, a.cells with
  | [], [c] => decide (¬ c.kind = 2)
  | _, _ => false
def boxOK (c : Cell) (r : Arr → Bool) : Bool := match c.inn with
  | [x] => !simpleA x && r x
  | _ => false
def cellR (k : Bool) (r : Arr → Bool) (c : Cell) : Bool :=
  if c.kind = 0 then decide (c.c = 0 ∧ c.inn.length = 0) && rightN c.n
  else if c.kind = 1 then decide (c.n = .zero ∧ c.inn.length = 0) && mayC c.c
  else decide (c.kind = 2 ∧ c.n = .zero ∧ c.c = 0) && (k && boxOK c r)
def rightA : Nat → Arr → Bool
  | 0, a => decide (countS a.shape = ((a.cells.length : Int), 0)) && a.cells.all (cellR false (fun _ => false))
  | d + 1, a => decide (countS a.shape = ((a.cells.length : Int), 0)) && a.cells.all (cellR true (rightA d))
def rightC : Nat → Cell → Bool
  | 0 => cellR false (fun _ => false)
  | d + 1 => cellR true (rightA d)
theorem rightA_eq (d : Nat) (a : Arr) : rightA d a = (decide (countS a.shape = ((a.cells.length : Int), 0)) && a.cells.all (rightC d)) := by cases d <;> rfl

theorem simple_tree {Q : List D → Prop} (a : Arr) (hq : Q [.bool (simpleA a)]) : (Tree.br (decide ((a.shape.length : Int) = 0)) (.br (decide ((a.cells.length : Int) = 1)) (.br (decide (0 ≤ (0 : Int))) (.br (decide (0 < (a.cells.length : Int))) (.ret [D.bool (decide (¬ (((((a.cells.map dC).getD (Int.toNat 0) D.nil).fld 1).toInt) = 2)))]) .fail) .fail) (.ret [D.bool false])) (.ret [D.bool false])).wp Tryz.prog md Q := by
  unfold simpleA at hq
  refine wp_decs (fun h1 => wp_decs (fun h2 => ?_) (fun h2 => wp_ret ?_)) (fun h1 => wp_ret ?_)
  · match hs : a.shape, hc : a.cells with
    | [], [c] =>
      rw [hs, hc] at hq
      exact wp_dec (by omega) (wp_dec (by simp) (wp_ret (by simpa [Int.toNat] using hq)))
    | x :: xs, _ => rw [hs] at h1; simp at h1; omega
    | _, [] => rw [hc] at h2; simp at h2
    | _, x :: y :: xs => rw [hc] at h2; simp at h2; omega
  · match hs : a.shape, hc : a.cells with
    | [], [c] => rw [hc] at h2; simp at h2
    | x :: xs, _ => rw [hs] at hq; exact hq
    | [], [] => rw [hs, hc] at hq; exact hq
    | [], x :: y :: xs => rw [hs, hc] at hq; exact hq
  · match hs : a.shape, hc : a.cells with
    | [], _ => rw [hs] at h1; simp at h1
    | x :: xs, _ => rw [hs] at hq; exact hq
theorem ref08_Simple_sp (a : Arr) : Sp 94 [dA a] [.bool (simpleA a)] := by
  refine sound_ 0 (ref08_Simple_tree _ _) ?_
  simp only [dA_0, dA_1, dA_2, dC_0, dC_1, dC_2, dC_3, dC_4, dN_0, dN_1, dN_2, els_sl, els_dI, els_dL, List.length_map, Int.toNat_natCast, toInt_int, toInt_dB, toBool_bool, getD_c0, getD_c1, int_beq, int_bne, not_dec, dInt_dB, Int.toNat_zero]
  exact simple_tree a rfl
theorem ref08_zero_sp (n : Num) : Sp 92 [dN n] [.bool (decide (n = .zero))] := by
  refine sound_ 0 (ref08_zero_tree _ _) ?_
  simp only [dN_0, dN_1, dN_2, els_dL, List.length_map, toBool_bool, int_beq]
  have e : (n = Num.zero) ↔ (n.neg = false ∧ n.top.length = 0 ∧ n.bot.length = 0) := by
    rw [num_eq, List.length_eq_zero_iff, List.length_eq_zero_iff]; rfl
  refine wp_br (fun h1 => wp_decs (fun h2 => wp_ret ?_) (fun h2 => wp_ret ?_)) (fun h1 => wp_ret ?_)
  · congr 2; rw [decide_eq_decide, e]; exact ⟨fun h => ⟨by simpa using h1, by omega, by omega⟩, fun h => by omega⟩
  · rw [decide_eq_false]; rw [e]; omega
  · rw [decide_eq_false]; rw [e]; simp at h1; simp [h1]
theorem ref08_Cell_step (d : Nat) (c : Cell) (hc : FitsC c) (hd : d ≤ 100) (ih : ∀ e, e + 1 = d → ∀ a, Fits a → Sp 15 [dA a, .int (e : Int)] [.bool (rightA e a)]) : Sp 50 [dC c, .int (d : Int)] [.bool (rightC d c)] := by
  suffices key : ∀ (k : Bool) (r : Arr → Bool), (k = true ↔ 0 < d) → (∀ a, k = true → Fits a → Sp 15 [dA a, .int ((d : Int) - 1)] [.bool (r a)]) → Sp 50 [dC c, .int (d : Int)] [.bool (cellR k r c)] by
    cases d with
    | zero => exact key false (fun _ => false) (by simp) (by simp)
    | succ e => exact key true (rightA e) (by simp) (fun a _ ha => by have := ih e rfl a ha; simpa using this)
  intro k r hk hr
  refine sound_ 0 (ref08_Cell_tree _ _ _) ?_
  simp only [dA_0, dA_1, dA_2, dC_0, dC_1, dC_2, dC_3, dC_4, dN_0, dN_1, dN_2, els_sl, els_dI, els_dL, List.length_map, Int.toNat_natCast, toInt_int, toInt_dB, toBool_bool, getD_c0, getD_c1, int_beq, int_bne, not_dec, dInt_dB, Int.toNat_zero]
  unfold cellR
  refine wp_decs (fun h0 => ?_) (fun h0 => ?_)
  · rw [if_pos h0]
    refine wp_decs (fun h1 => wp_decs (fun h2 => wp_call (ref04_Right_sp c.n) (wp_ret ?_)) (fun h2 => wp_ret ?_)) (fun h1 => wp_ret ?_)
    · rw [decide_eq_true ⟨h1, by omega⟩]; rfl
    · rw [decide_eq_false (by omega)]; rfl
    · rw [decide_eq_false (by omega)]; rfl
  rw [if_neg h0]
  refine wp_decs (fun h0 => wp_call (ref08_zero_sp c.n) ?_) (fun h0 => ?_)
  · rw [if_pos h0]
    simp only [getD_c0, toBool_bool]
    refine wp_decs (fun h1 => wp_decs (fun h2 => wp_call (ref06_May_sp c.c) (wp_ret ?_)) (fun h2 => wp_ret ?_)) (fun h1 => wp_ret ?_)
    · rw [decide_eq_true ⟨h1, by omega⟩]; rfl
    · rw [decide_eq_false (fun hh => h2 (by omega))]; rfl
    · rw [decide_eq_false (fun hh => h1 hh.1)]; rfl
  rw [if_neg h0]
  refine wp_decs (fun h0 => wp_call (ref08_zero_sp c.n) ?_) (fun h0 => wp_ret (by rw [decide_eq_false (fun hh => h0 hh.1)]; rfl))
  simp only [getD_c0, toBool_bool]
  refine wp_decs (fun h1 => wp_decs (fun h2 => wp_decs (fun h3 => wp_decs (fun h4 => ?_) (fun h4 => wp_ret ?_)) (fun h3 => wp_ret ?_)) (fun h2 => wp_ret ?_)) (fun h1 => wp_ret ?_)
  · have hkt := hk.2 (by omega)
    rw [show decide (c.kind = 2 ∧ c.n = .zero ∧ c.c = 0) = true from decide_eq_true ⟨h0, h1, h2⟩, hkt, Bool.true_and, Bool.true_and]
    unfold boxOK
    match hi : c.inn with
    | [] => rw [hi] at h3; simp at h3
    | x :: y :: xs => rw [hi] at h3; simp at h3; omega
    | [x] =>
      simp only [List.map_cons, List.map_nil, Int.toNat_zero, getD_c0, List.length_cons, List.length_nil]
      refine wp_dec (by omega) (wp_dec (by omega) (wp_call (ref08_Simple_sp x) ?_))
      simp only [getD_c0, toBool_bool]
      refine wp_br (fun h5 => wp_dec (by omega) (wp_dec (by omega) ?_)) (fun h5 => wp_ret (by rw [h5]; rfl))
      rw [wrap64 (by omega) (by omega)]
      refine wp_call (hr x hkt (hc.2.2.2 x (by rw [hi]; simp))) (wp_ret ?_)
      rw [h5]; rfl
  · have : k = false := by cases k with
      | false => rfl
      | true => exact absurd (hk.1 rfl) (by omega)
    rw [this, Bool.false_and, Bool.and_false]
  · have : boxOK c r = false := by
      unfold boxOK
      match hi : c.inn with
      | [] => rfl
      | x :: y :: xs => rfl
      | [x] => rw [hi] at h3; simp at h3
    rw [this, Bool.and_false, Bool.and_false]
  · rw [decide_eq_false (fun hh => h2 hh.2.2)]; rfl
  · rw [decide_eq_false (fun hh => h1 hh.2.1)]; rfl
theorem ref08_Right_step (d : Nat) (a : Arr) (ha : Fits a) (ih : ∀ c, FitsC c → Sp 50 [dC c, .int (d : Int)] [.bool (rightC d c)]) : Sp 15 [dA a, .int (d : Int)] [.bool (rightA d a)] := by
  have hl := ha.len
  refine sound_ (a.cells.length + 1) (ref08_Right_tree _ _ _) ?_
  simp only [dA_0, dA_1, dA_2, dC_0, dC_1, dC_2, dC_3, dC_4, dN_0, dN_1, dN_2, els_sl, els_dI, els_dL, List.length_map, Int.toNat_natCast, toInt_int, toInt_dB, toBool_bool, getD_c0, getD_c1, int_beq, int_bne, not_dec, dInt_dB, Int.toNat_zero]
  refine wp_call (ref07_Count_sp a.shape) ?_
  rw [rightA_eq]
  simp only [getD_c0, getD_c1, toInt_int]
  refine wp_decs (fun h => wp_ret ?_) (fun h => wp_decs (fun h' => wp_ret ?_) (fun h' => ?_))
  · rw [decide_eq_false]; rfl
    intro hh; rw [hh] at h; exact h rfl
  · rw [decide_eq_false]; rfl
    intro hh; rw [hh] at h'; exact h' rfl
  · have hc : countS a.shape = ((a.cells.length : Int), 0) := Prod.ext (by simpa using h') (by simpa using h)
    rw [hc, decide_eq_true rfl, Bool.true_and]
    have key := loop_list (P := Tryz.prog) (md := md) a.cells (fun m k (_ : Unit) => ref08_Right_l5 (a.cells.length + 1) m (d : Int) (a.cells.length : Int) (k : Int) (dA a)) (fun rest _ => [.bool (rest.all (rightC d))]) (fun _ _ => True)
      (fun m k s hk _ => by
        simp only [ref08_Right_l5_succ]
        exact wp_ndec (by omega) (wp_ret rfl))
      (fun m k s x rest hd _ ih' => by
        obtain ⟨h1, h2, h3⟩ := drop_cons hd
        simp only [ref08_Right_l5_succ, dA_0, dA_1, dA_2, dC_0, dC_1, dC_2, dC_3, dC_4, dN_0, dN_1, dN_2, els_sl, els_dI, els_dL, List.length_map, Int.toNat_natCast, toInt_int, toInt_dB, toBool_bool, getD_c0, getD_c1, int_beq, int_bne, not_dec, dInt_dB, Int.toNat_zero, getD_map h2, wrap_succ (show k < 9223372036854775807 by omega)]
        repeat (refine wp_dec (by omega) ?_)
        refine wp_call (ih x (ha.cell x (List.mem_of_getElem? h2))) ?_
        simp only [getD_c0, toBool_bool, List.all_cons]
        refine wp_br (fun h4 => wp_ret ?_) (fun h4 => ?_)
        · simp at h4; rw [h4]; rfl
        · simp at h4; rw [h4, Bool.true_and]; exact ih' () trivial)
      (a.cells.length + 1) 0 () (by omega) (by omega) trivial
    exact key
theorem ref08_Right_all : ∀ d : Nat, d ≤ 100 → (∀ c, FitsC c → Sp 50 [dC c, .int (d : Int)] [.bool (rightC d c)]) ∧ ∀ a, Fits a → Sp 15 [dA a, .int (d : Int)] [.bool (rightA d a)]
  | 0, hd => by
    have hc : ∀ c, FitsC c → Sp 50 [dC c, .int ((0 : Nat) : Int)] [.bool (rightC 0 c)] := fun c hc => ref08_Cell_step 0 c hc hd (fun e he => by omega)
    exact ⟨hc, fun a ha => ref08_Right_step 0 a ha hc⟩
  | d + 1, hd => by
    have ih := ref08_Right_all d (by omega)
    have hc : ∀ c, FitsC c → Sp 50 [dC c, .int ((d + 1 : Nat) : Int)] [.bool (rightC (d + 1) c)] := fun c hc => ref08_Cell_step (d + 1) c hc hd (fun e he => by
      have : e = d := by omega
      subst this; exact ih.2)
    exact ⟨hc, fun a ha => ref08_Right_step (d + 1) a ha hc⟩
theorem ref08_Right_sp (a : Arr) (ha : Fits a) : Sp 15 [dA a, .int 8] [.bool (rightA 8 a)] := (ref08_Right_all 8 (by decide)).2 a ha
/-- How many of so many parts are left behind an array. -/
def w64 (x : Int) : Int := IntKind.wrap .i64 x
def leftAs (r : Arr → Int → Int) : List Arr → Int → Int
  | [], n => n
  | a :: as_, n => if 0 ≤ n then leftAs r as_ (r a n) else n
def leftCs (r : Arr → Int → Int) : List Cell → Int → Int
  | [], n => n
  | c :: cs, n => if 0 ≤ n then leftCs r cs (leftAs r c.inn (w64 (w64 (w64 (n - 1) - (c.n.top.length : Int)) - (c.n.bot.length : Int)))) else n
def leftA : Nat → Arr → Int → Int
  | 0, _, _ => -1
  | d + 1, a, n => leftCs (leftA d) a.cells (w64 (w64 (n - 1) - (a.shape.length : Int)))
def fewA (a : Arr) : Bool := decide (0 ≤ leftA 12 a 4000)
theorem ref08_left_sp : ∀ (d : Nat), d ≤ 100 → ∀ (a : Arr), Fits a → ∀ n : Int, Sp 121 [dA a, .int (d : Int), .int n] [.int (leftA d a n)]
  | 0, _, a, ha, n => sound_ 0 (ref08_left_tree _ _ _ _) (wp_tt rfl (wp_ret rfl))
  | d + 1, hd, a, ha, n => by
    obtain ⟨N, hN⟩ := bigFuel
    have hl := ha.len
    refine sound_ N (ref08_left_tree _ _ _ _) ?_
    simp only [dA_0, dA_1, dA_2, dC_0, dC_1, dC_2, dC_3, dC_4, dN_0, dN_1, dN_2, els_sl, els_dI, els_dL, List.length_map, Int.toNat_natCast, toInt_int, toInt_dB, toBool_bool, getD_c0, getD_c1, int_beq, int_bne, not_dec, dInt_dB, Int.toNat_zero]
    refine wp_ndec (by omega) ?_
    have key := loop_list (P := Tryz.prog) (md := md) a.cells (fun m k (n : Int) => ref08_left_l5 N m ((d + 1 : Nat) : Int) n (k : Int) (dA a)) (fun rest n => [.int (leftCs (leftA d) rest n)]) (fun _ _ => True)
      (fun m k n hk _ => by
        simp only [ref08_left_l5_succ, dA_0, dA_1, dA_2, dC_0, dC_1, dC_2, dC_3, dC_4, dN_0, dN_1, dN_2, els_sl, els_dI, els_dL, List.length_map, Int.toNat_natCast, toInt_int, toInt_dB, toBool_bool, getD_c0, getD_c1, int_beq, int_bne, not_dec, dInt_dB, Int.toNat_zero]
        exact wp_ndec (by omega) (wp_ret rfl))
      (fun m k n c rest hdr _ ih => by
        obtain ⟨h1, h2, h3⟩ := drop_cons hdr
        have hc := ha.cell c (List.mem_of_getElem? h2)
        have hlc := hc.2.2.1
        simp only [ref08_left_l5_succ, dA_0, dA_1, dA_2, dC_0, dC_1, dC_2, dC_3, dC_4, dN_0, dN_1, dN_2, els_sl, els_dI, els_dL, List.length_map, Int.toNat_natCast, toInt_int, toInt_dB, toBool_bool, getD_c0, getD_c1, int_beq, int_bne, not_dec, dInt_dB, Int.toNat_zero, getD_map h2, leftCs]
        refine wp_dec (by omega) (wp_decs (fun hn => ?_) (fun hn => wp_ret (by rw [if_neg hn])))
        rw [if_pos hn]
        repeat (refine wp_dec (by omega) ?_)
        have key := loop_list (P := Tryz.prog) (md := md) c.inn (fun m' j (n : Int) => ref08_left_l9 N m m' ((d + 1 : Nat) : Int) n (k : Int) (j : Int) (dA a)) (fun rest' n => [.int (leftCs (leftA d) rest (leftAs (leftA d) rest' n))]) (fun _ _ => True)
          (fun m' j n hj _ => by
            simp only [ref08_left_l9_succ, dA_0, dA_1, dA_2, dC_0, dC_1, dC_2, dC_3, dC_4, dN_0, dN_1, dN_2, els_sl, els_dI, els_dL, List.length_map, Int.toNat_natCast, toInt_int, toInt_dB, toBool_bool, getD_c0, getD_c1, int_beq, int_bne, not_dec, dInt_dB, Int.toNat_zero, getD_map h2, wrap_succ (show k < 9223372036854775807 by omega), leftAs]
            repeat (refine wp_dec (by omega) ?_)
            exact wp_ndec (by omega) (ih _ trivial))
          (fun m' j n x rest' hdr' _ ih' => by
            obtain ⟨g1, g2, g3⟩ := drop_cons hdr'
            simp only [ref08_left_l9_succ, dA_0, dA_1, dA_2, dC_0, dC_1, dC_2, dC_3, dC_4, dN_0, dN_1, dN_2, els_sl, els_dI, els_dL, List.length_map, Int.toNat_natCast, toInt_int, toInt_dB, toBool_bool, getD_c0, getD_c1, int_beq, int_bne, not_dec, dInt_dB, Int.toNat_zero, getD_map h2, getD_map g2, wrap_succ (show k < 9223372036854775807 by omega), wrap_succ (show j < 9223372036854775807 by omega), leftAs]
            refine wp_dec (by omega) (wp_dec (by omega) (wp_dec (by omega) (wp_decs (fun hn => ?_) (fun hn => by rw [if_neg hn]; exact ih _ trivial))))
            rw [if_pos hn]
            repeat (refine wp_dec (by omega) ?_)
            rw [wrap64 (by omega) (by omega), show ((d + 1 : Nat) : Int) - 1 = (d : Int) by omega]
            exact wp_call (ref08_left_sp d (by omega) x (hc.2.2.2 x (List.mem_of_getElem? g2)) n) (ih' _ trivial))
          N 0 (w64 (w64 (w64 (n - 1) - (c.n.top.length : Int)) - (c.n.bot.length : Int))) (by omega) (by omega) trivial
        exact key)
      N 0 (w64 (w64 (n - 1) - (a.shape.length : Int))) (by omega) (by omega) trivial
    exact key
theorem ref08_Few_sp (a : Arr) (ha : Fits a) : Sp 76 [dA a] [.bool (fewA a)] := sound_ 0 (ref08_Few_tree _ _) (wp_call (ref08_left_sp 12 (by decide) a ha 4000) (wp_ret rfl))
/-- Axes that make few places. -/
def thinS : List Int → Int → Int
  | [], n => n
  | x :: xs, n => if n ≤ 100000 then thinS xs (if 0 < x then w64 (n * x) else n) else n
def okT (n : Int) : Bool := decide (¬ 100000 < n)
mutual
def thinA : Arr → Bool
  | .mk _ sh cs => okT (thinS sh 1) && thinCs cs
def thinCs : List (CellF Arr) → Bool
  | [] => true
  | c :: cs => thinC c && thinCs cs
def thinC : CellF Arr → Bool
  | ⟨_, _, _, _, inn⟩ => thinAs inn
def thinAs : List Arr → Bool
  | [] => true
  | a :: as_ => thinA a && thinAs as_
end
theorem thinA_eq (a : Arr) : thinA a = (okT (thinS a.shape 1) && thinCs a.cells) := by cases a; rw [thinA]; rfl
theorem thinC_eq (c : Cell) : thinC c = thinAs c.inn := by cases c; rw [thinC]
theorem ref08_thin_sp (a : Arr) : Fits a → Sp 77 [dA a] [.bool (thinA a)] := by
  induction a using Arr.ind with
  | h s sh cs IH =>
    intro ha
    have hl := ha.len
    have hs := ha.sh
    have IH' : ∀ c ∈ (Arr.mk s sh cs).cells, ∀ x ∈ c.inn, Fits x → Sp 77 [dA x] [.bool (thinA x)] := IH
    generalize Arr.mk s sh cs = a at *
    obtain ⟨N, hN⟩ := bigFuel
    refine sound_ N (ref08_thin_tree _ _) ?_
    rw [thinA_eq]
    have inner : Tw (ref08_thin_l10 N N 0 (dA a)) [.bool (thinCs a.cells)] := by
      have key := loop_list (P := Tryz.prog) (md := md) a.cells (fun m k (_ : Unit) => ref08_thin_l10 N m (k : Int) (dA a)) (fun rest _ => [.bool (thinCs rest)]) (fun _ _ => True)
        (fun m k n hk _ => by
          simp only [ref08_thin_l10_succ, dA_0, dA_1, dA_2, dC_0, dC_1, dC_2, dC_3, dC_4, dN_0, dN_1, dN_2, els_sl, els_dI, els_dL, List.length_map, Int.toNat_natCast, toInt_int, toInt_dB, toBool_bool, getD_c0, getD_c1, int_beq, int_bne, not_dec, dInt_dB, Int.toNat_zero]
          exact wp_ndec (by omega) (wp_ret (by rw [thinCs])))
        (fun m k n c rest hdr _ ih => by
          obtain ⟨h1, h2, h3⟩ := drop_cons hdr
          have hc := ha.cell c (List.mem_of_getElem? h2)
          have hlc := hc.2.2.1
          simp only [ref08_thin_l10_succ, dA_0, dA_1, dA_2, dC_0, dC_1, dC_2, dC_3, dC_4, dN_0, dN_1, dN_2, els_sl, els_dI, els_dL, List.length_map, Int.toNat_natCast, toInt_int, toInt_dB, toBool_bool, getD_c0, getD_c1, int_beq, int_bne, not_dec, dInt_dB, Int.toNat_zero, getD_map h2]
          repeat (refine wp_dec (by omega) ?_)
          rw [thinCs, thinC_eq]
          have key := loop_list (P := Tryz.prog) (md := md) c.inn (fun m' j (_ : Unit) => ref08_thin_l13 N m m' (k : Int) (j : Int) (dA a)) (fun rest' _ => [.bool (thinAs rest' && thinCs rest)]) (fun _ _ => True)
            (fun m' j n hj _ => by
              simp only [ref08_thin_l13_succ, dA_0, dA_1, dA_2, dC_0, dC_1, dC_2, dC_3, dC_4, dN_0, dN_1, dN_2, els_sl, els_dI, els_dL, List.length_map, Int.toNat_natCast, toInt_int, toInt_dB, toBool_bool, getD_c0, getD_c1, int_beq, int_bne, not_dec, dInt_dB, Int.toNat_zero, getD_map h2, wrap_succ (show k < 9223372036854775807 by omega)]
              repeat (refine wp_dec (by omega) ?_)
              rw [thinAs, Bool.true_and]
              exact wp_ndec (by omega) (ih () trivial))
            (fun m' j n x rest' hdr' _ ih' => by
              obtain ⟨g1, g2, g3⟩ := drop_cons hdr'
              simp only [ref08_thin_l13_succ, dA_0, dA_1, dA_2, dC_0, dC_1, dC_2, dC_3, dC_4, dN_0, dN_1, dN_2, els_sl, els_dI, els_dL, List.length_map, Int.toNat_natCast, toInt_int, toInt_dB, toBool_bool, getD_c0, getD_c1, int_beq, int_bne, not_dec, dInt_dB, Int.toNat_zero, getD_map h2, getD_map g2, wrap_succ (show j < 9223372036854775807 by omega)]
              repeat (refine wp_dec (by omega) ?_)
              refine wp_call (IH' c (List.mem_of_getElem? h2) x (List.mem_of_getElem? g2) (hc.2.2.2 x (List.mem_of_getElem? g2))) ?_
              simp only [getD_c0, toBool_bool]
              rw [thinAs]
              refine wp_br (fun e => wp_ret ?_) (fun e => ?_)
              · simp at e; rw [e]; rfl
              · simp at e; rw [e, Bool.true_and]; exact ih' () trivial)
            N 0 () (by omega) (by omega) trivial
          exact key)
        N 0 () (by omega) (by omega) trivial
      exact key
    have fin : ∀ n : Int, Tw (.br (decide (100000 < n)) (.ret [D.bool false]) (ref08_thin_l10 N N 0 (dA a))) [.bool (okT n && thinCs a.cells)] := fun n => by
      unfold okT
      refine wp_decs (fun h => wp_ret ?_) (fun h => ?_)
      · rw [decide_eq_false (fun hh => hh h)]; rfl
      · rw [decide_eq_true h, Bool.true_and]; exact inner
    have key := loop_list (P := Tryz.prog) (md := md) a.shape (fun m k (n : Int) => ref08_thin_l3 N m n (k : Int) (dA a)) (fun rest n => [.bool (okT (thinS rest n) && thinCs a.cells)]) (fun _ _ => True)
      (fun m k n hk _ => by
        simp only [ref08_thin_l3_succ, dA_0, dA_1, dA_2, dC_0, dC_1, dC_2, dC_3, dC_4, dN_0, dN_1, dN_2, els_sl, els_dI, els_dL, List.length_map, Int.toNat_natCast, toInt_int, toInt_dB, toBool_bool, getD_c0, getD_c1, int_beq, int_bne, not_dec, dInt_dB, Int.toNat_zero]
        exact wp_ndec (by omega) (fin n))
      (fun m k n x rest hdr _ ih => by
        obtain ⟨h1, h2, h3⟩ := drop_cons hdr
        simp only [ref08_thin_l3_succ, dA_0, dA_1, dA_2, dC_0, dC_1, dC_2, dC_3, dC_4, dN_0, dN_1, dN_2, els_sl, els_dI, els_dL, List.length_map, Int.toNat_natCast, toInt_int, toInt_dB, toBool_bool, getD_c0, getD_c1, int_beq, int_bne, not_dec, dInt_dB, Int.toNat_zero, getD_map h2, wrap_succ (show k < 9223372036854775807 by omega), thinS]
        refine wp_dec (by omega) (wp_decs (fun hn => wp_dec (by omega) (wp_dec (by omega) (wp_decs (fun hx => wp_dec (by omega) (wp_dec (by omega) ?_)) (fun hx => ?_)))) (fun hn => ?_))
        · rw [if_pos hn, if_pos hx]; exact ih _ trivial
        · rw [if_pos hn, if_neg hx]; exact ih _ trivial
        · rw [if_neg hn]; exact fin n)
      N 0 1 (by omega) (by omega) trivial
    exact key
def goodA (a : Arr) : Bool := fewA a && rightA 8 a && thinA a
theorem goodA_right {a : Arr} (h : goodA a = true) : rightA 8 a = true := by unfold goodA at h; simp at h; exact h.1.2
theorem ref08_Good_sp (a : Arr) (ha : Fits a) : Sp 36 [dA a] [.bool (goodA a)] := by
  refine sound_ 0 (ref08_Good_tree _ _) (wp_call (ref08_Few_sp a ha) ?_)
  unfold goodA
  simp only [getD_c0, toBool_bool]
  refine wp_br (fun e1 => wp_call (ref08_Right_sp a ha) ?_) (fun e1 => wp_ret (by rw [e1]; rfl))
  simp only [getD_c0, toBool_bool]
  refine wp_br (fun e2 => wp_call (ref08_thin_sp a ha) (wp_ret ?_)) (fun e2 => wp_ret (by rw [e2, Bool.and_false]; rfl))
  rw [e1, e2]; rfl
theorem ref08_Total_sp (a : Arr) : Fits a → Sp 48 [dA a] [dB (totA a)] := by
  induction a using Arr.ind with
  | h s sh cs IH =>
    intro ha
    have hl := ha.len
    have IH' : ∀ c ∈ (Arr.mk s sh cs).cells, ∀ x ∈ c.inn, Fits x → Sp 48 [dA x] [dB (totA x)] := IH
    generalize Arr.mk s sh cs = a at *
    obtain ⟨N, hN⟩ := bigFuel
    refine sound_ N (ref08_Total_tree _ _) ?_
    rw [totA_eq]
    have key := loop_list (P := Tryz.prog) (md := md) a.cells (fun m k (l : Lab) => ref08_Total_l3 N m (l.toNat : Int) (k : Int) (dA a)) (fun rest l => [dB (rest.foldl totC l)]) (fun _ _ => True)
      (fun m k l hk _ => by
        simp only [ref08_Total_l3_succ, dA_0, dA_1, dA_2, dC_0, dC_1, dC_2, dC_3, dC_4, dN_0, dN_1, dN_2, els_sl, els_dI, els_dL, List.length_map, Int.toNat_natCast, toInt_int, toInt_dB, toBool_bool, getD_c0, getD_c1, int_beq, int_bne, not_dec, dInt_dB, Int.toNat_zero]
        exact wp_ndec (by omega) (wp_ret rfl))
      (fun m k l c rest hdr _ ih => by
        obtain ⟨h1, h2, h3⟩ := drop_cons hdr
        have hc := ha.cell c (List.mem_of_getElem? h2)
        have hlc := hc.2.2.1
        simp only [ref08_Total_l3_succ, dA_0, dA_1, dA_2, dC_0, dC_1, dC_2, dC_3, dC_4, dN_0, dN_1, dN_2, els_sl, els_dI, els_dL, List.length_map, Int.toNat_natCast, toInt_int, toInt_dB, toBool_bool, getD_c0, getD_c1, int_beq, int_bne, not_dec, dInt_dB, Int.toNat_zero, getD_map h2]
        repeat (refine wp_dec (by omega) ?_)
        refine wp_call (ref01_Join_sp l c.l) ?_
        simp only [getD_c0, toInt_dB, List.foldl_cons]
        rw [totC_eq]
        have key := loop_list (P := Tryz.prog) (md := md) c.inn (fun m' j (l : Lab) => ref08_Total_l7 N m m' (l.toNat : Int) (k : Int) (j : Int) (dA a)) (fun rest' l => [dB (rest.foldl totC (rest'.foldl (fun l x => l ||| totA x) l))]) (fun _ _ => True)
          (fun m' j l hj _ => by
            simp only [ref08_Total_l7_succ, dA_0, dA_1, dA_2, dC_0, dC_1, dC_2, dC_3, dC_4, dN_0, dN_1, dN_2, els_sl, els_dI, els_dL, List.length_map, Int.toNat_natCast, toInt_int, toInt_dB, toBool_bool, getD_c0, getD_c1, int_beq, int_bne, not_dec, dInt_dB, Int.toNat_zero, getD_map h2, wrap_succ (show k < 9223372036854775807 by omega)]
            repeat (refine wp_dec (by omega) ?_)
            exact wp_ndec (by omega) (ih _ trivial))
          (fun m' j l x rest' hdr' _ ih' => by
            obtain ⟨g1, g2, g3⟩ := drop_cons hdr'
            simp only [ref08_Total_l7_succ, dA_0, dA_1, dA_2, dC_0, dC_1, dC_2, dC_3, dC_4, dN_0, dN_1, dN_2, els_sl, els_dI, els_dL, List.length_map, Int.toNat_natCast, toInt_int, toInt_dB, toBool_bool, getD_c0, getD_c1, int_beq, int_bne, not_dec, dInt_dB, Int.toNat_zero, getD_map h2, getD_map g2, wrap_succ (show j < 9223372036854775807 by omega)]
            repeat (refine wp_dec (by omega) ?_)
            refine wp_call (IH' c (List.mem_of_getElem? h2) x (List.mem_of_getElem? g2) (hc.2.2.2 x (List.mem_of_getElem? g2))) (wp_call (ref01_Join_sp l (totA x)) ?_)
            exact ih' (l ||| totA x) trivial)
          N 0 (l ||| c.l) (by omega) (by omega) trivial
        exact key)
      N 0 a.s (by omega) (by omega) trivial
    simp only [dA_0, toInt_dB]
    exact key
/-- The same, with labels. -/
noncomputable def eqA (a b : Arr) : Bool := @decide (a = b) (Classical.propDecidable _)
noncomputable def eqC (a b : Cell) : Bool := @decide (a = b) (Classical.propDecidable _)
theorem eqA_iff {a b : Arr} : eqA a b = true ↔ a = b := by unfold eqA; exact @decide_eq_true_iff _ (Classical.propDecidable _)
theorem eqA_false {a b : Arr} (h : a ≠ b) : eqA a b = false := by cases e : eqA a b with
  | false => rfl
  | true => exact absurd (eqA_iff.1 e) h
theorem eqC_iff {a b : Cell} : eqC a b = true ↔ a = b := by unfold eqC; exact @decide_eq_true_iff _ (Classical.propDecidable _)
theorem eqC_false {a b : Cell} (h : a ≠ b) : eqC a b = false := by cases e : eqC a b with
  | false => rfl
  | true => exact absurd (eqC_iff.1 e) h
theorem eqA_self (a : Arr) : eqA a a = true := eqA_iff.2 rfl
theorem cell_eq (a b : Cell) : (a = b) ↔ (a.l = b.l ∧ a.kind = b.kind ∧ a.c = b.c ∧ a.n = b.n ∧ a.inn = b.inn) := by
  cases a; cases b
  constructor
  · rintro ⟨⟩; exact ⟨rfl, rfl, rfl, rfl, rfl⟩
  · rintro ⟨h1, h2, h3, h4, h5⟩; dsimp only at h1 h2 h3 h4 h5; subst h1; subst h2; subst h3; subst h4; subst h5; rfl
theorem arr_eq (a b : Arr) : (a = b) ↔ (a.s = b.s ∧ a.shape = b.shape ∧ a.cells = b.cells) := by
  cases a; cases b; simp
/-- A loop that asks whether two lists are the same. -/
theorem same_loop {α : Type} {P : Program} {md : Nat → FMode} (a b : List α) (e : α → α → Bool) (he : ∀ x ∈ a, ∀ y, e x y = true ↔ x = y) (hlen : a.length = b.length) (r : Bool) (hr : r = true ↔ a = b) (L : Nat → Nat → Tree)
    (hend : ∀ m, ∀ Q : List D → Prop, Q [.bool true] → (L (m + 1) a.length).wp P md Q)
    (hstep : ∀ m k x y, ∀ Q : List D → Prop, a[k]? = some x → b[k]? = some y → (e x y = false → Q [.bool false]) → (e x y = true → (L m (k + 1)).wp P md Q) → (L (m + 1) k).wp P md Q) (N : Nat) (hN : a.length < N) : (L N 0).wp P md (fun zs => zs = [.bool r]) := by
  have key := loop_up (P := P) (md := md) a.length (fun m k (_ : Unit) => L m k) (fun _ _ => [.bool r]) (fun k _ => a.take k = b.take k)
    (fun m s h => by
      refine hend m _ ?_
      rw [List.take_of_length_le (Nat.le_refl _), List.take_of_length_le (by omega)] at h
      rw [hr.2 h])
    (fun m k s hk h ih => by
      have ha : a[k]? = some a[k] := List.getElem?_eq_getElem _
      have hb : b[k]? = some (b[k]'(by omega)) := List.getElem?_eq_getElem _
      refine hstep m k _ _ _ ha hb (fun hf => ?_) (fun ht => ih () ?_)
      · have : r = false := by
          cases hrr : r with
          | false => rfl
          | true =>
            have := hr.1 hrr
            subst this
            rw [(he a[k] (List.getElem_mem _) a[k]).2 rfl] at hf; cases hf
        rw [this]
      · have : a[k] = b[k] := (he a[k] (List.getElem_mem _) _).1 ht
        rw [List.take_succ_eq_append_getElem hk, List.take_succ_eq_append_getElem (by omega), h, this])
    N 0 () (by omega) (by omega) (by simp)
  exact key
theorem ref08_SameCell_step (a : Cell) (hf : FitsC a) (ih : ∀ x ∈ a.inn, Fits x → ∀ y, Sp 38 [dA x, dA y] [.bool (eqA x y)]) (b : Cell) : Sp 79 [dC a, dC b] [.bool (eqC a b)] := by
  refine sound_ (a.inn.length + 1) (ref08_SameCell_tree _ _ _) ?_
  have hl := hf.2.2.1
  simp only [dA_0, dA_1, dA_2, dC_0, dC_1, dC_2, dC_3, dC_4, dN_0, dN_1, dN_2, els_sl, els_dI, els_dL, List.length_map, Int.toNat_natCast, toInt_int, toInt_dB, toBool_bool, getD_c0, getD_c1, int_beq, int_bne, not_dec, dInt_dB, Int.toNat_zero]
  refine wp_decs (fun h => wp_ret ?_) (fun h1 => wp_decs (fun h => wp_ret ?_) (fun h2 => wp_decs (fun h => wp_ret ?_) (fun h3 => wp_call (ref04_Same_sp a.n b.n hf.1 hf.2.1) ?_)))
  · rw [eqC_false]; rintro rfl; exact h rfl
  · rw [eqC_false]; rintro rfl; exact h rfl
  · rw [eqC_false]; rintro rfl; exact h rfl
  simp only [getD_c0, toBool_bool, not_dec]
  refine wp_decs (fun h => wp_ret ?_) (fun h4 => wp_decs (fun h => wp_ret ?_) (fun h5 => ?_))
  · rw [eqC_false]; rintro rfl; exact h rfl
  · rw [eqC_false]; rintro rfl; exact h rfl
  have e1 : a.l = b.l := BitVec.eq_of_toNat_eq (by omega)
  refine same_loop (P := Tryz.prog) (md := md) a.inn b.inn eqA (fun x _ y => eqA_iff) (by omega) (eqC a b) ?_ (fun m k => ref08_SameCell_l4 (a.inn.length + 1) m (k : Int) (dC a) (dC b)) ?_ ?_ (a.inn.length + 1) (by omega)
  · rw [eqC_iff, cell_eq]
    have h2' := Classical.not_not.1 h2
    have h3' := Classical.not_not.1 h3
    have h4' := Classical.not_not.1 h4
    simp [e1, h2', h3', h4']
  · intro m Q hQ
    simp only [ref08_SameCell_l4_succ, dA_0, dA_1, dA_2, dC_0, dC_1, dC_2, dC_3, dC_4, dN_0, dN_1, dN_2, els_sl, els_dI, els_dL, List.length_map, Int.toNat_natCast, toInt_int, toInt_dB, toBool_bool, getD_c0, getD_c1, int_beq, int_bne, not_dec, dInt_dB, Int.toNat_zero]
    exact wp_ndec (by omega) (wp_ret hQ)
  · intro m k x y Q hx hy hF hT
    have hk : k < a.inn.length := (List.getElem?_eq_some_iff.1 hx).1
    simp only [ref08_SameCell_l4_succ, dA_0, dA_1, dA_2, dC_0, dC_1, dC_2, dC_3, dC_4, dN_0, dN_1, dN_2, els_sl, els_dI, els_dL, List.length_map, Int.toNat_natCast, toInt_int, toInt_dB, toBool_bool, getD_c0, getD_c1, int_beq, int_bne, not_dec, dInt_dB, Int.toNat_zero, getD_map hx, getD_map hy, wrap_succ (show k < 9223372036854775807 by omega)]
    repeat (refine wp_dec (by omega) ?_)
    refine wp_call (ih x (List.mem_of_getElem? hx) (hf.2.2.2 x (List.mem_of_getElem? hx)) y) ?_
    simp only [getD_c0, toBool_bool]
    refine wp_br (fun h => wp_ret (hF (by simpa using h))) (fun h => hT (by simpa using h))
theorem ref08_Same_sp (a : Arr) : Fits a → ∀ b, Sp 38 [dA a, dA b] [.bool (eqA a b)] := by
  induction a using Arr.ind with
  | h s sh cs IH =>
    intro ha b
    have hl := ha.len
    have IH' : ∀ c ∈ (Arr.mk s sh cs).cells, ∀ x ∈ c.inn, Fits x → ∀ y, Sp 38 [dA x, dA y] [.bool (eqA x y)] := IH
    generalize Arr.mk s sh cs = a at *
    refine sound_ (a.cells.length + 1) (ref08_Same_tree _ _ _) ?_
    simp only [dA_0, dA_1, dA_2, dC_0, dC_1, dC_2, dC_3, dC_4, dN_0, dN_1, dN_2, els_sl, els_dI, els_dL, List.length_map, Int.toNat_natCast, toInt_int, toInt_dB, toBool_bool, getD_c0, getD_c1, int_beq, int_bne, not_dec, dInt_dB, Int.toNat_zero]
    refine wp_decs (fun h => wp_ret ?_) (fun h1 => wp_call (ref07_Ints_sp a.shape b.shape ha.sh) ?_)
    · rw [eqA_false]; rintro rfl; exact h rfl
    simp only [getD_c0, toBool_bool, not_dec]
    refine wp_decs (fun h => wp_ret ?_) (fun h4 => wp_decs (fun h => wp_ret ?_) (fun h5 => ?_))
    · rw [eqA_false]; rintro rfl; exact h rfl
    · rw [eqA_false]; rintro rfl; exact h rfl
    have e1 : a.s = b.s := BitVec.eq_of_toNat_eq (by omega)
    refine same_loop (P := Tryz.prog) (md := md) a.cells b.cells eqC (fun x _ y => eqC_iff) (by omega) (eqA a b) ?_ (fun m k => ref08_Same_l4 (a.cells.length + 1) m (k : Int) (dA a) (dA b)) ?_ ?_ (a.cells.length + 1) (by omega)
    · rw [eqA_iff, arr_eq]
      have h4' := Classical.not_not.1 h4
      simp [e1, h4']
    · intro m Q hQ
      simp only [ref08_Same_l4_succ, dA_0, dA_1, dA_2, dC_0, dC_1, dC_2, dC_3, dC_4, dN_0, dN_1, dN_2, els_sl, els_dI, els_dL, List.length_map, Int.toNat_natCast, toInt_int, toInt_dB, toBool_bool, getD_c0, getD_c1, int_beq, int_bne, not_dec, dInt_dB, Int.toNat_zero]
      exact wp_ndec (by omega) (wp_ret hQ)
    · intro m k x y Q hx hy hF hT
      have hk : k < a.cells.length := (List.getElem?_eq_some_iff.1 hx).1
      simp only [ref08_Same_l4_succ, dA_0, dA_1, dA_2, dC_0, dC_1, dC_2, dC_3, dC_4, dN_0, dN_1, dN_2, els_sl, els_dI, els_dL, List.length_map, Int.toNat_natCast, toInt_int, toInt_dB, toBool_bool, getD_c0, getD_c1, int_beq, int_bne, not_dec, dInt_dB, Int.toNat_zero, getD_map hx, getD_map hy, wrap_succ (show k < 9223372036854775807 by omega)]
      repeat (refine wp_dec (by omega) ?_)
      refine wp_call (ref08_SameCell_step x (ha.cell x (List.mem_of_getElem? hx)) (IH' x (List.mem_of_getElem? hx)) y) ?_
      simp only [getD_c0, toBool_bool]
      refine wp_br (fun h => wp_ret (hF (by simpa using h))) (fun h => hT (by simpa using h))
/-- Small whole numbers; an error. -/
def intsCs : List Cell → Option (List Int)
  | [] => some []
  | c :: cs => if c.kind = 0 then (smallN c.n).bind (fun z => (intsCs cs).map (z :: ·)) else none
def intsA (a : Arr) : List Int × Int := if 1 < a.shape.length then ([], 5) else match intsCs a.cells with
  | some l => (l, 0)
  | none => ([], 3)
def intC (z : Int) : Cell := ⟨0, 0, ofZ z, 0, []⟩
def fillC (a : Arr) : Cell := match a.cells with
  | [] => intC 0
  | c :: _ => if c.kind = 1 then ⟨c.l, 1, .zero, 32, []⟩ else ⟨c.l, 0, ofZ 0, 0, []⟩
theorem smallN_inR {n : Num} {z : Int} (h : smallN n = some z) : inR z := by
  unfold smallN smO at h
  split at h
  · split at h
    · injection h with h; subst h; assumption
    · cases h
  · cases h
theorem intsCs_inR : ∀ {cs : List Cell} {l : List Int}, intsCs cs = some l → l.length = cs.length ∧ ∀ x ∈ l, inR x
  | [], l, h => by simp [intsCs] at h; subst h; simp
  | c :: cs, l, h => by
    simp only [intsCs] at h
    split at h
    · cases hn : smallN c.n with
      | none => rw [hn] at h; cases h
      | some z =>
        rw [hn] at h
        cases hc : intsCs cs with
        | none => rw [hc] at h; cases h
        | some l' =>
          rw [hc] at h
          injection h with h; subst h
          have := intsCs_inR hc
          exact ⟨by simp [this.1], fun x hx => by rcases List.mem_cons.1 hx with rfl | hx; exact smallN_inR hn; exact this.2 x hx⟩
    · cases h
def insD (out : List Int) : Option (List Int) → List D
  | some l => [dI (out ++ l), .int 0]
  | none => [.sl [], .int 3]
theorem insD_intsA {a : Arr} (h : ¬ 1 < a.shape.length) : insD [] (intsCs a.cells) = [dI (intsA a).1, .int (intsA a).2] := by
  unfold intsA; rw [if_neg h]; cases intsCs a.cells <;> rfl
theorem ref08_Ints_sp (a : Arr) (hl : a.cells.length ≤ 2048) (hn : ∀ c ∈ a.cells, c.n.top.length ≤ 32) : Sp 34 [dA a] [dI (intsA a).1, .int (intsA a).2] := by
  refine sound_ (a.cells.length + 1) (ref08_Ints_tree _ _) ?_
  simp only [dA_0, dA_1, dA_2, dC_0, dC_1, dC_2, dC_3, dC_4, dN_0, dN_1, dN_2, els_sl, els_dI, els_dL, List.length_map, Int.toNat_natCast, toInt_int, toInt_dB, toBool_bool, getD_c0, getD_c1, int_beq, int_bne, not_dec, dInt_dB, Int.toNat_zero]
  refine wp_decs (fun h => wp_ret ?_) (fun h => ?_)
  · unfold intsA; rw [if_pos (by omega)]; rfl
  · rw [← insD_intsA (by omega)]
    have key := loop_list (P := Tryz.prog) (md := md) a.cells (fun m k (out : List Int) => ref08_Ints_l5 (a.cells.length + 1) m (out.map .int) (k : Int) (dA a)) (fun rest out => insD out (intsCs rest)) (fun rest out => out.length + rest.length ≤ 2048)
      (fun m k out hk _ => by
        simp only [ref08_Ints_l5_succ, dA_0, dA_1, dA_2, dC_0, dC_1, dC_2, dC_3, dC_4, dN_0, dN_1, dN_2, els_sl, els_dI, els_dL, List.length_map, Int.toNat_natCast, toInt_int, toInt_dB, toBool_bool, getD_c0, getD_c1, int_beq, int_bne, not_dec, dInt_dB, Int.toNat_zero]
        exact wp_ndec (by omega) (wp_ret (by simp [intsCs, insD, dI])))
      (fun m k out c rest hdr hI ih => by
        obtain ⟨h1, h2, h3⟩ := drop_cons hdr
        have hm := List.mem_of_getElem? h2
        simp only [ref08_Ints_l5_succ, dA_0, dA_1, dA_2, dC_0, dC_1, dC_2, dC_3, dC_4, dN_0, dN_1, dN_2, els_sl, els_dI, els_dL, List.length_map, Int.toNat_natCast, toInt_int, toInt_dB, toBool_bool, getD_c0, getD_c1, int_beq, int_bne, not_dec, dInt_dB, Int.toNat_zero, getD_map h2, wrap_succ (show k < 9223372036854775807 by omega)]
        repeat (refine wp_dec (by omega) ?_)
        simp only [intsCs]
        refine wp_decs (fun hk => wp_ret ?_) (fun hk => ?_)
        · rw [if_neg hk]; rfl
        rw [if_pos (Classical.not_not.1 hk)]
        repeat (refine wp_dec (by omega) ?_)
        refine wp_call (ref04_Small_sp c.n (by have := hn c hm; omega)) ?_
        cases hs : smallN c.n with
        | none => exact wp_tt rfl (wp_ret rfl)
        | some z =>
          refine wp_ff rfl (wp_dec ?_ ?_)
          · simp only [List.length_cons, List.length_nil, bigN, List.length_map] at hI ⊢; omega
          · have := ih (out ++ [z]) (by simp only [List.length_append, List.length_cons, List.length_nil] at hI ⊢; omega)
            simp only [optI, getD_c0, toInt_int]
            rw [List.map_append] at this
            refine Tree.wp_mono this (fun ys hy => hy.trans ?_)
            cases intsCs rest with
            | none => rfl
            | some l => simp [insD])
      (a.cells.length + 1) 0 [] (by omega) (by omega) (by simpa using hl)
    exact key
theorem ref08_Int_sp (z : Int) (hz : inR z) : Sp 78 [.int z] [dC (intC z)] := by
  refine sound_ 0 (ref08_Int_tree _ _) (wp_call (ref04_Of_sp z hz) (wp_ret ?_))
  rw [dC_eq]; rfl
end Go.Proofs.YtbgcadcpeabpgaaGreat

set_option maxRecDepth 100000
namespace Go.Proofs.YtbgcadcpeabpgaaGreat

theorem array_Total_sp (a : Arr) : Fits a → Sp 61 [dA a] [dB (totA a)] := by
  induction a using Arr.ind with
  | h s sh cs IH =>
    intro ha
    have hl := ha.len
    have IH' : ∀ c ∈ (Arr.mk s sh cs).cells, ∀ x ∈ c.inn, Fits x → Sp 61 [dA x] [dB (totA x)] := IH
    generalize Arr.mk s sh cs = a at *
    obtain ⟨N, hN⟩ := bigFuel
    refine sound_ N (array_Total_tree _ _) ?_
    rw [totA_eq]
    have key := loop_list (P := Tryz.prog) (md := md) a.cells (fun m k (l : Lab) => array_Total_l3 N m (l.toNat : Int) (.sl (a.cells.map dC)) (a.cells.length : Int) (k : Int)) (fun rest l => [dB (rest.foldl totC l)]) (fun _ _ => True)
      (fun m k l hk _ => by
        simp only [array_Total_l3_succ, dA_0, dA_1, dA_2, dC_0, dC_1, dC_2, dC_3, dC_4, dN_0, dN_1, dN_2, els_sl, els_dI, els_dL, List.length_map, Int.toNat_natCast, toInt_int, toInt_dB, toBool_bool, getD_c0, getD_c1, int_beq, int_bne, not_dec, dInt_dB, Int.toNat_zero]
        exact wp_ndec (by omega) (wp_ret rfl))
      (fun m k l c rest hdr _ ih => by
        obtain ⟨h1, h2, h3⟩ := drop_cons hdr
        have hc := ha.cell c (List.mem_of_getElem? h2)
        have hlc := hc.2.2.1
        simp only [array_Total_l3_succ, dA_0, dA_1, dA_2, dC_0, dC_1, dC_2, dC_3, dC_4, dN_0, dN_1, dN_2, els_sl, els_dI, els_dL, List.length_map, Int.toNat_natCast, toInt_int, toInt_dB, toBool_bool, getD_c0, getD_c1, int_beq, int_bne, not_dec, dInt_dB, Int.toNat_zero, getD_map h2]
        repeat (refine wp_dec (by omega) ?_)
        refine wp_call (label_Join_sp l c.l) ?_
        simp only [getD_c0, toInt_dB, List.foldl_cons]
        rw [totC_eq]
        have key := loop_list (P := Tryz.prog) (md := md) c.inn (fun m' j (l : Lab) => array_Total_l7 N m m' (l.toNat : Int) (.sl (a.cells.map dC)) (a.cells.length : Int) (k : Int) (.sl (c.inn.map dA)) (c.inn.length : Int) (j : Int)) (fun rest' l => [dB (rest.foldl totC (rest'.foldl (fun l x => l ||| totA x) l))]) (fun _ _ => True)
          (fun m' j l hj _ => by
            simp only [array_Total_l7_succ, dA_0, dA_1, dA_2, dC_0, dC_1, dC_2, dC_3, dC_4, dN_0, dN_1, dN_2, els_sl, els_dI, els_dL, List.length_map, Int.toNat_natCast, toInt_int, toInt_dB, toBool_bool, getD_c0, getD_c1, int_beq, int_bne, not_dec, dInt_dB, Int.toNat_zero, getD_map h2, wrap_succ (show k < 9223372036854775807 by omega)]
            exact wp_ndec (by omega) (ih _ trivial))
          (fun m' j l x rest' hdr' _ ih' => by
            obtain ⟨g1, g2, g3⟩ := drop_cons hdr'
            simp only [array_Total_l7_succ, dA_0, dA_1, dA_2, dC_0, dC_1, dC_2, dC_3, dC_4, dN_0, dN_1, dN_2, els_sl, els_dI, els_dL, List.length_map, Int.toNat_natCast, toInt_int, toInt_dB, toBool_bool, getD_c0, getD_c1, int_beq, int_bne, not_dec, dInt_dB, Int.toNat_zero, getD_map h2, getD_map g2, wrap_succ (show j < 9223372036854775807 by omega)]
            repeat (refine wp_dec (by omega) ?_)
            refine wp_call (IH' c (List.mem_of_getElem? h2) x (List.mem_of_getElem? g2) (hc.2.2.2 x (List.mem_of_getElem? g2))) (wp_call (label_Join_sp l (totA x)) ?_)
            exact ih' (l ||| totA x) trivial)
          N 0 (l ||| c.l) (by omega) (by omega) trivial
        exact key)
      N 0 a.s (by omega) (by omega) trivial
    simp only [dA_0, dA_1, dA_2, dC_0, dC_1, dC_2, dC_3, dC_4, dN_0, dN_1, dN_2, els_sl, els_dI, els_dL, List.length_map, Int.toNat_natCast, toInt_int, toInt_dB, toBool_bool, getD_c0, getD_c1, int_beq, int_bne, not_dec, dInt_dB, Int.toNat_zero]
    exact key
theorem array_Ints_sp (a : Arr) (hl : a.cells.length ≤ 2048) (hn : ∀ c ∈ a.cells, c.n.top.length ≤ 32) : Sp 40 [dA a] [dI (intsA a).1, .int (intsA a).2] := by
  refine sound_ (a.cells.length + 1) (array_Ints_tree _ _) ?_
  simp only [dA_0, dA_1, dA_2, dC_0, dC_1, dC_2, dC_3, dC_4, dN_0, dN_1, dN_2, els_sl, els_dI, els_dL, List.length_map, Int.toNat_natCast, toInt_int, toInt_dB, toBool_bool, getD_c0, getD_c1, int_beq, int_bne, not_dec, dInt_dB, Int.toNat_zero, List.replicate_zero]
  refine wp_decs (fun h => wp_ret ?_) (fun h => ?_)
  · unfold intsA; rw [if_pos (by omega)]; rfl
  · rw [← insD_intsA (by omega)]
    refine wp_dec (by omega) (wp_dec (by omega) (wp_dec (by simp only [bigN]; omega) ?_))
    have key := loop_list (P := Tryz.prog) (md := md) a.cells (fun m k (out : List Int) => array_Ints_l5 (a.cells.length + 1) m (out.map .int) (.sl (a.cells.map dC)) (a.cells.length : Int) (k : Int)) (fun rest out => insD out (intsCs rest)) (fun rest out => out.length + rest.length ≤ 2048)
      (fun m k out hk _ => by
        simp only [array_Ints_l5_succ, dA_0, dA_1, dA_2, dC_0, dC_1, dC_2, dC_3, dC_4, dN_0, dN_1, dN_2, els_sl, els_dI, els_dL, List.length_map, Int.toNat_natCast, toInt_int, toInt_dB, toBool_bool, getD_c0, getD_c1, int_beq, int_bne, not_dec, dInt_dB, Int.toNat_zero]
        exact wp_ndec (by omega) (wp_ret (by simp [intsCs, insD, dI])))
      (fun m k out c rest hdr hI ih => by
        obtain ⟨h1, h2, h3⟩ := drop_cons hdr
        have hm := List.mem_of_getElem? h2
        simp only [array_Ints_l5_succ, dA_0, dA_1, dA_2, dC_0, dC_1, dC_2, dC_3, dC_4, dN_0, dN_1, dN_2, els_sl, els_dI, els_dL, List.length_map, Int.toNat_natCast, toInt_int, toInt_dB, toBool_bool, getD_c0, getD_c1, int_beq, int_bne, not_dec, dInt_dB, Int.toNat_zero, getD_map h2, wrap_succ (show k < 9223372036854775807 by omega)]
        repeat (refine wp_dec (by omega) ?_)
        simp only [intsCs]
        refine wp_call (ratio_Small_sp c.n (by have := hn c hm; omega)) ?_
        refine wp_decs (fun hk => wp_ret ?_) (fun hk => ?_)
        · rw [if_neg hk]; rfl
        rw [if_pos (Classical.not_not.1 hk)]
        cases hs : smallN c.n with
        | none => exact wp_tt rfl (wp_ret rfl)
        | some z =>
          refine wp_ff rfl (wp_dec ?_ ?_)
          · simp only [List.length_cons, List.length_nil, bigN, List.length_map] at hI ⊢; omega
          · have := ih (out ++ [z]) (by simp only [List.length_append, List.length_cons, List.length_nil] at hI ⊢; omega)
            simp only [optI, getD_c0, toInt_int]
            rw [List.map_append] at this
            refine Tree.wp_mono this (fun ys hy => hy.trans ?_)
            cases intsCs rest with
            | none => rfl
            | some l => simp [insD])
      (a.cells.length + 1) 0 [] (by omega) (by omega) (by simpa using hl)
    exact key
theorem array_Int_sp (z : Int) (hz : inR z) : Sp 64 [.int z] [dC (intC z)] := by
  refine sound_ 0 (array_Int_tree _ _) (wp_call (ratio_Of_sp z hz) (wp_ret ?_))
  rw [dC_eq]; rfl
def chrC (c : Int) : Cell := ⟨0, 1, .zero, c, []⟩
theorem array_Chr_sp (z : Int) : Sp 128 [.int z] [dC (chrC z)] := by
  refine sound_ 0 (array_Chr_tree _ _) (wp_ret ?_)
  rw [dC_eq]; rfl
theorem inR0 : inR 0 := by unfold inR; decide
theorem array_Fill_sp (a : Arr) : Sp 86 [dA a] [dC (fillC a)] := by
  refine sound_ 0 (array_Fill_tree _ _) ?_
  simp only [dA_0, dA_1, dA_2, dC_0, dC_1, dC_2, dC_3, dC_4, dN_0, dN_1, dN_2, els_sl, els_dI, els_dL, List.length_map, Int.toNat_natCast, toInt_int, toInt_dB, toBool_bool, getD_c0, getD_c1, int_beq, int_bne, not_dec, dInt_dB, Int.toNat_zero]
  unfold fillC
  match hc : a.cells with
  | [] => exact wp_dec (by simp) (wp_call (array_Int_sp 0 inR0) (wp_ret rfl))
  | c :: cs =>
    refine wp_ndec (by simp; omega) (wp_call (array_Int_sp 0 inR0) (wp_dec (by omega) (wp_dec (by simp) ?_)))
    simp only [List.map_cons, getD_c0, dA_0, dA_1, dA_2, dC_0, dC_1, dC_2, dC_3, dC_4, dN_0, dN_1, dN_2, els_sl, els_dI, els_dL, List.length_map, Int.toNat_natCast, toInt_int, toInt_dB, toBool_bool, getD_c0, getD_c1, int_beq, int_bne, not_dec, dInt_dB, Int.toNat_zero]
    refine wp_decs (fun h => wp_call (array_Chr_sp 32) (wp_dec (by omega) (wp_dec (by simp) (wp_ret ?_)))) (fun h => wp_dec (by omega) (wp_dec (by simp) (wp_ret ?_)))
    · rw [if_pos h, dC_eq]
      simp only [dA_0, dA_1, dA_2, dC_0, dC_1, dC_2, dC_3, dC_4, dN_0, dN_1, dN_2, els_sl, els_dI, els_dL, List.length_map, Int.toNat_natCast, toInt_int, toInt_dB, toBool_bool, getD_c0, getD_c1, int_beq, int_bne, not_dec, dInt_dB, Int.toNat_zero]; rfl
    · rw [if_neg h, dC_eq]
      simp only [dA_0, dA_1, dA_2, dC_0, dC_1, dC_2, dC_3, dC_4, dN_0, dN_1, dN_2, els_sl, els_dI, els_dL, List.length_map, Int.toNat_natCast, toInt_int, toInt_dB, toBool_bool, getD_c0, getD_c1, int_beq, int_bne, not_dec, dInt_dB, Int.toNat_zero]; rfl
end Go.Proofs.YtbgcadcpeabpgaaGreat

set_option maxRecDepth 100000
namespace Go.Proofs.YtbgcadcpeabpgaaGreat

theorem lb_one : lb 1 = [1] := by rw [lb_pos (by decide), show 1 / B = 0 by decide, lb_zero]; rfl
theorem numT_ofZ (z : Int) : numT (ofZ z) = z := zv_wz z
theorem numB_ofZ (z : Int) : numB (ofZ z) = 1 := by simp [numB, ofZ, nv]
theorem lb_inR {z : Int} (h : inR z) : (lb z.natAbs).length ≤ 2 := lb_len.2 (by unfold inR at h; show z.natAbs < 18446744073709551616; omega)
theorem rightN_ofZ {z : Int} (h : inR z) : rightN (ofZ z) = true := by
  have hl := lb_inR h
  unfold rightN
  rw [numT_ofZ, numB_ofZ]
  refine decide_eq_true ⟨by simp only [ofZ]; omega, by simp [ofZ], ?_⟩
  unfold mkR
  simp only [Int.natAbs_one, Nat.gcd_one_right, Nat.div_one, lb_one]
  rw [if_neg (by decide), if_neg (by simp only [List.length_cons, List.length_nil]; omega)]
  unfold ofZ
  congr 2
  by_cases hz : z < 0
  · have : 0 < (lb z.natAbs).length := by
      rcases Nat.eq_zero_or_pos (lb z.natAbs).length with h0 | h0
      · have := lb_len0.1 h0; omega
      · exact h0
    simp [hz, this]
  · simp [hz]
theorem smallN_ofZ {z : Int} (h : inR z) : smallN (ofZ z) = some z := by
  unfold smallN smO
  rw [if_pos (show (ofZ z).bot = [1] from rfl), numT_ofZ, if_pos h]
theorem rightN_len {n : Num} (h : rightN n = true) : n.top.length ≤ 32 ∧ n.bot.length ≤ 32 := by
  have := of_decide_eq_true h
  exact ⟨this.1, this.2.1⟩
theorem rightC_len {d : Nat} {c : Cell} (h : rightC d c = true) : c.n.top.length ≤ 32 ∧ c.n.bot.length ≤ 32 ∧ c.inn.length ≤ 1 := by
  suffices key : ∀ k r, cellR k r c = true → c.n.top.length ≤ 32 ∧ c.n.bot.length ≤ 32 ∧ c.inn.length ≤ 1 by
    cases d with
    | zero => exact key _ _ h
    | succ d => exact key _ _ h
  intro k r h
  unfold cellR at h
  split at h
  · simp only [Bool.and_eq_true, decide_eq_true_eq] at h
    exact ⟨(rightN_len h.2).1, (rightN_len h.2).2, by omega⟩
  split at h
  · simp only [Bool.and_eq_true, decide_eq_true_eq] at h
    rw [h.1.1]; exact ⟨by decide, by decide, by omega⟩
  · simp only [Bool.and_eq_true, decide_eq_true_eq] at h
    rw [h.1.2.1]
    refine ⟨by decide, by decide, ?_⟩
    have hb := h.2.2
    unfold boxOK at hb
    split at hb
    · rename_i hi; rw [hi]; simp
    · cases hb
theorem rightA_cells {d : Nat} {a : Arr} (h : rightA d a = true) : countS a.shape = ((a.cells.length : Int), 0) ∧ ∀ c ∈ a.cells, rightC d c = true := by
  rw [rightA_eq] at h
  simp only [Bool.and_eq_true, decide_eq_true_eq, List.all_eq_true] at h
  exact h
theorem rightA_of {d : Nat} {a : Arr} (h1 : countS a.shape = ((a.cells.length : Int), 0)) (h2 : ∀ c ∈ a.cells, rightC d c = true) : rightA d a = true := by
  rw [rightA_eq]
  simp only [Bool.and_eq_true, decide_eq_true_eq, List.all_eq_true]
  exact ⟨h1, h2⟩
theorem rightA_len {d : Nat} {a : Arr} (h : rightA d a = true) : a.cells.length ≤ 2048 ∧ a.shape.length ≤ 6 ∧ ∀ x ∈ a.shape, 0 ≤ x ∧ x ≤ 2048 := by
  have h1 := (rightA_cells h).1
  have h2 := countS_le a.shape
  have h3 := countS_len (l := a.shape) (by rw [h1])
  rw [h1] at h2
  exact ⟨by simp only at h2; omega, h3⟩
theorem rightA_top {d : Nat} {a : Arr} (h : rightA d a = true) : ∀ c ∈ a.cells, c.n.top.length ≤ 32 := fun c hc => (rightC_len ((rightA_cells h).2 c hc)).1
theorem rightC_int {z : Int} (d : Nat) (h : inR z) : rightC d (intC z) = true := by
  have : ∀ k r, cellR k r (intC z) = true := by
    intro k r
    unfold cellR
    rw [if_pos (show (intC z).kind = 0 from rfl)]
    have := rightN_ofZ h
    simp only [intC, this]; rfl
  cases d <;> exact this _ _
theorem fitsC_int {z : Int} (h : inR z) : FitsC (intC z) := by
  have := lb_inR h
  refine ⟨?_, ?_, ?_, ?_⟩
  · simp only [intC, ofZ]; omega
  · simp [intC, ofZ]
  · simp [intC]
  · simp [intC]
theorem inR_small {z : Int} (h1 : -100000 ≤ z) (h2 : z ≤ 100000) : inR z := by unfold inR; omega
theorem fits_vec {l : List Int} {s : Lab} (hl : l.length ≤ 100000) (h : ∀ x ∈ l, inR x) : Fits (.mk s [(l.length : Int)] (l.map intC)) := by
  refine Fits.of (by simp) (by simp; omega) ?_ ?_
  · intro x hx; simp only [List.mem_singleton] at hx; subst hx; exact inR_small (by omega) (by omega)
  · intro c hc
    obtain ⟨z, hz, rfl⟩ := List.mem_map.1 hc
    exact fitsC_int (h z hz)
theorem fits_none : Fits .none := Fits.of (by simp) (by simp) (by simp) (by simp)
end Go.Proofs.YtbgcadcpeabpgaaGreat

set_option maxRecDepth 100000
namespace Go.Proofs.YtbgcadcpeabpgaaGreat

/-- No list is long, and there are not more than so many arrays within one another. -/
def Sml : Nat → Arr → Prop
  | 0, _ => False
  | d + 1, a => a.shape.length ≤ 1048576 ∧ a.cells.length ≤ 1048576 ∧ (∀ x ∈ a.shape, inR x) ∧ ∀ c ∈ a.cells, c.n.top.length ≤ 1048576 ∧ c.n.bot.length ≤ 1048576 ∧ c.inn.length ≤ 1048576 ∧ ∀ x ∈ c.inn, Sml d x
def SmlC (d : Nat) (c : Cell) : Prop := c.n.top.length ≤ 1048576 ∧ c.n.bot.length ≤ 1048576 ∧ c.inn.length ≤ 1048576 ∧ ∀ x ∈ c.inn, Sml d x
theorem Sml.cell {d : Nat} {a : Arr} (h : Sml (d + 1) a) : ∀ c ∈ a.cells, SmlC d c := h.2.2.2
theorem Sml.of {d : Nat} {a : Arr} (h1 : a.shape.length ≤ 1048576) (h2 : a.cells.length ≤ 1048576) (h3 : ∀ x ∈ a.shape, inR x) (h4 : ∀ c ∈ a.cells, SmlC d c) : Sml (d + 1) a := ⟨h1, h2, h3, h4⟩
theorem Sml.fits : ∀ {d : Nat} {a : Arr}, Sml d a → Fits a
  | 0, _, h => h.elim
  | d + 1, .mk s sh cs, ⟨h1, h2, h3, h4⟩ => by
    have h1' : sh.length ≤ 1048576 := h1
    have h2' : cs.length ≤ 1048576 := h2
    refine Fits.of (by omega) (by omega) h3 (fun c hc => ?_)
    obtain ⟨g1, g2, g3, g4⟩ := h4 c hc
    exact ⟨by omega, by omega, by omega, fun x hx => (g4 x hx).fits⟩
theorem SmlC.fits {d : Nat} {c : Cell} (h : SmlC d c) : FitsC c := ⟨by have := h.1; omega, by have := h.2.1; omega, by have := h.2.2.1; omega, fun x hx => (h.2.2.2 x hx).fits⟩
theorem Sml.mono : ∀ {d e : Nat} {a : Arr}, Sml d a → d ≤ e → Sml e a
  | 0, _, _, h, _ => h.elim
  | d + 1, 0, _, _, hle => by omega
  | d + 1, e + 1, a, ⟨h1, h2, h3, h4⟩, hle => ⟨h1, h2, h3, fun c hc => ⟨(h4 c hc).1, (h4 c hc).2.1, (h4 c hc).2.2.1, fun x hx => ((h4 c hc).2.2.2 x hx).mono (by omega)⟩⟩
theorem SmlC.mono {d e : Nat} {c : Cell} (h : SmlC d c) (hle : d ≤ e) : SmlC e c := ⟨h.1, h.2.1, h.2.2.1, fun x hx => (h.2.2.2 x hx).mono hle⟩

/-- What is in a right cell. -/
theorem rightC_inn {d : Nat} {c : Cell} (h : rightC d c = true) : ∀ x ∈ c.inn, ∃ e, d = e + 1 ∧ simpleA x = false ∧ rightA e x = true ∧ c.inn = [x] ∧ c.kind = 2 := by
  have key : ∀ k r, cellR k r c = true → ∀ x ∈ c.inn, k = true ∧ simpleA x = false ∧ r x = true ∧ c.inn = [x] ∧ c.kind = 2 := by
    intro k r h x hx
    unfold cellR at h
    split at h
    · simp only [Bool.and_eq_true, decide_eq_true_eq] at h
      rw [List.length_eq_zero_iff.1 h.1.2] at hx; cases hx
    split at h
    · simp only [Bool.and_eq_true, decide_eq_true_eq] at h
      rw [List.length_eq_zero_iff.1 h.1.2] at hx; cases hx
    · simp only [Bool.and_eq_true, decide_eq_true_eq] at h
      obtain ⟨h1, h2, h3⟩ := h
      unfold boxOK at h3
      split at h3
      · rename_i y hy
        rw [hy] at hx ⊢
        have : x = y := by simpa using hx
        subst this
        simp only [Bool.and_eq_true, Bool.not_eq_true'] at h3
        exact ⟨h2, h3.1, h3.2, rfl, h1.1⟩
      · cases h3
  cases d with
  | zero => intro x hx; exact absurd (key _ _ h x hx).1 (by simp)
  | succ e => intro x hx; exact ⟨e, rfl, (key _ _ h x hx).2⟩
theorem rightA_sml : ∀ {d : Nat} {a : Arr}, rightA d a = true → Sml (d + 1) a
  | 0, a, h => by
    have hl := rightA_len h
    refine ⟨by omega, by omega, fun x hx => inR_small (by have := hl.2.2 x hx; omega) (by have := hl.2.2 x hx; omega), fun c hc => ?_⟩
    have hc' := (rightA_cells h).2 c hc
    have := rightC_len hc'
    exact ⟨by omega, by omega, by omega, fun x hx => by obtain ⟨e, he, _⟩ := rightC_inn hc' x hx; omega⟩
  | d + 1, a, h => by
    have hl := rightA_len h
    refine ⟨by omega, by omega, fun x hx => inR_small (by have := hl.2.2 x hx; omega) (by have := hl.2.2 x hx; omega), fun c hc => ?_⟩
    have hc' := (rightA_cells h).2 c hc
    have := rightC_len hc'
    refine ⟨by omega, by omega, by omega, fun x hx => ?_⟩
    obtain ⟨e, he, _, hr, _⟩ := rightC_inn hc' x hx
    have : e = d := by omega
    subst this
    exact rightA_sml hr
theorem clone_tw (es : List D) (h : es.length ≤ 1048576) : Tw (.amb es.isEmpty (.ret [D.sl []]) (.br (decide (([] : List D).length + es.length ≤ bigN)) (.ret [D.sl ([] ++ es)]) .fail)) [D.sl es] := by
  refine wp_amb (fun h => wp_ret ?_) (wp_dec ?_ (wp_ret ?_))
  · rw [List.isEmpty_iff.1 h]
  · simp only [List.length_nil, bigN]; omega
  · rw [List.nil_append]
theorem clone_U_sp (l : List Limb) (h : l.length ≤ 1048576) : Sp 135 [dL l] [dL l] := sound_ 0 (slices_Clone_uint32_uint32_tree _ _) (by simp only [els_dL]; exact clone_tw _ (by simpa using h))
theorem clone_I_sp (l : List Int) (h : l.length ≤ 1048576) : Sp 82 [dI l] [dI l] := sound_ 0 (slices_Clone_int_int_tree _ _) (by simp only [els_dI]; exact clone_tw _ (by simpa using h))
theorem clone_A_sp (l : List Arr) (h : l.length ≤ 1048576) : Sp 136 [.sl (l.map dA)] [.sl (l.map dA)] := sound_ 0 (slices_Clone_api_Array_api_Array_tree _ _) (by simp only [els_sl]; exact clone_tw _ (by simpa using h))
theorem array_own_sp {d : Nat} (c : Cell) (h : SmlC d c) : Sp 103 [dC c] [dC c] := by
  refine sound_ 0 (array_own_tree _ _) ?_
  simp only [dA_0, dA_1, dA_2, dC_0, dC_1, dC_2, dC_3, dC_4, dN_0, dN_1, dN_2, els_sl, els_dI, els_dL, List.length_map, Int.toNat_natCast, toInt_int, toInt_dB, toBool_bool, getD_c0, getD_c1, int_beq, int_bne, not_dec, dInt_dB, Int.toNat_zero]
  refine wp_call (clone_U_sp _ h.1) (wp_call (clone_U_sp _ h.2.1) (wp_call (clone_A_sp _ h.2.2.1) (wp_ret ?_)))
  simp only [getD_c0, els_dL, els_sl, dsl_dL]
  rw [dC_eq]; rfl
def vectA (l : List Cell) : Arr := .mk 0 [(l.length : Int)] l
theorem set_next {α : Type} {f : α → D} {z : D} (pre : List α) (x : α) (k : Nat) : ((pre.map f) ++ List.replicate (k + 1) z).set pre.length (f x) = ((pre ++ [x]).map f) ++ List.replicate k z := by
  rw [List.set_append_right _ _ (by simp), List.length_map, Nat.sub_self, List.replicate_succ, List.set_cons_zero]
  simp
theorem dA_none : D.agg [D.int 0, D.sl [], D.sl []] = dA .none := by rw [dA_eq]; rfl
theorem dC_none' : D.agg [D.int 0, D.int 0, D.agg [D.bool false, D.sl [], D.sl []], D.int 0, D.sl []] = dC Cell.none := by rw [dC_eq]; rfl
theorem array_Vector_sp {d : Nat} (l : List Cell) (h : ∀ c ∈ l, SmlC d c) (hl : l.length ≤ 1048576) : Sp 66 [.sl (l.map dC)] [dA (vectA l)] := by
  refine sound_ (l.length + 1) (array_Vector_tree _ _) ?_
  simp only [dA_0, dA_1, dA_2, dC_0, dC_1, dC_2, dC_3, dC_4, dN_0, dN_1, dN_2, els_sl, els_dI, els_dL, List.length_map, Int.toNat_natCast, toInt_int, toInt_dB, toBool_bool, getD_c0, getD_c1, int_beq, int_bne, not_dec, dInt_dB, Int.toNat_zero, dC_none']
  refine wp_dec (by omega) (wp_dec (by omega) (wp_dec (by simp only [bigN]; omega) ?_))
  have key := loop_list (P := Tryz.prog) (md := md) l (fun m k (cs : List D) => array_Vector_l3 (l.length + 1) m (.sl (l.map dC)) cs (.sl (l.map dC)) (l.length : Int) (k : Int) 0) (fun _ _ => [dA (vectA l)])
    (fun rest cs => ∃ pre, l = pre ++ rest ∧ cs = pre.map dC ++ List.replicate rest.length (dC Cell.none))
    (fun m k cs hk hI => by
      obtain ⟨pre, h1, rfl⟩ := hI
      simp only [array_Vector_l3_succ, dA_0, dA_1, dA_2, dC_0, dC_1, dC_2, dC_3, dC_4, dN_0, dN_1, dN_2, els_sl, els_dI, els_dL, List.length_map, Int.toNat_natCast, toInt_int, toInt_dB, toBool_bool, getD_c0, getD_c1, int_beq, int_bne, not_dec, dInt_dB, Int.toNat_zero]
      refine wp_ndec (by omega) (wp_ret ?_)
      rw [List.append_nil] at h1
      rw [dA_eq, vectA]; subst h1; simp [dI]; rfl)
    (fun m k cs c rest hdr hI ih => by
      obtain ⟨h1, h2, h3⟩ := drop_cons hdr
      obtain ⟨pre, hp, rfl⟩ := hI
      have hk : k = pre.length := by
        have := congrArg List.length hdr
        rw [hp] at this h1
        simp at this h1; omega
      simp only [array_Vector_l3_succ, dA_0, dA_1, dA_2, dC_0, dC_1, dC_2, dC_3, dC_4, dN_0, dN_1, dN_2, els_sl, els_dI, els_dL, List.length_map, Int.toNat_natCast, toInt_int, toInt_dB, toBool_bool, getD_c0, getD_c1, int_beq, int_bne, not_dec, dInt_dB, Int.toNat_zero, getD_map h2, wrap_succ (show k < 9223372036854775807 by omega)]
      repeat (refine wp_dec (by omega) ?_)
      refine wp_call (array_own_sp c (h c (List.mem_of_getElem? h2))) ?_
      have hlen : (pre.map dC ++ List.replicate (rest.length + 1) (dC Cell.none)).length = l.length := by rw [hp]; simp
      rw [List.length_cons, hlen]
      refine wp_dec (by omega) (wp_dec (by omega) ?_)
      rw [getD_c0, hk, set_next, ← hk]
      exact ih _ ⟨pre ++ [c], by rw [hp]; simp, rfl⟩)
    (l.length + 1) 0 (List.replicate l.length (dC Cell.none)) (by omega) (by omega) ⟨[], by simp, by simp⟩
  exact key
theorem len_one {α : Type} {l : List α} (h : l.length = 1) : ∃ x, l = [x] := by
  match l, h with
  | [x], _ => exact ⟨x, rfl⟩
end Go.Proofs.YtbgcadcpeabpgaaGreat

set_option maxRecDepth 100000
namespace Go.Proofs.YtbgcadcpeabpgaaGreat

/-- As an array is seen: with labels, or without. -/
def gl (lb : Bool) (l : Lab) : Lab := if lb then l else 0
end Go.Proofs.YtbgcadcpeabpgaaGreat

set_option maxRecDepth 100000
namespace Go.Proofs.YtbgcadcpeabpgaaGreat
/-! scrim/scrimref11.Vector -/
def ref11_Vector_orc : List (Nat × Orc) := [(3, ⟨[(0, some 23), (4, none), (5, none), (6, none)], [(4, false), (5, false)], [(.fld 5 [1], 1030, 3), (.fld 5 [2], 1031, 68)]⟩)]
def ref11_Vector_ps : List Nat := [23, 22]
def ref11_Vector_rs : List ResultVar := [.cell 4 26]
def ref11_Vector_ts : List Nat := [26]
noncomputable def ref11_Vector_l3 (n m3 : Nat) (l0 : D) (i6 : Int) (t4_0 : Int) (out5_0 : Int) (out5_1 : List D) (out5_2 : List D) : Tree :=
  evLoop Tryz.prog md (ev Tryz.prog md n ref11_Vector_orc (cAt (bodyOf Tryz.prog 37) [1, 1, 0, 1, 0, 0])) (orcAt ref11_Vector_orc 3) m3 ⟨[.d 23 l0, .undef, .undef, .undef, .ptr 4 [], .ptr 5 [], .i .i64 i6, .undef, .undef, .undef, .undef, .undef, .undef, .undef, .undef, .undef, .undef, .undef, .undef, .undef, .undef, .undef, .undef, .undef, .undef, .undef, .undef, .undef, .undef], [(4, .var 26 (.agg 26 [.i .u64 t4_0, .mt, .mt]) true), (5, .var 26 (.agg 26 [.i .u64 out5_0, .row 1030, .row 1031]) true), (1030, .row 3 out5_1 true), (1031, .row 68 out5_2 true)], [4, 5, 1030, 1031], [], []⟩
   (blockK 0 (seqK (joinE Tryz.prog md (joinAt ref11_Vector_orc (cAt (bodyOf Tryz.prog 37) [1, 1, 1])) (ev Tryz.prog md n ref11_Vector_orc (cAt (bodyOf Tryz.prog 37) [1, 1, 1]))) (retK Tryz.prog md (md 37) ref11_Vector_ps ref11_Vector_rs ref11_Vector_ts)))
theorem ref11_Vector_l3_succ (n m3 : Nat) (l0 : D) (i6 : Int) (t4_0 : Int) (out5_0 : Int) (out5_1 : List D) (out5_2 : List D) : ref11_Vector_l3 n (m3 + 1) l0 i6 t4_0 out5_0 out5_1 out5_2 =
 .br (decide (i6 < (l0.els.length : Int))) (.br (decide (0 ≤ i6)) (.br (decide (i6 < (l0.els.length : Int))) (.call 78 [] [D.int ((l0.els.getD (Int.toNat i6) D.nil).toInt)] fun yy1 =>
 .br (decide (out5_2.length + [yy1.getD 0 D.nil].length ≤ bigN)) (ref11_Vector_l3 n m3 l0 (IntKind.wrap .i64 (i6 + 1)) t4_0 out5_0 out5_1 (out5_2 ++ [yy1.getD 0 D.nil])) .fail) .fail) .fail)
 (.ret [D.agg [D.int out5_0, D.sl out5_1, D.sl out5_2]]) := by kernel_rfl
theorem ref11_Vector_tree (n : Nat) (l0 : D) (s1 : D) : evFun Tryz.prog md ref11_Vector_orc n 37 [] [l0, s1] =
 ref11_Vector_l3 n n l0 0 0 s1.toInt [D.int (l0.els.length : Int)] [] := by kernel_rfl

end Go.Proofs.YtbgcadcpeabpgaaGreat

set_option maxRecDepth 100000
namespace Go.Proofs.YtbgcadcpeabpgaaGreat
/-! scrim/scrimref10.Same -/
def ref10_Same_orc : List (Nat × Orc) := []
theorem ref10_Same_tree (n : Nat) (a0 : D) (e1 : D) (b2 : D) (f3 : D) : evFun Tryz.prog md ref10_Same_orc n 14 [] [a0, e1, b2, f3] =
 .br (e1.toInt == f3.toInt) (.call 38 [] [a0, b2] fun yy1 =>
 .ret [D.bool ((yy1.getD 0 D.nil).toBool)])
 (.ret [D.bool false]) := by kernel_rfl

end Go.Proofs.YtbgcadcpeabpgaaGreat

set_option maxRecDepth 100000
namespace Go.Proofs.YtbgcadcpeabpgaaGreat

/-- Numbers along one axis. -/
def vecA (l : List Int) (s : Lab) : Arr := .mk s [(l.length : Int)] (l.map intC)
theorem ref11_Vector_sp (l : List Int) (s : Lab) (hl : l.length ≤ 100000) (hr : ∀ x ∈ l, inR x) : Sp 37 [dI l, dB s] [dA (vecA l s)] := by
  refine sound_ (l.length + 1) (ref11_Vector_tree _ _ _) ?_
  simp only [dA_0, dA_1, dA_2, dC_0, dC_1, dC_2, dC_3, dC_4, dN_0, dN_1, dN_2, els_sl, els_dI, els_dL, List.length_map, Int.toNat_natCast, toInt_int, toInt_dB, toBool_bool, getD_c0, getD_c1, int_beq, int_bne, not_dec, dInt_dB, Int.toNat_zero]
  have key := loop_list (P := Tryz.prog) (md := md) l (fun m k (out : List Cell) => ref11_Vector_l3 (l.length + 1) m (dI l) (k : Int) 0 (s.toNat : Int) [D.int (l.length : Int)] (out.map dC)) (fun rest out => [dA (.mk s [(l.length : Int)] (out ++ rest.map intC))]) (fun rest out => out.length + rest.length ≤ 100000)
    (fun m k out hk _ => by
      simp only [ref11_Vector_l3_succ, dA_0, dA_1, dA_2, dC_0, dC_1, dC_2, dC_3, dC_4, dN_0, dN_1, dN_2, els_sl, els_dI, els_dL, List.length_map, Int.toNat_natCast, toInt_int, toInt_dB, toBool_bool, getD_c0, getD_c1, int_beq, int_bne, not_dec, dInt_dB, Int.toNat_zero]
      refine wp_ndec (by omega) (wp_ret ?_)
      rw [dA_eq]; simp; rfl)
    (fun m k out x rest hdr hI ih => by
      obtain ⟨h1, h2, h3⟩ := drop_cons hdr
      have hm := List.mem_of_getElem? h2
      simp only [ref11_Vector_l3_succ, dA_0, dA_1, dA_2, dC_0, dC_1, dC_2, dC_3, dC_4, dN_0, dN_1, dN_2, els_sl, els_dI, els_dL, List.length_map, Int.toNat_natCast, toInt_int, toInt_dB, toBool_bool, getD_c0, getD_c1, int_beq, int_bne, not_dec, dInt_dB, Int.toNat_zero, getD_map h2, wrap_succ (show k < 9223372036854775807 by omega)]
      repeat (refine wp_dec (by omega) ?_)
      refine wp_call (ref08_Int_sp x (hr x hm)) (wp_dec ?_ ?_)
      · simp only [List.length_cons, List.length_nil, bigN, List.length_map] at hI ⊢; omega
      · have := ih (out ++ [intC x]) (by simp only [List.length_append, List.length_cons, List.length_nil] at hI ⊢; omega)
        rw [List.map_append] at this
        refine Tree.wp_mono this (fun ys hy => hy.trans ?_)
        simp)
    (l.length + 1) 0 [] (by omega) (by omega) (by simpa using hl)
  exact key
theorem ref10_Same_sp (x y : Arr) (e f : Int) (hx : Fits x) : Sp 14 [dA x, .int e, dA y, .int f] [.bool (decide (e = f) && eqA x y)] := by
  refine sound_ 0 (ref10_Same_tree _ _ _ _ _) ?_
  simp only [toInt_int, int_beq]
  refine wp_decs (fun h => wp_call (ref08_Same_sp x hx y) (wp_ret ?_)) (fun h => wp_ret ?_)
  · rw [decide_eq_true h]; rfl
  · rw [decide_eq_false h]; rfl
end Go.Proofs.YtbgcadcpeabpgaaGreat

set_option maxRecDepth 100000
namespace Go.Proofs.YtbgcadcpeabpgaaGreat

end Go.Proofs.YtbgcadcpeabpgaaGreat

set_option maxRecDepth 100000
namespace Go.Proofs.YtbgcadcpeabpgaaGreat
open Go.RowKit

section
variable {P : Program} {md : Nat → FMode}
/-- A result, as data. -/
def ResV (P : Program) (md : Nat → FMode) (w : World) (M : Nat → Prop) (t : Nat) (y : D) (u : Value) : Prop := ∃ look β, VL P md w (Mof M look β) look β (ofD P t y) u
theorem ResV.int {w : World} {M : Nat → Prop} {t : Nat} {k : IntKind} {n : Int} {u : Value} (h : ResV P md w M t (.int n) u) (ht : P.underlying t = some (.int k)) : u = .int k n ∧ k.min ≤ n ∧ n ≤ k.max := by
  obtain ⟨look, β, h⟩ := h
  unfold ofD at h
  rw [ht] at h
  exact vl_i h
theorem ResV.bool {w : World} {M : Nat → Prop} {t : Nat} {b : Bool} {u : Value} (h : ResV P md w M t (.bool b) u) (ht : P.underlying t = some .bool) : u = .bool b := by
  obtain ⟨look, β, h⟩ := h
  unfold ofD at h
  rw [ht] at h
  exact vl_b h
theorem ResV.rd {w : World} {M : Nat → Prop} {t : Nat} {y : D} {u : Value} (h : ResV P md w M t y u) (ht : ofD P t y = .d t y) : Rd P md w M (.ty t) y u := by
  obtain ⟨look, β, h⟩ := h
  rw [ht] at h
  obtain ⟨h1, h2⟩ := vl_ne h (by simp) (by simp) (by simp)
  cases h1 with
  | d h1 => exact ⟨h1.mono (Nat.le_refl _) (fun _ _ _ => rfl) (fun b hb _ => .inl hb), h2.size, h2.agg⟩
theorem rd_weak {w w' : World} {M M' : Nat → Prop} {t : CT} {x : D} {v : Value} (h : Rd P md w M t x v) (hx : Ext w w') (hM : ∀ b, M' b → b < w.heap.size → M b) : Rd P md w' M' t x v :=
  ⟨h.rd.mono hx.size (fun b _ hb => hx.block b hb) hM, h.size, h.agg⟩
/-- ████ A call of a function that lends nothing, and tells no row of its own. -/
theorem sp_calls {F : Nat} {fn : Func} {xs ys : List D} {vs : List Value} {W : World} {M : Nat → Prop} (hs : Spec P md F [] xs ys) (hfn : P.funcs[F]? = some fn) (hm : md F = {}) (hM : ∀ b, M b → b < W.heap.size)
    (hlx : xs.length = fn.params.size) (hlv : vs.length = fn.params.size) (hrd : ∀ (i t : Nat) (x : D) (v : Value), fn.params.toList[i]? = some t → xs[i]? = some x → vs[i]? = some v → Rd P md W M (.ty t) x v) :
    Calls P F vs.toArray W (fun e w' => ∃ us, e = .returned (retV us) ∧ us.length = fn.resultTypes.size ∧ (∀ (i t : Nat) (u : Value), fn.resultTypes.toList[i]? = some t → us[i]? = some u → ResV P md w' M t (ys.getD i .nil) u) ∧ Ext W w') := by
  obtain ⟨fn', h1, _, _, h⟩ := hs
  rw [hfn] at h1
  injection h1 with h1
  subst h1
  have nol : ∀ b, ¬ lentN (md F) vs b := fun b ⟨p, v, h1, _⟩ => by rw [hm] at h1; cases h1
  refine (h W M vs 0 1 (fun k hk => by rw [hm] at hk; cases hk) ⟨by simp [hlx], by simp [hlv], fun b hb => ⟨hM b hb, nol b⟩, ?_, fun p hp => by rw [hm] at hp; cases hp⟩).mono ?_
  · intro i ct x v hc hx hv _
    simp only [List.append_nil, List.getElem?_map, Option.map_eq_some_iff] at hc
    obtain ⟨t, ht, rfl⟩ := hc
    have := hrd i t x v ht hx hv
    exact ⟨this.rd.mono (Nat.le_refl _) (fun _ _ _ => rfl) (fun b hb _ => hb.elim id (fun h => (nol b h).elim)), this.size, this.agg⟩
  · rintro e w' ⟨us, β', hp⟩
    refine ⟨us, hp.ending, by simpa using hp.len, fun i t u ht hu => ?_, ?_⟩
    · have := hp.vl (resL P fn.resultTypes.toList ys 0) (by rw [hm]; rfl) i _ u (resL_at ht) hu
      rw [Nat.zero_add] at this
      exact ⟨_, _, this⟩
    · exact Stp.ext (hp.stp.weak fun b hb => (nol b hb).elim)
theorem rd_all2 {w : World} {M : Nat → Prop} {ps : List Nat} {t u : Nat} {x y : D} {v z : Value} (hp : ps = [t, u]) (h : Rd P md w M (.ty t) x v) (h' : Rd P md w M (.ty u) y z) : ∀ (i t' : Nat) (x' : D) (v' : Value), ps[i]? = some t' → [x, y][i]? = some x' → [v, z][i]? = some v' → Rd P md w M (.ty t') x' v' := by
  intro i t' x' v' h1 h2 h3
  subst hp
  match i with
  | 0 => cases h1; cases h2; cases h3; exact h
  | 1 => cases h1; cases h2; cases h3; exact h'
  | i + 2 => simp at h1
theorem rd_num_ {w : World} {M : Nat → Prop} {t : Nat} {k : IntKind} {n : Int} (ht : P.underlying t = some (.int k)) (hs : P.cellsOf t = 1) (ha : isAggT P t = false) (h1 : k.min ≤ n) (h2 : n ≤ k.max) : Rd P md w M (.ty t) (.int n) (.int k n) :=
  ⟨.int ht h1 h2 rfl, hs.symm, ha.symm⟩
/-- ████ What is said of a function, by a walk of it. -/
theorem spec_of (hP : WfP P) {F : Nat} {fn : Func} {cts : List CT} {xs ys : List D} (hfn : P.funcs[F]? = some fn) (hb : fn.body.isSome = true) (hn : (fn.name == "runtime.NumGoroutine") = false) (hm : md F = {})
    (h : ∀ (w : World) (M : Nat → Prop) (vs : List Value), (∀ b, M b → b < w.heap.size) → xs.length = fn.params.size + cts.length → vs.length = fn.params.size + cts.length → (∀ (i : Nat) (t : CT) (x : D) (v : Value), (fn.params.toList.map CT.ty ++ cts)[i]? = some t → xs[i]? = some x → vs[i]? = some v → Rd P md w M t x v) →
      Calls P F vs.toArray w (fun e w' => ∃ us, e = .returned (retV us) ∧ us.length = fn.resultTypes.size ∧ (∀ (i t : Nat) (u : Value), fn.resultTypes.toList[i]? = some t → us[i]? = some u → Rd P md w' M (.ty t) (ys.getD i .nil) u) ∧ Ext w w')) : Spec P md F cts xs ys := by
  refine ⟨fn, hfn, hb, hn, fun w M vs d bid _ hp => ?_⟩
  have nol : ∀ b, ¬ lentN (md F) vs b := fun b ⟨p, v, h1, _⟩ => by rw [hm] at h1; cases h1
  have hlook : postLook P (md F) fn.params.toList fn.resultTypes.toList ys d bid = fun _ => none := by rw [hm]; rfl
  refine (h w M vs (fun b hb => (hp.m b hb).1) (by simpa using hp.lenx) (by simpa using hp.lenv) (fun i t x v h1 h2 h3 => ?_)).mono ?_
  · have := hp.rd i t x v h1 h2 h3 (by rw [hm]; simp)
    exact ⟨this.rd.mono (Nat.le_refl _) (fun _ _ _ => rfl) (fun b hb _ => .inl hb), this.size, this.agg⟩
  · rintro e w' ⟨us, rfl, hl, hh, hx⟩
    refine ⟨us, fun _ => undef, rfl, by simpa using hl, (Stp.of_ext hx).weak (fun _ h => h), ?_, ?_, ?_, ?_, ?_⟩
    · intro ls hls i l u hi hu
      rw [hm] at hls
      simp only [setOwn, Option.some.injEq] at hls
      subst hls
      obtain ⟨t, ht⟩ : ∃ t, fn.resultTypes.toList[i]? = some t := by
        have := (List.getElem?_eq_some_iff.1 hi).1
        rw [resL_len] at this
        exact ⟨_, List.getElem?_eq_getElem this⟩
      have hr := hh i t u ht hu
      rw [resL_at ht, Nat.zero_add] at hi
      injection hi with hi
      subst hi
      have hr' : Rd P md w' (Mof M (postLook P (md F) fn.params.toList fn.resultTypes.toList ys d bid) (fun _ => undef)) (.ty t) (ys.getD i .nil) u := by
        refine rd_weak hr (Ext.refl _) (fun b hb _ => ?_)
        rcases hb with hb | ⟨r, k, hk, _⟩
        · exact hb
        · rw [hlook] at hk; cases hk
      exact (rd_vl' hP hr').1
    · intro r b hb; rw [hlook] at hb; cases hb
    · intro r b B hb; rw [hlook] at hb; cases hb
    · intro r q b c B hb; rw [hlook] at hb; cases hb
    · intro hb; rw [hm] at hb; cases hb
end
end Go.Proofs.YtbgcadcpeabpgaaGreat

set_option maxRecDepth 100000
namespace Go.Proofs.YtbgcadcpeabpgaaGreat

theorem map_set {α : Type} {f : α → D} {l : List α} {k : Nat} {v : α} : (l.map f).set k (f v) = (l.set k v).map f := by rw [List.map_set]
end Go.Proofs.YtbgcadcpeabpgaaGreat

set_option maxRecDepth 100000
namespace Go.Proofs.YtbgcadcpeabpgaaGreat

end Go.Proofs.YtbgcadcpeabpgaaGreat

set_option maxRecDepth 100000
namespace Go.Proofs.YtbgcadcpeabpgaaGreat

def lenZ (z : Int) : Nat := (lb z.natAbs).length
end Go.Proofs.YtbgcadcpeabpgaaGreat

set_option maxRecDepth 100000
namespace Go.Proofs.YtbgcadcpeabpgaaGreat
open Go.RowKit

theorem and_low (n : Nat) (h : n < 4294967296) : bits_ .and .u64 (n : Int) 4294967295 = (n : Int) := by
  have e : (BitVec.ofInt 64 (n : Int) &&& BitVec.ofInt 64 4294967295).toNat = n := by
    rw [BitVec.ofInt_natCast, show BitVec.ofInt 64 4294967295 = BitVec.ofNat 64 4294967295 from rfl, BitVec.toNat_and, BitVec.toNat_ofNat, BitVec.toNat_ofNat, Nat.mod_eq_of_lt (show n < 2 ^ 64 by omega)]
    show n &&& (2 ^ 32 - 1) = n
    rw [Nat.and_two_pow_sub_one_eq_mod]; exact Nat.mod_eq_of_lt h
  show IntKind.wrap .u64 ((BitVec.ofInt 64 (n : Int) &&& BitVec.ofInt 64 4294967295).toNat : Int) = _
  rw [e]
  exact wrapU64 (by omega) (by omega)
theorem mul64_sp (y : Nat) (h : y < 4294967296) : Sp 127 [.int 1, .int (y : Int)] [.int 0, .int (y : Int)] := by
  refine sound_ 0 (bits_Mul64_tree _ _ _) ?_
  have p : (2 : Int) ^ (min (Int.toNat 32) (IntKind.bits .u64)) = 4294967296 := by decide
  have a1 : bits_ .and .u64 1 4294967295 = 1 := and_low 1 (by decide)
  have a2 := and_low y h
  have a3 : bits_ .and .u64 0 4294967295 = 0 := and_low 0 (by decide)
  have d0 : Int.fdiv 0 4294967296 = 0 := by decide
  have d1 : Int.fdiv 1 4294967296 = 0 := by decide
  have d2 : Int.fdiv (y : Int) 4294967296 = 0 := by rw [Int.fdiv_eq_ediv_of_nonneg _ (by decide)]; omega
  have w0 : IntKind.wrap .u64 0 = 0 := by decide
  have w1 : IntKind.wrap .u64 (y : Int) = (y : Int) := wrapU64 (by omega) (by omega)
  simp only [toInt_int, p, a1, a2, a3, d0, d1, d2, w0, w1, Int.zero_mul, Int.mul_zero, Int.one_mul, Int.zero_add, Int.add_zero]
  repeat (refine wp_dec (by omega) ?_)
  exact wp_ret rfl
theorem mul_sp (y : Nat) (h : y < 4294967296) : Sp 83 [.int 1, .int (y : Int)] [.int 0, .int (y : Int)] := by
  refine sound_ 0 (bits_Mul_tree _ _ _) ?_
  simp only [toInt_int]
  refine wp_call (mul64_sp y h) (wp_ret ?_)
  simp only [getD_c0, getD_c1, toInt_int]
theorem mul_calls (y : Nat) (h : y < 4294967296) (w : World) : Calls Tryz.prog 83 #[.int .u64 1, .int .u64 y] w fun e w' => e = .returned (.tuple #[.int .u64 0, .int .u64 y]) ∧ Ext w w' := by
  have hps : Tryz.f83.params.toList = [107, 107] := by kernel_rfl
  have hrs : Tryz.f83.resultTypes.toList = [107, 107] := by kernel_rfl
  have ht : Tryz.prog.underlying 107 = some (.int .u64) := by kernel_rfl
  have n1 : ∀ k : Nat, k < 4294967296 → Rd Tryz.prog md w (fun _ => False) (.ty 107) (.int (k : Int)) (.int .u64 (k : Int)) := fun k hk => rd_num_ ht (by kernel_rfl) (by kernel_rfl) (by show (0 : Int) ≤ _; omega) (by show _ ≤ (18446744073709551615 : Int); omega)
  refine (sp_calls (vs := [.int .u64 1, .int .u64 y]) (M := fun _ => False) (mul_sp y h) Tryz.func83 (by kernel_rfl) (fun b hb => hb.elim) (by kernel_rfl) (by kernel_rfl) (rd_all2 hps (n1 1 (by decide)) (n1 y h))).mono ?_
  rintro e w' ⟨us, rfl, hl, hh, hx⟩
  have hl2 : us.length = 2 := by rw [hl]; rfl
  match us, hl2 with
  | [u1, u2], _ =>
    obtain ⟨rfl, _⟩ := (hh 0 107 u1 (by rw [hrs]; rfl) rfl).int ht
    obtain ⟨rfl, _⟩ := (hh 1 107 u2 (by rw [hrs]; rfl) rfl).int ht
    exact ⟨rfl, hx⟩
/-- make([]T, n), as a row. -/
theorem wpList_mkrow {P : Program} {w : World} {ops : Array Oper} {rest : List Oper} {o : Oper} {a : Act} {Q : Exit → Act → World → Prop} {t e : TypeId} {size bytes : Nat} (hE : Elt P t e size bytes)
    (hg : o.guard = none) (l c : Operand) (hop : o.op = Op.makeSlice t l c) {kl kc : IntKind} (n : Nat) {L C : Int} (hl : a.eval l = .int kl L) (hc : a.eval c = .int kc C) (hL : L = (n : Int)) (hC : C = (n : Int)) (hb : bytes * n ≤ 281474976710656) (hm : n ≤ maxLen)
    (h : ∀ (G : Nat) (w' : World) (X : List Value), w.heap.size ≤ G → Hid (w'.heap[G]? = some (.cells X.toArray e (0, 0))) → X.length = n * size → Ext w w' → wpList P ops Q rest (a.put o.dst (.slice (some ⟨G, 0, none⟩) n n)) w') : wpList P ops Q (o :: rest) a w := by
  subst hL
  subst hC
  obtain ⟨i, z, hi, hz, hsz, hby, hzc⟩ := hE.info
  have hbb : (i.bytes : Int) * (n : Int) ≤ 281474976710656 := by
    have h : ((i.bytes * n : Nat) : Int) ≤ 281474976710656 := by rw [hby]; omega
    rwa [Int.natCast_mul] at h
  have h63 : n ≤ 9223372036854775807 := by unfold maxLen at hm; omega
  have hr := run_make (P := P) w t e i z hE.under hi hz kl kc n n (by omega) (by omega) hbb (by omega)
  simp only [Int.toNat_natCast] at hr
  refine wpList_plain hg fun K hK' => ?_
  unfold Oper.wp
  simp [execOp, hop, hl, hc, hr, Result.andThen]
  have hx : Ext w (w.alloc (.cells (madeCells z.cells (n * i.size)) e)) := (Ext.refl w).alloc _
  refine hK' _ _ (h w.heap.size _ (madeCells z.cells (n * i.size)).toList (Nat.le_refl _) ?_ (by simp [size_madeCells, hsz]) hx)
  show _ = _
  rw [Array.toArray_toList]
  exact heap_alloc_new w _
theorem splice_rep {x : Value} {cur : List Value} {k m : Nat} (h : cur.take k = List.replicate k x) (hk : k + m ≤ cur.length) : (splice cur k (List.replicate m x)).take (k + m) = List.replicate (k + m) x ∧ (splice cur k (List.replicate m x)).length = cur.length := by
  refine ⟨?_, length_splice _ _ _ (by simpa using hk)⟩
  unfold splice
  rw [h, ← List.append_assoc, List.replicate_append_replicate, List.take_append_of_le_length (by simp), List.take_of_length_le (by simp)]
theorem src_one {w w2 : World} {A : Option Addr} {c : Nat} {z : Int} (h : SlI w (.slice A 1 c) .i64 [z]) (hx : Ext w w2) (m : Nat) (hm : m ≤ 1) : 0 < (List.replicate m (Value.int .i64 z)).length → ∃ ad, A = some ad ∧ ∀ j v, (List.replicate m (Value.int .i64 z))[j]? = some v → w2.cell? (ad.add j) = some v := by
  intro _
  obtain ⟨ad, rfl, hb, hc⟩ := (h.keep hx).cellAt 0 (by simp)
  refine ⟨ad, rfl, fun j v hv => ?_⟩
  have hj := (List.getElem?_eq_some_iff.1 hv).1
  simp only [List.length_replicate] at hj
  have : j = 0 := by omega
  subst this
  rw [List.getElem?_replicate, if_pos (by omega)] at hv
  cases hv
  exact hc
theorem src_row {w : World} {G k : Nat} {z : Int} {cur : List Value} {T : TypeId} (h : w.heap[G]? = some (.cells cur.toArray T (0, 0))) (ht : cur.take k = List.replicate k (.int .i64 z)) (m : Nat) (hm : m ≤ k) (hk : k ≤ cur.length) : ∀ j v, (List.replicate m (Value.int .i64 z))[j]? = some v → w.cell? ((⟨G, 0, none⟩ : Addr).add j) = some v := by
  intro j v hv
  have hj := (List.getElem?_eq_some_iff.1 hv).1
  simp only [List.length_replicate] at hj
  rw [List.getElem?_replicate, if_pos hj] at hv
  cases hv
  have hcj : cur[j]? = some (.int .i64 z) := by
    have := congrArg (fun l => l[j]?) ht
    simp only [List.getElem?_take, List.getElem?_replicate] at this
    rw [if_pos (by omega), if_pos (by omega)] at this
    exact this
  have ea : (⟨G, 0, none⟩ : Addr).add j = ⟨G, j, none⟩ := by unfold Addr.add; split <;> simp_all
  rw [ea]
  unfold World.cell?
  simp [h, hcj]
theorem elt_int_ : Elt Tryz.prog 23 3 1 8 :=
  ⟨Tryz.underlying23, by
    obtain ⟨i, hi, h1, h2, h3⟩ := info_parts (P := Tryz.prog) (e := 3) (z := .int .i64 0) (size := 1) (bytes := 8) (by kernel_rfl)
    exact ⟨i, _, hi, h1, h2, h3, rfl⟩, by decide⟩
/-- So many are there. -/
def RInv (w2 : World) (G n : Nat) (z : Int) (iv : Value) (wr : World) : Prop := ∃ (k : Nat) (cur : List Value), iv = .int .i64 k ∧ k ≤ n ∧ (0 < n → 0 < k) ∧ cur.length = n ∧ cur.take k = List.replicate k (.int .i64 z) ∧ wr.heap[G]? = some (.cells cur.toArray 3 (0, 0)) ∧ Below G w2 wr
theorem RInv.start {w2 w3 : World} {G n : Nat} {z : Int} {X : List Value} (hX : X.length = n * 1) (h : w3.heap[G]? = some (.cells (splice X 0 (List.replicate (Nat.min 1 n) (.int .i64 z))).toArray 3 (0, 0))) (hb : Below G w2 w3) : RInv w2 G n z (.int .i64 ((Nat.min 1 n : Nat) : Int)) w3 := by
  have h2 : Nat.min 1 n ≤ n := Nat.min_le_right 1 n
  have h3 : Nat.min 1 n = if 1 ≤ n then 1 else n := Nat.min_def
  obtain ⟨s1, s2⟩ := splice_rep (x := .int .i64 z) (cur := X) (k := 0) (m := Nat.min 1 n) rfl (by omega)
  rw [Nat.zero_add] at s1
  exact ⟨Nat.min 1 n, _, rfl, h2, fun h => by rw [h3]; split <;> omega, by omega, s1, h, hb⟩
theorem RInv.next {w2 w4 : World} {G n k : Nat} {z : Int} {cur : List Value} (hk : k < n) (hp : 0 < k) (hl : cur.length = n) (ht : cur.take k = List.replicate k (.int .i64 z)) (h : w4.heap[G]? = some (.cells (splice cur k (List.replicate (Nat.min k (n - k)) (.int .i64 z))).toArray 3 (0, 0))) (hb : Below G w2 w4) : RInv w2 G n z (.int .i64 ((k + Nat.min k (n - k) : Nat) : Int)) w4 ∧ n - (k + Nat.min k (n - k)) < n - k := by
  have h3 : Nat.min k (n - k) = if k ≤ n - k then k else n - k := Nat.min_def
  have h4 : 0 < Nat.min k (n - k) ∧ k + Nat.min k (n - k) ≤ n := by rw [h3]; split <;> omega
  obtain ⟨s1, s2⟩ := splice_rep (x := .int .i64 z) (cur := cur) (k := k) (m := Nat.min k (n - k)) ht (by omega)
  exact ⟨⟨_, _, rfl, h4.2, fun _ => by omega, by omega, s1, h, hb⟩, by omega⟩
/-- A row of its own is told, of so many. -/
def RetRow (n : Nat) (z : Int) (w : World) (e : Ending) (w' : World) : Prop := ∃ G, e = .returned (.slice (some ⟨G, 0, none⟩) n n) ∧ w.heap.size ≤ G ∧ SlI w' (.slice (some ⟨G, 0, none⟩) n n) .i64 (List.replicate n z) ∧ Ext w w'
theorem rd_slI {w : World} {M : Nat → Prop} {v : Value} {l : List Int} (h : Rd Tryz.prog md w M (.ty 23) (dI l) v) : SlI w v .i64 l := by
  obtain ⟨h1, h2, h3⟩ := h
  have hc1 : Tryz.prog.cellsOf 3 = 1 := by kernel_rfl
  unfold dI at h1
  cases h1 with
  | @sl _ e _ _ A cap bk off ht hc h4 h5 hA hh =>
    have he : e = 3 := by
      have : Tryz.prog.underlying 23 = some (.slice e) := ht
      rw [show Tryz.prog.underlying 23 = some (.slice 3) by kernel_rfl] at this
      injection this with this; injection this with this; exact this.symm
    subst he
    have hv : v = .slice A (l.map D.int).length cap := by
      have ha : isAggV v = false := by rw [h3]; kernel_rfl
      rw [cells_of ha] at hc
      simpa using hc
    refine ⟨A, cap, by rw [hv]; simp, by simpa using h4, by simp, fun i x hx => ?_⟩
    rw [List.getElem?_map, Option.map_eq_some_iff] at hx
    obtain ⟨b, hb, rfl⟩ := hx
    have hne : l.map D.int ≠ [] := fun e => by rw [List.map_eq_nil_iff.1 e] at hb; simp at hb
    obtain ⟨a1, a2, a3⟩ := hA hne
    have := hh i (D.int b) (by rw [List.getElem?_map, hb]; rfl)
    rw [hc1] at this
    refine ⟨_, a1, a3, ?_⟩
    cases this with
    | @int _ k _ _ ht' h1' h2' hc' =>
      have hk : k = .i64 := by
        have : Tryz.prog.underlying 3 = some (.int k) := ht'
        rw [show Tryz.prog.underlying 3 = some (.int .i64) by kernel_rfl] at this
        injection this with this; injection this with this; exact this.symm
      subst hk
      simp only [Nat.mul_one, Nat.add_zero] at hc'
      have ea : (⟨bk, off, none⟩ : Addr).add i = ⟨bk, off + i, none⟩ := by unfold Addr.add; split <;> simp_all
      rw [ea]; exact hc'
theorem row_rdI {w : World} {M : Nat → Prop} {G n c : Nat} {l : List Int} (h : SlI w (.slice (some ⟨G, 0, none⟩) n c) .i64 l) (hc : c ≤ maxLen) (hG : ¬ M G) (hr : ∀ x ∈ l, inR x) : Rd Tryz.prog md w M (.ty 23) (dI l) (.slice (some ⟨G, 0, none⟩) n c) := by
  obtain ⟨h1, h2⟩ := h.len
  have hc1 : Tryz.prog.cellsOf 3 = 1 := by kernel_rfl
  refine ⟨.sl (e := 3) (A := some ⟨G, 0, none⟩) (cap := c) (bk := G) (off := 0) (by kernel_rfl) (by rw [h1, List.length_map]; rfl) (by rw [List.length_map]; omega) hc (fun hne => ?_) (fun i x hx => ?_), by kernel_rfl, by kernel_rfl⟩
  · have : 0 < l.length := List.length_pos_iff.2 (fun e => hne (by rw [e]; rfl))
    obtain ⟨ad, ha, hb, _⟩ := h.cellAt 0 this
    cases ha
    exact ⟨rfl, hG, hb⟩
  · rw [List.getElem?_map, Option.map_eq_some_iff] at hx
    obtain ⟨b, hb, rfl⟩ := hx
    have hi : i < l.length := (List.getElem?_eq_some_iff.1 hb).1
    obtain ⟨ad, ha, _, hcell⟩ := h.cellAt i hi
    cases ha
    have ea : (⟨G, 0, none⟩ : Addr).add i = ⟨G, 0 + i, none⟩ := by unfold Addr.add; split <;> simp_all
    rw [ea] at hcell
    have hx : l[i] = b := (List.getElem?_eq_some_iff.1 hb).2
    rw [hx] at hcell
    have := hr b (List.mem_of_getElem? hb)
    exact .int (k := .i64) (by kernel_rfl) this.1 this.2 (by rw [hc1]; simpa using hcell)
theorem rd_i64 {w : World} {M : Nat → Prop} {v : Value} {n : Int} (h : Rd Tryz.prog md w M (.ty 3) (.int n) v) : v = .int .i64 n ∧ inR n := by
  obtain ⟨h1, h2, h3⟩ := h
  have ha : isAggV v = false := by rw [h3]; kernel_rfl
  cases h1 with
  | @int _ k _ _ ht h1' h2' hc' =>
    have hk : k = .i64 := by
      have : Tryz.prog.underlying 3 = some (.int k) := ht
      rw [show Tryz.prog.underlying 3 = some (.int .i64) by kernel_rfl] at this
      injection this with this; injection this with this; exact this.symm
    subst hk
    rw [cells_of ha] at hc'
    exact ⟨by simpa using hc', h1', h2'⟩
theorem rep_wrap {k n : Nat} (hk : k < n) (hn : n ≤ 1000000) : IntKind.wrap .i64 ((k : Int) + ((Nat.min k (n - k) : Nat) : Int)) = ((k + Nat.min k (n - k) : Nat) : Int) := by
  have h2 : Nat.min k (n - k) ≤ n - k := Nat.min_le_right k (n - k)
  rw [wrap64 (by omega) (by omega)]; omega
set_option maxHeartbeats 2000000 in
theorem repeat_any (A : Option Addr) (c n : Nat) (z : Int) (w : World) (hn : n ≤ 1000000) (hs : SlI w (.slice A 1 c) .i64 [z]) : Calls Tryz.prog 44 #[.slice A 1 c, .int .i64 n] w (RetRow n z w) := by
  have HS := Lib.hid hs
  have hc1 := hs.len.2
  clear hs
  have hu : Tryz.prog.underlying 23 = some (.slice 3) := by kernel_rfl
  have hz : (Tryz.prog.info? 3).map (·.size) = some 1 := by kernel_rfl
  have HU := Lib.hid hu
  have HZ := Lib.hid hz
  clear hu hz
  go_enter Tryz.func44, Tryz.ntmps44
  go_wp2_with (first
    | (go_at_call 83; refine (mul_calls n (by omega) _).mono ?_; rintro e w1 ⟨rfl, hx1⟩)
    | (at_make; refine wpList_mkrow elt_int_ rfl _ _ rfl n rfl rfl (by omega) (by omega) (by omega) (by unfold maxLen; omega) ?_; intro G w2 X hG HG hX hx2; have HX := Lib.hid hX; clear hX)
    | (refine wpList_copy_splice rfl (.tmp 31) (.tmp 32) 23 23 rfl 3 HU.out HZ.out (some ⟨G, 0, none⟩) A n n 1 c (by simp [Act.eval, Act.put]) (by simp [Act.eval, Act.put]) G 0 X 3 HG.out (List.replicate (Nat.min 1 n) (.int .i64 z)) (by simp) (fun hp => ⟨rfl, src_one HS.out (hx1.trans hx2) _ (Nat.min_le_left _ _) hp⟩) (by have h1 := HX.out; have h2 : Nat.min 1 n ≤ n := Nat.min_le_right 1 n; simp only [List.length_replicate]; omega) (by intro v hv; rw [List.eq_of_mem_replicate hv]; rfl) G w2 (Below.refl _ _) (Nat.le_refl _) ?_; intro w3 HG3 hb3))
  go_loopw [8] (RInv w2 G n z) (fun iv _ => n - (intOf iv).toNat)
  case atStart => exact RInv.start HX.out HG3.out hb3
  case round =>
    obtain ⟨k, cur, rfl, hk, hp, hl, ht, hh, hb⟩ := hrel
    have HT := Lib.hid ht
    have HH := Lib.hid hh
    have HB := Lib.hid hb
    have HL := Lib.hid hl
    clear ht hh hb hl
    by_cases hlt : k < n
    · have hpk : 0 < k := hp (by omega)
      clear hp
      have HNE := Lib.hid (show (if n = k then some (⟨G, 0, none⟩ : Addr) else some ⟨G, k, none⟩) = some ⟨G, k, none⟩ from if_neg (by omega))
      have HSR := Lib.hid (src_row (w := wr.drew) HH.out HT.out (Nat.min k (n - k)) (Nat.min_le_left _ _) (by have := HL.out; omega))
      go_wp2_with fail
      go_region_law (refine step_copy_splice rfl (.tmp 41) (.tmp 44) 23 23 rfl 3 HU.out HZ.out (if n = k then some ⟨G, 0, none⟩ else some ⟨G, k, none⟩) (some ⟨G, 0, none⟩) (n - k) (n - k) k n (by simp [Act.eval, Act.put]) (by simp [Act.eval, Act.put]) G k cur 3 HH.out (List.replicate (Nat.min k (n - k)) (.int .i64 z)) (by simp) (fun _ => ⟨HNE.out, _, rfl, HSR.out⟩) (by have h1 := HL.out; have h2 : Nat.min k (n - k) ≤ n - k := Nat.min_le_right k (n - k); simp only [List.length_replicate]; omega) (by intro v hv; rw [List.eq_of_mem_replicate hv]; rfl) G w2 HB.out.drew (Nat.le_refl _) ?_; intro w4 HG4 hb4)
      go_wp2
      go_roundw
      case rel =>
        rw [rep_wrap hlt (by omega)]
        exact (RInv.next hlt hpk HL.out HT.out HG4.out hb4).1
      case measure =>
        rw [rep_wrap hlt (by omega)]
        exact (RInv.next hlt hpk HL.out HT.out HG4.out hb4).2
    · have hkn : k = n := by omega
      subst hkn
      go_wp2_with fail
      go_ret
      have hh := HH.out
      have hcur : cur = (List.replicate k z).map (.int .i64) := by
        have h1 := HT.out
        rw [List.take_of_length_le (by have := HL.out; omega)] at h1
        rw [h1]; simp
      rw [hcur] at hh
      exact ⟨G, rfl, Nat.le_trans hx1.size hG, SlI.made hh (by simp) (Nat.le_refl _), Below.trans (hx1.trans hx2) (Below.mono HB.out (Nat.le_trans hx1.size hG))⟩
/-- What is said of slices.Repeat: of one int. -/
theorem repeat_sp (n : Nat) (z : Int) (hn : n ≤ 1000000) (hz : inR z) : Sp 44 [dI [z], .int (n : Int)] [dI (List.replicate n z)] := by
  refine spec_of wfP Tryz.func44 (by kernel_rfl) (by kernel_rfl) (by kernel_rfl) (fun w M vs hM _ hlv hrd => ?_)
  have hps : Tryz.f44.params.toList = [23, 3] := by kernel_rfl
  have hlen : vs.length = 2 := by rw [hlv]; rfl
  match vs, hlen with
  | [va, vb], _ =>
    rw [hps] at hrd
    have hs := rd_slI (hrd 0 _ _ _ rfl rfl rfl)
    obtain ⟨rfl, _⟩ := rd_i64 (hrd 1 _ _ _ rfl rfl rfl)
    obtain ⟨A, c, rfl, _, _⟩ := hs.form
    refine (repeat_any A c n z w hn hs).mono ?_
    rintro e w' ⟨G, rfl, hG, hv, hx⟩
    refine ⟨[_], rfl, rfl, fun i t u ht hu => ?_, hx⟩
    rw [show Tryz.f44.resultTypes.toList = [23] by kernel_rfl] at ht
    match i with
    | 0 => cases ht; cases hu; exact row_rdI hv (by unfold maxLen; omega) (fun hm => by have := hM G hm; omega) (fun x hx => by rw [List.eq_of_mem_replicate hx]; exact hz)
    | i + 1 => simp at ht
end Go.Proofs.YtbgcadcpeabpgaaGreat

set_option maxRecDepth 100000
namespace Go.Proofs.YtbgcadcpeabpgaaGreat

theorem countS_cases {s : List Int} {c : Int} (h : countS s = (c, 0)) : s.length ≤ 6 ∧ (((0 : Int) ∈ s ∧ c = 0) ∨ ((∀ x ∈ s, 1 ≤ x ∧ x ≤ 2048) ∧ prodS s 1 = c ∧ c ≠ 0)) := by
  unfold countS at h
  split at h
  · cases h
  split at h
  · cases h
  split at h
  · cases h
  · rename_i h1 h2 h3
    refine ⟨by omega, ?_⟩
    split at h
    · rename_i h4
      obtain ⟨x, hx, h5⟩ := List.any_eq_true.1 h4
      have : x = 0 := by simpa using h5
      subst this
      exact .inl ⟨hx, by injection h with h; exact h.symm⟩
    · rename_i h4
      split at h
      · cases h
      · rename_i h5
        injection h with h
        exact .inr ⟨count_pos h2 h3 h4, h, by omega⟩
theorem getD_int {l : List Int} {i : Nat} (h : i < l.length) : (l.map D.int).getD i D.nil = D.int (l.getD i 0) := by
  rw [getD_map (List.getElem?_eq_getElem h), List.getD_eq_getElem?_getD, List.getElem?_eq_getElem h]; rfl
end Go.Proofs.YtbgcadcpeabpgaaGreat

set_option maxRecDepth 100000
namespace Go.Proofs.YtbgcadcpeabpgaaGreat

theorem shape_product0_sp (l : List Int) (hb : l.length ≤ 6) (hx : ∀ x ∈ l, 0 ≤ x ∧ x ≤ 2048) : Sp 100 [dI l] [.int (prodS l 1)] := by
  refine sound_ (l.length + 1) (shape_product_tree _ _) ?_
  have key := loop_list (P := Tryz.prog) (md := md) l (fun m k (p : Int) => shape_product_l3 (l.length + 1) m p (dI l) (l.length : Int) (k : Int)) (fun rest p => [.int (prodS rest p)]) (fun _ p => 0 ≤ p ∧ p ≤ 2048)
    (fun m k p hk hI => by
      simp only [shape_product_l3_succ]
      exact wp_ndec (by omega) (wp_ret rfl))
    (fun m k p x rest hd hI ih => by
      obtain ⟨h1, h2, h3⟩ := drop_cons hd
      have hxx := hx x (List.mem_of_getElem? h2)
      have hp : 0 ≤ p * x ∧ p * x ≤ 4194304 := ⟨Int.mul_nonneg hI.1 hxx.1, by have := Int.mul_le_mul hI.2 hxx.2 hxx.1 (by omega); omega⟩
      simp only [shape_product_l3_succ, els_dI, List.length_map, Int.toNat_natCast, getD_map h2, toInt_int, wrap_succ (show k < 9223372036854775807 by omega), wrap64 (x := p * x) (by omega) (by omega)]
      repeat (refine wp_dec (by omega) ?_)
      simp only [prodS]
      refine wp_decs (fun h => wp_ret ?_) (fun h => ?_)
      · rw [if_pos h]
      · rw [if_neg h]; exact ih _ ⟨hp.1, by omega⟩)
    (l.length + 1) 0 1 (by omega) (by omega) (by decide)
  simpa using key
def aroundD (s : List Int) (x : Int) : List D := if (countS s).2 = 0 ∧ 0 ≤ x ∧ x < s.length then [.int (prodS (s.take x.toNat) 1), .int (s.getD x.toNat 0), .int (prodS (s.drop (x.toNat + 1)) 1), .bool true] else [.int 0, .int 0, .int 0, .bool false]
theorem shape_Around_sp (s : List Int) (x : Int) : Sp 85 [dI s, .int x] (aroundD s x) := by
  refine sound_ 0 (shape_Around_tree _ _ _) (wp_call (shape_Count_sp s) ?_)
  unfold aroundD
  simp only [dA_0, dA_1, dA_2, dC_0, dC_1, dC_2, dC_3, dC_4, dN_0, dN_1, dN_2, els_sl, els_dI, els_dL, List.length_map, Int.toNat_natCast, toInt_int, toInt_dB, toBool_bool, getD_c0, getD_c1, int_beq, int_bne, not_dec, dInt_dB, Int.toNat_zero]
  refine wp_decs (fun h => wp_ret (by rw [if_neg (fun hh => h hh.1)])) (fun h => wp_decs (fun h1 => wp_ret (by rw [if_neg (by omega)])) (fun h1 => wp_decs (fun h2 => wp_ret (by rw [if_neg (by omega)])) (fun h2 => ?_)))
  have h0 : (countS s).2 = 0 := Classical.not_not.1 h
  rw [if_pos ⟨h0, by omega, by omega⟩]
  obtain ⟨c1, c2⟩ := countS_len h0
  obtain ⟨X, rfl⟩ : ∃ X : Nat, x = (X : Int) := ⟨x.toNat, by omega⟩
  simp only [wrap_succ (show X < 9223372036854775807 by omega), Int.toNat_natCast, ← List.map_take, ← List.map_drop, dsl_dI]
  refine wp_dec (by omega) (wp_dec (by omega) (wp_call (shape_product0_sp (s.take X) (by rw [List.length_take]; omega) (fun y hy => c2 y (List.mem_of_mem_take hy))) (wp_dec (by omega) (wp_dec (by omega) (wp_dec (by omega) (wp_dec (by omega) (wp_call (shape_product0_sp (s.drop (X + 1)) (by rw [List.length_drop]; omega) (fun y hy => c2 y (List.mem_of_mem_drop hy))) (wp_ret ?_))))))))
  rw [getD_int (show X < s.length by omega)]
  simp only [dA_0, dA_1, dA_2, dC_0, dC_1, dC_2, dC_3, dC_4, dN_0, dN_1, dN_2, els_sl, els_dI, els_dL, List.length_map, Int.toNat_natCast, toInt_int, toInt_dB, toBool_bool, getD_c0, getD_c1, int_beq, int_bne, not_dec, dInt_dB, Int.toNat_zero]
def withD (s : List Int) (x n : Int) : List D := if 0 ≤ x ∧ x < s.length then [dI (s.set x.toNat n), .bool true] else [.sl [], .bool false]
theorem shape_With_sp (s : List Int) (x n : Int) (hs : s.length ≤ 1048576) : Sp 84 [dI s, .int x, .int n] (withD s x n) := by
  refine sound_ 0 (shape_With_tree _ _ _ _) ?_
  unfold withD
  simp only [dA_0, dA_1, dA_2, dC_0, dC_1, dC_2, dC_3, dC_4, dN_0, dN_1, dN_2, els_sl, els_dI, els_dL, List.length_map, Int.toNat_natCast, toInt_int, toInt_dB, toBool_bool, getD_c0, getD_c1, int_beq, int_bne, not_dec, dInt_dB, Int.toNat_zero]
  refine wp_decs (fun h1 => wp_ret (by rw [if_neg (by omega)])) (fun h1 => wp_decs (fun h2 => wp_ret (by rw [if_neg (by omega)])) (fun h2 => wp_call (clone_I_sp s hs) ?_))
  rw [if_pos ⟨by omega, by omega⟩]
  simp only [dA_0, dA_1, dA_2, dC_0, dC_1, dC_2, dC_3, dC_4, dN_0, dN_1, dN_2, els_sl, els_dI, els_dL, List.length_map, Int.toNat_natCast, toInt_int, toInt_dB, toBool_bool, getD_c0, getD_c1, int_beq, int_bne, not_dec, dInt_dB, Int.toNat_zero]
  refine wp_dec (by omega) (wp_dec (by omega) (wp_ret ?_))
  rw [← List.map_set]; rfl
end Go.Proofs.YtbgcadcpeabpgaaGreat

set_option maxRecDepth 100000
namespace Go.Proofs.YtbgcadcpeabpgaaGreat
end Go.Proofs.YtbgcadcpeabpgaaGreat

set_option maxRecDepth 100000
namespace Go.Proofs.YtbgcadcpeabpgaaGreat

end Go.Proofs.YtbgcadcpeabpgaaGreat

set_option maxRecDepth 100000
namespace Go.Proofs.YtbgcadcpeabpgaaGreat

theorem intsCs_vec : ∀ {l : List Int}, (∀ x ∈ l, inR x) → intsCs (l.map intC) = some l
  | [], _ => rfl
  | x :: xs, h => by
    simp only [List.map_cons, intsCs]
    rw [if_pos (show (intC x).kind = 0 from rfl), show (intC x).n = ofZ x from rfl, smallN_ofZ (h x (by simp)), intsCs_vec (fun y hy => h y (by simp [hy]))]
    rfl
theorem totA_vec (l : List Int) (s : Lab) : totA (vecA l s) = s := by
  rw [totA_eq]
  unfold vecA
  simp only [Arr.cells_mk, Arr.s_mk]
  induction l with
  | nil => rfl
  | cons x xs ih =>
    rw [List.map_cons, List.foldl_cons, totC_eq]
    have e0 : s ||| (0 : Lab) = s := by simp
    rw [show (intC x).inn = [] from rfl, show (intC x).l = 0 from rfl, e0, List.foldl_nil]
    exact ih
theorem aw_in (l : List Int) (h : l.all (fun x => decide (-100000 ≤ x ∧ x ≤ 100000)) = true) : ∀ x ∈ l, inR x := fun x hx => by
  have := of_decide_eq_true (List.all_eq_true.1 h x hx)
  exact inR_small this.1 this.2
end Go.Proofs.YtbgcadcpeabpgaaGreat

set_option maxRecDepth 100000
namespace Go.Proofs.YtbgcadcpeabpgaaGreat

end Go.Proofs.YtbgcadcpeabpgaaGreat

set_option maxRecDepth 100000
namespace Go.Proofs.YtbgcadcpeabpgaaGreat

section
variable {o : Lab} {a b n m : Arr}
end
end Go.Proofs.YtbgcadcpeabpgaaGreat

set_option maxRecDepth 100000
namespace Go.Proofs.YtbgcadcpeabpgaaGreat

theorem inr (z : Int) (h1 : -100000 ≤ z := by decide) (h2 : z ≤ 100000 := by decide) : inR z := by unfold inR; omega
end Go.Proofs.YtbgcadcpeabpgaaGreat

set_option maxRecDepth 100000
namespace Go.Proofs.YtbgcadcpeabpgaaGreat

end Go.Proofs.YtbgcadcpeabpgaaGreat

set_option maxRecDepth 100000
namespace Go.Proofs.YtbgcadcpeabpgaaGreat
open Go.RowKit

end Go.Proofs.YtbgcadcpeabpgaaGreat

set_option maxRecDepth 100000
namespace Go.Proofs.YtbgcadcpeabpgaaGreat
open Go.RowKit

end Go.Proofs.YtbgcadcpeabpgaaGreat

set_option maxRecDepth 100000
namespace Go.Proofs.YtbgcadcpeabpgaaGreat
open Go.RowKit

end Go.Proofs.YtbgcadcpeabpgaaGreat

set_option maxRecDepth 100000
namespace Go.Proofs.YtbgcadcpeabpgaaGreat

/-- A ratio as it stands. -/
def frac (z : Int) (d : Nat) : Num := ⟨decide (z < 0), lb z.natAbs, lb d⟩
theorem numT_frac (z : Int) (d : Nat) : numT (frac z d) = z := zv_wz z
theorem numB_frac (z : Int) (d : Nat) : numB (frac z d) = (d : Int) := by simp [numB, frac, nv_lb]
/-- A right number: so many of such parts. -/
structure RNum (n : Num) (z : Int) (d : Nat) : Prop where
  eq : n = frac z d
  d0 : d ≠ 0
  cop : Nat.Coprime z.natAbs d
  lz : lenZ z ≤ 32
  ld : (lb d).length ≤ 32
theorem RNum.top {n : Num} {z : Int} {d : Nat} (h : RNum n z d) : numT n = z := by rw [h.eq, numT_frac]
theorem RNum.bot {n : Num} {z : Int} {d : Nat} (h : RNum n z d) : numB n = (d : Int) := by rw [h.eq, numB_frac]
theorem RNum.len {n : Num} {z : Int} {d : Nat} (h : RNum n z d) : n.top.length ≤ 32 ∧ n.bot.length ≤ 32 := by rw [h.eq]; exact ⟨h.lz, h.ld⟩
end Go.Proofs.YtbgcadcpeabpgaaGreat

set_option maxRecDepth 100000
namespace Go.Proofs.YtbgcadcpeabpgaaGreat

section
variable {a b : Num}
end
section
variable {a b : Num} {z y : Int} {d e : Nat}
end
end Go.Proofs.YtbgcadcpeabpgaaGreat

set_option maxRecDepth 100000
namespace Go.Proofs.YtbgcadcpeabpgaaGreat
end Go.Proofs.YtbgcadcpeabpgaaGreat

set_option maxRecDepth 100000
namespace Go.Proofs.YtbgcadcpeabpgaaGreat
end Go.Proofs.YtbgcadcpeabpgaaGreat

set_option maxRecDepth 100000
namespace Go.Proofs.YtbgcadcpeabpgaaGreat
/-! scrim/scrimref15.At -/
def ref15_At_orc : List (Nat × Orc) := [(6, ⟨[(2, none), (4, none), (6, some 23), (9, none), (10, none)], [(2, true), (4, false), (9, false)], [(.fld 9 [2], 1060, 68)]⟩)]
def ref15_At_ps : List Nat := [26, 37]
def ref15_At_rs : List ResultVar := [.cell 4 26, .tmp 5]
def ref15_At_ts : List Nat := [26, 3]
noncomputable def ref15_At_l6 (n m6 : Nat) (p6 : D) (i10 : Int) (a2 : D) (t4_0 : Int) (out9_0 : Int) (out9_1 : D) (out9_2 : List D) : Tree :=
  evLoop Tryz.prog md (ev Tryz.prog md n ref15_At_orc (cAt (bodyOf Tryz.prog 21) [1, 1, 1, 1, 0, 1, 0, 0])) (orcAt ref15_At_orc 6) m6 ⟨[.undef, .undef, .ptr 2 [], .undef, .ptr 4 [], .undef, .d 23 p6, .undef, .undef, .ptr 9 [], .i .i64 i10, .undef, .undef, .undef, .undef, .undef, .undef, .undef, .undef, .undef, .undef, .undef, .undef, .undef, .undef, .undef, .undef, .undef, .undef, .undef, .undef, .undef, .undef, .undef, .undef, .undef, .undef, .undef, .undef, .undef, .undef, .undef, .undef, .undef, .undef, .undef, .undef, .undef, .undef], [(2, .var 26 (.d 26 a2) true), (4, .var 26 (.agg 26 [.i .u64 t4_0, .mt, .mt]) true), (9, .var 26 (.agg 26 [.i .u64 out9_0, .d 23 out9_1, .row 1060]) true), (1060, .row 68 out9_2 true)], [2, 4, 9, 1060], [], []⟩
   (blockK 0 (seqK (joinE Tryz.prog md (joinAt ref15_At_orc (cAt (bodyOf Tryz.prog 21) [1, 1, 1, 1, 1])) (ev Tryz.prog md n ref15_At_orc (cAt (bodyOf Tryz.prog 21) [1, 1, 1, 1, 1]))) (retK Tryz.prog md (md 21) ref15_At_ps ref15_At_rs ref15_At_ts)))
theorem ref15_At_l6_succ (n m6 : Nat) (p6 : D) (i10 : Int) (a2 : D) (t4_0 : Int) (out9_0 : Int) (out9_1 : D) (out9_2 : List D) : ref15_At_l6 n (m6 + 1) p6 i10 a2 t4_0 out9_0 out9_1 out9_2 =
 .br (decide (i10 < (p6.els.length : Int))) (.br (decide (0 ≤ i10)) (.br (decide (i10 < (p6.els.length : Int))) (.br (decide (0 ≤ (p6.els.getD (Int.toNat i10) D.nil).toInt)) (.br (decide ((p6.els.getD (Int.toNat i10) D.nil).toInt < (((a2.fld 2).els).length : Int))) (.br (decide (out9_2.length + [((a2.fld 2).els).getD (Int.toNat ((p6.els.getD (Int.toNat i10) D.nil).toInt)) D.nil].length ≤ bigN)) (ref15_At_l6 n m6 p6 (IntKind.wrap .i64 (i10 + 1)) a2 t4_0 out9_0 out9_1 (out9_2 ++ [((a2.fld 2).els).getD (Int.toNat ((p6.els.getD (Int.toNat i10) D.nil).toInt)) D.nil])) .fail) .fail) .fail) .fail) .fail)
 (.ret [D.agg [D.int out9_0, out9_1, D.sl out9_2], D.int 0]) := by kernel_rfl
theorem ref15_At_tree (n : Nat) (a0 : D) (l1 : D) : evFun Tryz.prog md ref15_At_orc n 21 [] [a0, l1] =
 .call 23 [] [a0, l1] fun yy1 =>
 .br (((yy1.getD 2 D.nil).toInt) != 0) (.ret [D.agg [D.int 0, D.sl [], D.sl []], D.int ((yy1.getD 2 D.nil).toInt)])
 (.call 26 [] [l1] fun yy2 =>
 .call 55 [] [D.int ((a0.fld 0).toInt), D.int ((yy2.getD 0 D.nil).toInt)] fun yy3 =>
 ref15_At_l6 n n (yy1.getD 0 D.nil) 0 a0 0 ((yy3.getD 0 D.nil).toInt) (yy1.getD 1 D.nil) []) := by kernel_rfl

/-! scrim/scrimref15.Places -/
def ref15_Places_orc : List (Nat × Orc) := [(6, ⟨[(1, some 37), (2, none), (7, none), (8, none), (9, none)], [(2, true)], [(.slot 7, 1060, 23), (.slot 8, 1061, 3)]⟩), (16, ⟨[(1, some 37), (2, none), (7, none), (8, none), (9, none), (10, some 23), (13, none), (14, none)], [(2, true)], [(.slot 7, 1160, 23), (.slot 8, 1161, 3), (.slot 13, 1162, 23)]⟩), (19, ⟨[(1, some 37), (2, none), (7, none), (8, none), (9, none), (10, some 23), (13, none), (14, none), (15, none)], [(2, true)], [(.slot 7, 1190, 23), (.slot 8, 1191, 3), (.slot 13, 1192, 23)]⟩), (30, ⟨[(2, none), (7, none), (8, none), (19, none), (20, none)], [(2, true)], [(.slot 7, 1300, 23), (.slot 8, 1301, 3), (.slot 19, 1302, 3)]⟩)]
def ref15_Places_ps : List Nat := [26, 37]
def ref15_Places_rs : List ResultVar := [.tmp 4, .tmp 5, .tmp 6]
def ref15_Places_ts : List Nat := [23, 23, 3]
noncomputable def ref15_Places_l19 (n m6 m16 m19 : Nat) (l1 : D) (places7 : List D) (s8 : List D) (i9 : Int) (k10 : D) (next13 : List D) (p14 : Int) (j15 : Int) (a2 : D) : Tree :=
  evLoop Tryz.prog md (ev Tryz.prog md n ref15_Places_orc (cAt (bodyOf Tryz.prog 23) [1, 1, 1, 1, 0, 1, 0, 0, 1, 0, 0, 1, 1, 1, 1, 1, 0, 1, 0, 0, 1, 0, 0, 1, 0, 0])) (orcAt ref15_Places_orc 19) m19 ⟨[.undef, .d 37 l1, .ptr 2 [], .undef, .undef, .undef, .undef, .row 1190, .row 1191, .i .i64 i9, .d 23 k10, .undef, .undef, .row 1192, .i .i64 p14, .i .i64 j15, .undef, .undef, .undef, .undef, .undef, .undef, .undef, .undef, .undef, .undef, .undef, .undef, .undef, .undef, .undef, .undef, .undef, .undef, .undef, .undef, .undef, .undef, .undef, .undef, .undef, .undef, .undef, .undef, .undef, .undef, .undef, .undef, .undef, .undef, .undef, .undef, .undef, .undef, .undef, .undef, .undef, .undef, .undef, .undef, .undef, .undef, .undef, .undef, .undef, .undef, .undef, .undef, .undef, .undef, .undef, .undef, .undef, .undef, .undef, .undef, .undef, .undef, .undef, .undef, .undef, .undef, .undef, .undef, .undef, .undef, .undef, .undef, .undef, .undef, .undef, .undef, .undef, .undef, .undef, .undef, .undef, .undef, .undef, .undef, .undef, .undef, .undef, .undef, .undef, .undef, .undef, .undef, .undef, .undef, .undef, .undef, .undef, .undef, .undef, .undef, .undef, .undef, .undef, .undef, .undef], [(2, .var 26 (.d 26 a2) true), (1190, .row 23 places7 true), (1191, .row 3 s8 true), (1192, .row 23 next13 true)], [2, 1190, 1191, 1192], [], []⟩
   (blockK 4 (blockK 3 (seqK (joinE Tryz.prog md (joinAt ref15_Places_orc (cAt (bodyOf Tryz.prog 23) [1, 1, 1, 1, 0, 1, 0, 0, 1, 0, 0, 1, 1, 1, 1, 1, 0, 1, 0, 0, 1, 1])) (ev Tryz.prog md n ref15_Places_orc (cAt (bodyOf Tryz.prog 23) [1, 1, 1, 1, 0, 1, 0, 0, 1, 0, 0, 1, 1, 1, 1, 1, 0, 1, 0, 0, 1, 1]))) (loopK Tryz.prog md (orcAt ref15_Places_orc 16) (fun s1 => evLoop Tryz.prog md (ev Tryz.prog md n ref15_Places_orc (cAt (bodyOf Tryz.prog 23) [1, 1, 1, 1, 0, 1, 0, 0, 1, 0, 0, 1, 1, 1, 1, 1, 0, 1, 0, 0])) (orcAt ref15_Places_orc 16) m16 s1 (blockK 2 (seqK (joinE Tryz.prog md (joinAt ref15_Places_orc (cAt (bodyOf Tryz.prog 23) [1, 1, 1, 1, 0, 1, 0, 0, 1, 0, 0, 1, 1, 1, 1, 1, 1])) (ev Tryz.prog md n ref15_Places_orc (cAt (bodyOf Tryz.prog 23) [1, 1, 1, 1, 0, 1, 0, 0, 1, 0, 0, 1, 1, 1, 1, 1, 1]))) (blockK 1 (seqK (joinE Tryz.prog md (joinAt ref15_Places_orc (cAt (bodyOf Tryz.prog 23) [1, 1, 1, 1, 0, 1, 0, 0, 1, 1])) (ev Tryz.prog md n ref15_Places_orc (cAt (bodyOf Tryz.prog 23) [1, 1, 1, 1, 0, 1, 0, 0, 1, 1]))) (loopK Tryz.prog md (orcAt ref15_Places_orc 6) (fun s1 => evLoop Tryz.prog md (ev Tryz.prog md n ref15_Places_orc (cAt (bodyOf Tryz.prog 23) [1, 1, 1, 1, 0, 1, 0, 0])) (orcAt ref15_Places_orc 6) m6 s1 (blockK 0 (seqK (joinE Tryz.prog md (joinAt ref15_Places_orc (cAt (bodyOf Tryz.prog 23) [1, 1, 1, 1, 1])) (ev Tryz.prog md n ref15_Places_orc (cAt (bodyOf Tryz.prog 23) [1, 1, 1, 1, 1]))) (retK Tryz.prog md (md 23) ref15_Places_ps ref15_Places_rs ref15_Places_ts)))) (blockK 0 (seqK (joinE Tryz.prog md (joinAt ref15_Places_orc (cAt (bodyOf Tryz.prog 23) [1, 1, 1, 1, 1])) (ev Tryz.prog md n ref15_Places_orc (cAt (bodyOf Tryz.prog 23) [1, 1, 1, 1, 1]))) (retK Tryz.prog md (md 23) ref15_Places_ps ref15_Places_rs ref15_Places_ts))))))))) (blockK 2 (seqK (joinE Tryz.prog md (joinAt ref15_Places_orc (cAt (bodyOf Tryz.prog 23) [1, 1, 1, 1, 0, 1, 0, 0, 1, 0, 0, 1, 1, 1, 1, 1, 1])) (ev Tryz.prog md n ref15_Places_orc (cAt (bodyOf Tryz.prog 23) [1, 1, 1, 1, 0, 1, 0, 0, 1, 0, 0, 1, 1, 1, 1, 1, 1]))) (blockK 1 (seqK (joinE Tryz.prog md (joinAt ref15_Places_orc (cAt (bodyOf Tryz.prog 23) [1, 1, 1, 1, 0, 1, 0, 0, 1, 1])) (ev Tryz.prog md n ref15_Places_orc (cAt (bodyOf Tryz.prog 23) [1, 1, 1, 1, 0, 1, 0, 0, 1, 1]))) (loopK Tryz.prog md (orcAt ref15_Places_orc 6) (fun s1 => evLoop Tryz.prog md (ev Tryz.prog md n ref15_Places_orc (cAt (bodyOf Tryz.prog 23) [1, 1, 1, 1, 0, 1, 0, 0])) (orcAt ref15_Places_orc 6) m6 s1 (blockK 0 (seqK (joinE Tryz.prog md (joinAt ref15_Places_orc (cAt (bodyOf Tryz.prog 23) [1, 1, 1, 1, 1])) (ev Tryz.prog md n ref15_Places_orc (cAt (bodyOf Tryz.prog 23) [1, 1, 1, 1, 1]))) (retK Tryz.prog md (md 23) ref15_Places_ps ref15_Places_rs ref15_Places_ts)))) (blockK 0 (seqK (joinE Tryz.prog md (joinAt ref15_Places_orc (cAt (bodyOf Tryz.prog 23) [1, 1, 1, 1, 1])) (ev Tryz.prog md n ref15_Places_orc (cAt (bodyOf Tryz.prog 23) [1, 1, 1, 1, 1]))) (retK Tryz.prog md (md 23) ref15_Places_ps ref15_Places_rs ref15_Places_ts))))))))))))
noncomputable def ref15_Places_l16 (n m6 m16 : Nat) (l1 : D) (places7 : List D) (s8 : List D) (i9 : Int) (k10 : D) (next13 : List D) (p14 : Int) (a2 : D) : Tree :=
  evLoop Tryz.prog md (ev Tryz.prog md n ref15_Places_orc (cAt (bodyOf Tryz.prog 23) [1, 1, 1, 1, 0, 1, 0, 0, 1, 0, 0, 1, 1, 1, 1, 1, 0, 1, 0, 0])) (orcAt ref15_Places_orc 16) m16 ⟨[.undef, .d 37 l1, .ptr 2 [], .undef, .undef, .undef, .undef, .row 1160, .row 1161, .i .i64 i9, .d 23 k10, .undef, .undef, .row 1162, .i .i64 p14, .undef, .undef, .undef, .undef, .undef, .undef, .undef, .undef, .undef, .undef, .undef, .undef, .undef, .undef, .undef, .undef, .undef, .undef, .undef, .undef, .undef, .undef, .undef, .undef, .undef, .undef, .undef, .undef, .undef, .undef, .undef, .undef, .undef, .undef, .undef, .undef, .undef, .undef, .undef, .undef, .undef, .undef, .undef, .undef, .undef, .undef, .undef, .undef, .undef, .undef, .undef, .undef, .undef, .undef, .undef, .undef, .undef, .undef, .undef, .undef, .undef, .undef, .undef, .undef, .undef, .undef, .undef, .undef, .undef, .undef, .undef, .undef, .undef, .undef, .undef, .undef, .undef, .undef, .undef, .undef, .undef, .undef, .undef, .undef, .undef, .undef, .undef, .undef, .undef, .undef, .undef, .undef, .undef, .undef, .undef, .undef, .undef, .undef, .undef, .undef, .undef, .undef, .undef, .undef, .undef, .undef], [(2, .var 26 (.d 26 a2) true), (1160, .row 23 places7 true), (1161, .row 3 s8 true), (1162, .row 23 next13 true)], [2, 1160, 1161, 1162], [], []⟩
   (blockK 2 (seqK (joinE Tryz.prog md (joinAt ref15_Places_orc (cAt (bodyOf Tryz.prog 23) [1, 1, 1, 1, 0, 1, 0, 0, 1, 0, 0, 1, 1, 1, 1, 1, 1])) (ev Tryz.prog md n ref15_Places_orc (cAt (bodyOf Tryz.prog 23) [1, 1, 1, 1, 0, 1, 0, 0, 1, 0, 0, 1, 1, 1, 1, 1, 1]))) (blockK 1 (seqK (joinE Tryz.prog md (joinAt ref15_Places_orc (cAt (bodyOf Tryz.prog 23) [1, 1, 1, 1, 0, 1, 0, 0, 1, 1])) (ev Tryz.prog md n ref15_Places_orc (cAt (bodyOf Tryz.prog 23) [1, 1, 1, 1, 0, 1, 0, 0, 1, 1]))) (loopK Tryz.prog md (orcAt ref15_Places_orc 6) (fun s1 => evLoop Tryz.prog md (ev Tryz.prog md n ref15_Places_orc (cAt (bodyOf Tryz.prog 23) [1, 1, 1, 1, 0, 1, 0, 0])) (orcAt ref15_Places_orc 6) m6 s1 (blockK 0 (seqK (joinE Tryz.prog md (joinAt ref15_Places_orc (cAt (bodyOf Tryz.prog 23) [1, 1, 1, 1, 1])) (ev Tryz.prog md n ref15_Places_orc (cAt (bodyOf Tryz.prog 23) [1, 1, 1, 1, 1]))) (retK Tryz.prog md (md 23) ref15_Places_ps ref15_Places_rs ref15_Places_ts)))) (blockK 0 (seqK (joinE Tryz.prog md (joinAt ref15_Places_orc (cAt (bodyOf Tryz.prog 23) [1, 1, 1, 1, 1])) (ev Tryz.prog md n ref15_Places_orc (cAt (bodyOf Tryz.prog 23) [1, 1, 1, 1, 1]))) (retK Tryz.prog md (md 23) ref15_Places_ps ref15_Places_rs ref15_Places_ts))))))))
noncomputable def ref15_Places_l30 (n m30 : Nat) (places7 : List D) (s8 : List D) (out19 : List D) (p20 : Int) (a2 : D) : Tree :=
  evLoop Tryz.prog md (ev Tryz.prog md n ref15_Places_orc (cAt (bodyOf Tryz.prog 23) [1, 1, 1, 1, 1, 1, 1, 1, 0, 1, 0, 0])) (orcAt ref15_Places_orc 30) m30 ⟨[.undef, .undef, .ptr 2 [], .undef, .undef, .undef, .undef, .row 1300, .row 1301, .undef, .undef, .undef, .undef, .undef, .undef, .undef, .undef, .undef, .undef, .row 1302, .i .i64 p20, .undef, .undef, .undef, .undef, .undef, .undef, .undef, .undef, .undef, .undef, .undef, .undef, .undef, .undef, .undef, .undef, .undef, .undef, .undef, .undef, .undef, .undef, .undef, .undef, .undef, .undef, .undef, .undef, .undef, .undef, .undef, .undef, .undef, .undef, .undef, .undef, .undef, .undef, .undef, .undef, .undef, .undef, .undef, .undef, .undef, .undef, .undef, .undef, .undef, .undef, .undef, .undef, .undef, .undef, .undef, .undef, .undef, .undef, .undef, .undef, .undef, .undef, .undef, .undef, .undef, .undef, .undef, .undef, .undef, .undef, .undef, .undef, .undef, .undef, .undef, .undef, .undef, .undef, .undef, .undef, .undef, .undef, .undef, .undef, .undef, .undef, .undef, .undef, .undef, .undef, .undef, .undef, .undef, .undef, .undef, .undef, .undef, .undef, .undef, .undef], [(2, .var 26 (.d 26 a2) true), (1300, .row 23 places7 true), (1301, .row 3 s8 true), (1302, .row 3 out19 true)], [2, 1300, 1301, 1302], [], []⟩
   (blockK 6 (seqK (joinE Tryz.prog md (joinAt ref15_Places_orc (cAt (bodyOf Tryz.prog 23) [1, 1, 1, 1, 1, 1, 1, 1, 1])) (ev Tryz.prog md n ref15_Places_orc (cAt (bodyOf Tryz.prog 23) [1, 1, 1, 1, 1, 1, 1, 1, 1]))) (retK Tryz.prog md (md 23) ref15_Places_ps ref15_Places_rs ref15_Places_ts)))
noncomputable def ref15_Places_l6 (n m6 : Nat) (l1 : D) (places7 : List D) (s8 : List D) (i9 : Int) (a2 : D) : Tree :=
  evLoop Tryz.prog md (ev Tryz.prog md n ref15_Places_orc (cAt (bodyOf Tryz.prog 23) [1, 1, 1, 1, 0, 1, 0, 0])) (orcAt ref15_Places_orc 6) m6 ⟨[.undef, .d 37 l1, .ptr 2 [], .undef, .undef, .undef, .undef, .row 1060, .row 1061, .i .i64 i9, .undef, .undef, .undef, .undef, .undef, .undef, .undef, .undef, .undef, .undef, .undef, .undef, .undef, .undef, .undef, .undef, .undef, .undef, .undef, .undef, .undef, .undef, .undef, .undef, .undef, .undef, .undef, .undef, .undef, .undef, .undef, .undef, .undef, .undef, .undef, .undef, .undef, .undef, .undef, .undef, .undef, .undef, .undef, .undef, .undef, .undef, .undef, .undef, .undef, .undef, .undef, .undef, .undef, .undef, .undef, .undef, .undef, .undef, .undef, .undef, .undef, .undef, .undef, .undef, .undef, .undef, .undef, .undef, .undef, .undef, .undef, .undef, .undef, .undef, .undef, .undef, .undef, .undef, .undef, .undef, .undef, .undef, .undef, .undef, .undef, .undef, .undef, .undef, .undef, .undef, .undef, .undef, .undef, .undef, .undef, .undef, .undef, .undef, .undef, .undef, .undef, .undef, .undef, .undef, .undef, .undef, .undef, .undef, .undef, .undef, .undef], [(2, .var 26 (.d 26 a2) true), (1060, .row 23 places7 true), (1061, .row 3 s8 true)], [2, 1060, 1061], [], []⟩
   (blockK 0 (seqK (joinE Tryz.prog md (joinAt ref15_Places_orc (cAt (bodyOf Tryz.prog 23) [1, 1, 1, 1, 1])) (ev Tryz.prog md n ref15_Places_orc (cAt (bodyOf Tryz.prog 23) [1, 1, 1, 1, 1]))) (retK Tryz.prog md (md 23) ref15_Places_ps ref15_Places_rs ref15_Places_ts)))
theorem ref15_Places_l19_succ (n m6 m16 m19 : Nat) (l1 : D) (places7 : List D) (s8 : List D) (i9 : Int) (k10 : D) (next13 : List D) (p14 : Int) (j15 : Int) (a2 : D) : ref15_Places_l19 n m6 m16 (m19 + 1) l1 places7 s8 i9 k10 next13 p14 j15 a2 =
 .br (decide (j15 < (k10.els.length : Int))) (.br (decide (0 ≤ p14)) (.br (decide (p14 < (places7.length : Int))) (.br (decide (((places7.getD (Int.toNat p14) D.nil).els).length ≤ bigN)) (.br (decide (0 ≤ j15)) (.br (decide (j15 < (k10.els.length : Int))) (.br (decide (((places7.getD (Int.toNat p14) D.nil).els).length + [D.int ((k10.els.getD (Int.toNat j15) D.nil).toInt)].length ≤ bigN)) (.br (decide (next13.length + [D.sl (((places7.getD (Int.toNat p14) D.nil).els) ++ [D.int ((k10.els.getD (Int.toNat j15) D.nil).toInt)])].length ≤ bigN)) (ref15_Places_l19 n m6 m16 m19 l1 places7 s8 i9 k10 (next13 ++ [D.sl (((places7.getD (Int.toNat p14) D.nil).els) ++ [D.int ((k10.els.getD (Int.toNat j15) D.nil).toInt)])]) p14 (IntKind.wrap .i64 (j15 + 1)) a2) .fail) .fail) .fail) .fail) .fail) .fail) .fail)
 (ref15_Places_l16 n m6 m16 l1 places7 s8 i9 k10 next13 (IntKind.wrap .i64 (p14 + 1)) a2) := by kernel_rfl
theorem ref15_Places_l16_succ (n m6 m16 : Nat) (l1 : D) (places7 : List D) (s8 : List D) (i9 : Int) (k10 : D) (next13 : List D) (p14 : Int) (a2 : D) : ref15_Places_l16 n m6 (m16 + 1) l1 places7 s8 i9 k10 next13 p14 a2 =
 .br (decide (p14 < (places7.length : Int))) (ref15_Places_l19 n m6 m16 n l1 places7 s8 i9 k10 next13 p14 0 a2)
 (ref15_Places_l6 n m6 l1 next13 s8 (IntKind.wrap .i64 (i9 + 1)) a2) := by kernel_rfl
theorem ref15_Places_l30_succ (n m30 : Nat) (places7 : List D) (s8 : List D) (out19 : List D) (p20 : Int) (a2 : D) : ref15_Places_l30 n (m30 + 1) places7 s8 out19 p20 a2 =
 .br (decide (p20 < (places7.length : Int))) (.br (decide (0 ≤ p20)) (.br (decide (p20 < (places7.length : Int))) (.call 60 [] [a2.fld 1, places7.getD (Int.toNat p20) D.nil] fun yy3 =>
 .br (decide (out19.length + [D.int ((yy3.getD 0 D.nil).toInt)].length ≤ bigN)) (ref15_Places_l30 n m30 places7 s8 (out19 ++ [D.int ((yy3.getD 0 D.nil).toInt)]) (IntKind.wrap .i64 (p20 + 1)) a2) .fail) .fail) .fail)
 (.ret [D.sl out19, D.sl s8, D.int 0]) := by kernel_rfl
theorem ref15_Places_l6_succ (n m6 : Nat) (l1 : D) (places7 : List D) (s8 : List D) (i9 : Int) (a2 : D) : ref15_Places_l6 n (m6 + 1) l1 places7 s8 i9 a2 =
 .br (decide (i9 < (l1.els.length : Int))) (.br (decide (0 ≤ i9)) (.br (decide (i9 < (l1.els.length : Int))) (.br (decide (0 ≤ i9)) (.br (decide (i9 < (((a2.fld 1).els).length : Int))) (.call 59 [] [l1.els.getD (Int.toNat i9) D.nil, D.int ((((a2.fld 1).els).getD (Int.toNat i9) D.nil).toInt)] fun yy1 =>
 .br (((yy1.getD 2 D.nil).toInt) != 0) (.ret [D.sl [], D.sl [], D.int ((yy1.getD 2 D.nil).toInt)])
 (.br (decide (2048 < (IntKind.wrap .i64 ((places7.length : Int) * (((yy1.getD 0 D.nil).els).length : Int))))) (.ret [D.sl [], D.sl [], D.int 7])
 (.br (decide (s8.length + ((yy1.getD 1 D.nil).els).length ≤ bigN)) (ref15_Places_l16 n m6 n l1 places7 (s8 ++ ((yy1.getD 1 D.nil).els)) i9 (yy1.getD 0 D.nil) [] 0 a2) .fail))) .fail) .fail) .fail) .fail)
 (.call 49 [] [D.sl s8] fun yy2 =>
 .br (((yy2.getD 1 D.nil).toInt) != 0) (.ret [D.sl [], D.sl [], D.int ((yy2.getD 1 D.nil).toInt)])
 (ref15_Places_l30 n n places7 s8 [] 0 a2)) := by kernel_rfl
theorem ref15_Places_tree (n : Nat) (a0 : D) (l1 : D) : evFun Tryz.prog md ref15_Places_orc n 23 [] [a0, l1] =
 .br ((((a0.fld 1).els).length : Int) == 0) (.ret [D.sl [], D.sl [], D.int 5])
 (.br ((l1.els.length : Int) != (((a0.fld 1).els).length : Int)) (.ret [D.sl [], D.sl [], D.int 5])
 (ref15_Places_l6 n n l1 [D.sl []] [] 0 a0)) := by kernel_rfl

/-! scrim/scrimref15.Total -/
def ref15_Total_orc : List (Nat × Orc) := [(3, ⟨[(0, some 37), (3, none), (4, none)], [], []⟩)]
def ref15_Total_ps : List Nat := [37]
def ref15_Total_rs : List ResultVar := [.tmp 2]
def ref15_Total_ts : List Nat := [22]
noncomputable def ref15_Total_l3 (n m3 : Nat) (l0 : D) (out3 : Int) (i4 : Int) : Tree :=
  evLoop Tryz.prog md (ev Tryz.prog md n ref15_Total_orc (cAt (bodyOf Tryz.prog 26) [1, 1, 0, 1, 0, 0])) (orcAt ref15_Total_orc 3) m3 ⟨[.d 37 l0, .undef, .undef, .i .u64 out3, .i .i64 i4, .undef, .undef, .undef, .undef, .undef, .undef, .undef, .undef, .undef, .undef, .undef, .undef, .undef, .undef, .undef, .undef, .undef, .undef, .undef, .undef, .undef], [], [], [], []⟩
   (blockK 0 (seqK (joinE Tryz.prog md (joinAt ref15_Total_orc (cAt (bodyOf Tryz.prog 26) [1, 1, 1])) (ev Tryz.prog md n ref15_Total_orc (cAt (bodyOf Tryz.prog 26) [1, 1, 1]))) (retK Tryz.prog md (md 26) ref15_Total_ps ref15_Total_rs ref15_Total_ts)))
theorem ref15_Total_l3_succ (n m3 : Nat) (l0 : D) (out3 : Int) (i4 : Int) : ref15_Total_l3 n (m3 + 1) l0 out3 i4 =
 .br (decide (i4 < (l0.els.length : Int))) (.br (decide (0 ≤ i4)) (.br (decide (i4 < (l0.els.length : Int))) (.br (!(((l0.els.getD (Int.toNat i4) D.nil).fld 0).toBool)) (.br (decide (0 ≤ i4)) (.br (decide (i4 < (l0.els.length : Int))) (.call 48 [] [(l0.els.getD (Int.toNat i4) D.nil).fld 1] fun yy1 =>
 .call 55 [] [D.int out3, D.int ((yy1.getD 0 D.nil).toInt)] fun yy2 =>
 ref15_Total_l3 n m3 l0 ((yy2.getD 0 D.nil).toInt) (IntKind.wrap .i64 (i4 + 1))) .fail) .fail)
 (ref15_Total_l3 n m3 l0 out3 (IntKind.wrap .i64 (i4 + 1)))) .fail) .fail)
 (.ret [D.int out3]) := by kernel_rfl
theorem ref15_Total_tree (n : Nat) (l0 : D) : evFun Tryz.prog md ref15_Total_orc n 26 [] [l0] =
 ref15_Total_l3 n n l0 0 0 := by kernel_rfl

/-! scrim/scrimref15.list -/
def ref15_list_orc : List (Nat × Orc) := [(4, ⟨[(1, none), (7, none), (8, none)], [], [(.slot 7, 1040, 3)]⟩), (12, ⟨[(1, none), (2, none), (7, none), (9, some 23), (11, none)], [(2, true)], [(.slot 7, 1120, 3)]⟩)]
def ref15_list_ps : List Nat := [85, 3]
def ref15_list_rs : List ResultVar := [.tmp 4, .tmp 5, .tmp 6]
def ref15_list_ts : List Nat := [23, 23, 3]
noncomputable def ref15_list_l4 (n m4 : Nat) (nn1 : Int) (l7 : List D) (i8 : Int) : Tree :=
  evLoop Tryz.prog md (ev Tryz.prog md n ref15_list_orc (cAt (bodyOf Tryz.prog 59) [1, 1, 0, 1, 0, 0, 1, 0, 0])) (orcAt ref15_list_orc 4) m4 ⟨[.undef, .i .i64 nn1, .undef, .undef, .undef, .undef, .undef, .row 1040, .i .i64 i8, .undef, .undef, .undef, .undef, .undef, .undef, .undef, .undef, .undef, .undef, .undef, .undef, .undef, .undef, .undef, .undef, .undef, .undef, .undef, .undef, .undef, .undef, .undef, .undef, .undef, .undef, .undef, .undef, .undef, .undef, .undef, .undef, .undef, .undef, .undef, .undef, .undef, .undef, .undef, .undef, .undef, .undef, .undef, .undef, .undef, .undef, .undef, .undef, .undef, .undef, .undef, .undef, .undef, .undef, .undef, .undef, .undef, .undef, .undef], [(1040, .row 3 l7 true)], [1040], [], []⟩
   (blockK 0 (seqK (joinE Tryz.prog md (joinAt ref15_list_orc (cAt (bodyOf Tryz.prog 59) [1, 1, 0, 1, 0, 1])) (ev Tryz.prog md n ref15_list_orc (cAt (bodyOf Tryz.prog 59) [1, 1, 0, 1, 0, 1]))) (seqK (joinE Tryz.prog md (joinAt ref15_list_orc (cAt (bodyOf Tryz.prog 59) [1, 1, 1])) (ev Tryz.prog md n ref15_list_orc (cAt (bodyOf Tryz.prog 59) [1, 1, 1]))) (retK Tryz.prog md (md 59) ref15_list_ps ref15_list_rs ref15_list_ts))))
noncomputable def ref15_list_l12 (n m12 : Nat) (nn1 : Int) (l7 : List D) (k9 : D) (i11 : Int) (x2 : D) : Tree :=
  evLoop Tryz.prog md (ev Tryz.prog md n ref15_list_orc (cAt (bodyOf Tryz.prog 59) [1, 1, 1, 1, 1, 0, 1, 0, 0])) (orcAt ref15_list_orc 12) m12 ⟨[.undef, .i .i64 nn1, .ptr 2 [], .undef, .undef, .undef, .undef, .row 1120, .undef, .d 23 k9, .undef, .i .i64 i11, .undef, .undef, .undef, .undef, .undef, .undef, .undef, .undef, .undef, .undef, .undef, .undef, .undef, .undef, .undef, .undef, .undef, .undef, .undef, .undef, .undef, .undef, .undef, .undef, .undef, .undef, .undef, .undef, .undef, .undef, .undef, .undef, .undef, .undef, .undef, .undef, .undef, .undef, .undef, .undef, .undef, .undef, .undef, .undef, .undef, .undef, .undef, .undef, .undef, .undef, .undef, .undef, .undef, .undef, .undef, .undef], [(2, .var 85 (.d 85 x2) true), (1120, .row 3 l7 true)], [2, 1120], [], []⟩
   (blockK 2 (seqK (joinE Tryz.prog md (joinAt ref15_list_orc (cAt (bodyOf Tryz.prog 59) [1, 1, 1, 1, 1, 1])) (ev Tryz.prog md n ref15_list_orc (cAt (bodyOf Tryz.prog 59) [1, 1, 1, 1, 1, 1]))) (retK Tryz.prog md (md 59) ref15_list_ps ref15_list_rs ref15_list_ts)))
theorem ref15_list_l4_succ (n m4 : Nat) (nn1 : Int) (l7 : List D) (i8 : Int) : ref15_list_l4 n (m4 + 1) nn1 l7 i8 =
 .br (decide (i8 < nn1)) (.br (decide (l7.length + [D.int i8].length ≤ bigN)) (ref15_list_l4 n m4 nn1 (l7 ++ [D.int i8]) (IntKind.wrap .i64 (i8 + 1))) .fail)
 (.ret [D.sl l7, D.sl [D.int nn1], D.int 0]) := by kernel_rfl
theorem ref15_list_l12_succ (n m12 : Nat) (nn1 : Int) (l7 : List D) (k9 : D) (i11 : Int) (x2 : D) : ref15_list_l12 n (m12 + 1) nn1 l7 k9 i11 x2 =
 .br (decide (i11 < (k9.els.length : Int))) (.br (decide (0 ≤ i11)) (.br (decide (i11 < (k9.els.length : Int))) (.br (decide (((k9.els.getD (Int.toNat i11) D.nil).toInt) < 1)) (.ret [D.sl [], D.sl [], D.int 6])
 (.br (decide (0 ≤ i11)) (.br (decide (i11 < (k9.els.length : Int))) (.br (decide (nn1 < ((k9.els.getD (Int.toNat i11) D.nil).toInt))) (.ret [D.sl [], D.sl [], D.int 6])
 (.br (decide (0 ≤ i11)) (.br (decide (i11 < (k9.els.length : Int))) (.br (decide (l7.length + [D.int (IntKind.wrap .i64 (((k9.els.getD (Int.toNat i11) D.nil).toInt) - 1))].length ≤ bigN)) (ref15_list_l12 n m12 nn1 (l7 ++ [D.int (IntKind.wrap .i64 (((k9.els.getD (Int.toNat i11) D.nil).toInt) - 1))]) k9 (IntKind.wrap .i64 (i11 + 1)) x2) .fail) .fail) .fail)) .fail) .fail)) .fail) .fail)
 (.ret [D.sl l7, (x2.fld 1).fld 1, D.int 0]) := by kernel_rfl
theorem ref15_list_tree (n : Nat) (x0 : D) (nn1 : D) : evFun Tryz.prog md ref15_list_orc n 59 [] [x0, nn1] =
 .br ((x0.fld 0).toBool) (ref15_list_l4 n n nn1.toInt [] 0)
 (.call 34 [] [D.agg [D.int 0, D.sl [], (x0.fld 1).fld 2]] fun yy1 =>
 .br (((yy1.getD 1 D.nil).toInt) != 0) (.ret [D.sl [], D.sl [], D.int ((yy1.getD 1 D.nil).toInt)])
 (ref15_list_l12 n n nn1.toInt [] (yy1.getD 0 D.nil) 0 x0)) := by kernel_rfl

end Go.Proofs.YtbgcadcpeabpgaaGreat

set_option maxRecDepth 100000
namespace Go.Proofs.YtbgcadcpeabpgaaGreat

/-! A row: any two stand one way, turned round the other way, and it goes on. -/
structure Row {α : Type} (S : α → Prop) (f : α → α → Int) : Prop where
  val : ∀ x y, S x → S y → f x y = -1 ∨ f x y = 0 ∨ f x y = 1
  flip : ∀ x y, S x → S y → f y x = - f x y
  go : ∀ x y z, S x → S y → S z → f x y ≤ 0 → f y z ≤ 0 → f x z ≤ 0
section
variable {α : Type} {S : α → Prop} {f g : α → α → Int}
theorem Row.mono {T : α → Prop} (h : Row S f) (hs : ∀ x, T x → S x) : Row T f := ⟨fun x y hx hy => h.val x y (hs x hx) (hs y hy), fun x y hx hy => h.flip x y (hs x hx) (hs y hy), fun x y z hx hy hz => h.go x y z (hs x hx) (hs y hy) (hs z hz)⟩
theorem Row.congr (h : Row S f) (e : ∀ x y, S x → S y → g x y = f x y) : Row S g := ⟨fun x y hx hy => by rw [e x y hx hy]; exact h.val x y hx hy, fun x y hx hy => by rw [e x y hx hy, e y x hy hx]; exact h.flip x y hx hy, fun x y z hx hy hz => by rw [e x y hx hy, e y z hy hz, e x z hx hz]; exact h.go x y z hx hy hz⟩
end
end Go.Proofs.YtbgcadcpeabpgaaGreat

set_option maxRecDepth 100000
namespace Go.Proofs.YtbgcadcpeabpgaaGreat

def leK (k : Nat → Nat → Int) (i j : Nat) : Prop := k i j < 0 ∨ (k i j = 0 ∧ i ≤ j)
instance (k : Nat → Nat → Int) (i j : Nat) : Decidable (leK k i j) := by unfold leK; infer_instance
abbrev AllN (f : Nat → Nat → Int) : Prop := Row (fun _ : Nat => True) f
section
variable {k : Nat → Nat → Int} (hk : AllN k)
include hk
omit hk in
end
section
variable {k : Nat → Nat → Int} (hk : AllN k)
include hk
omit hk in
omit hk in
end
/-! Places in the data. -/
def dP (i : Nat) : D := .int (i : Int)
theorem dP_int (i : Nat) : (dP i).toInt = (i : Int) := rfl
theorem at_app {A : List Nat} {x : Nat} {B : List Nat} {i : Nat} (h : i = A.length) : ((A ++ x :: B).map dP).getD i D.nil = dP x := by
  subst h; simp [List.getD_eq_getElem?_getD]
theorem set_app {A : List Nat} {x y : Nat} {B : List Nat} {i : Nat} (h : i = A.length) : ((A ++ x :: B).map dP).set i (dP y) = (A ++ y :: B).map dP := by
  subst h; simp
end Go.Proofs.YtbgcadcpeabpgaaGreat

set_option maxRecDepth 100000
namespace Go.Proofs.YtbgcadcpeabpgaaGreat
def iN (l : List Nat) : List Int := l.map (fun (x : Nat) => (x : Int))
theorem iN_len (l : List Nat) : (iN l).length = l.length := by simp [iN]
theorem iN_D (l : List Nat) : (iN l).map D.int = l.map dP := by unfold iN; rw [List.map_map]; rfl
theorem dI_iN (l : List Nat) : dI (iN l) = D.sl (l.map dP) := by unfold dI; rw [iN_D]
theorem iN_of {l : List Int} (h : ∀ x ∈ l, 0 ≤ x) : ∃ m : List Nat, l = iN m := by
  refine ⟨l.map Int.toNat, ?_⟩
  unfold iN
  rw [List.map_map]
  conv => lhs; rw [← List.map_id l]
  refine List.map_congr_left (fun x hx => ?_)
  have := h x hx
  simp only [id, Function.comp]
  omega
theorem iN_inj : ∀ {a b : List Nat}, iN a = iN b → a = b
  | [], [], _ => rfl
  | [], _ :: _, h => by simp [iN] at h
  | _ :: _, [], h => by simp [iN] at h
  | x :: xs, y :: ys, h => by
    simp only [iN, List.map_cons, List.cons.injEq] at h
    rw [iN_inj (a := xs) (b := ys) h.2, show x = y by omega]
/-! Digits, the last axis first. -/
def digN : List Nat → Nat → List Nat
  | [], _ => []
  | x :: xs, n => n % x :: digN xs (n / x)
def prodN : List Nat → Nat
  | [] => 1
  | x :: xs => x * prodN xs
theorem digN_len : ∀ (l : List Nat) (n : Nat), (digN l n).length = l.length
  | [], _ => rfl
  | x :: xs, n => by simp [digN, digN_len xs]
theorem digN_zero : ∀ (l : List Nat), digN l 0 = List.replicate l.length 0
  | [] => rfl
  | x :: xs => by simp [digN, digN_zero xs, List.replicate_succ]
theorem digN_inj : ∀ {l : List Nat} {i j : Nat}, i < prodN l → j < prodN l → digN l i = digN l j → i = j
  | [], i, j, hi, hj, _ => by simp [prodN] at hi hj; omega
  | x :: xs, i, j, hi, hj, h => by
    simp only [digN, List.cons.injEq] at h
    simp only [prodN] at hi hj
    have h1 := digN_inj (Nat.div_lt_of_lt_mul hi) (Nat.div_lt_of_lt_mul hj) h.2
    rw [← Nat.div_add_mod i x, ← Nat.div_add_mod j x, h1, h.1]
def nxtN : List Nat → List Nat → List Nat
  | x :: xs, a :: as_ => if a + 1 < x then (a + 1) :: as_ else 0 :: nxtN xs as_
  | _, _ => []
theorem nxt_dig : ∀ (l : List Nat) (n : Nat), (∀ x ∈ l, 1 ≤ x) → nxtN l (digN l n) = digN l (n + 1)
  | [], _, _ => rfl
  | x :: xs, n, h => by
    have hx := h x (by simp)
    have ih := nxt_dig xs (n / x) (fun y hy => h y (by simp [hy]))
    have hn := Nat.div_add_mod n x
    have hr := Nat.mod_lt n hx
    simp only [digN, nxtN]
    split
    · rename_i hlt
      have e : n + 1 = x * (n / x) + (n % x + 1) := by omega
      rw [e, Nat.mul_add_mod, Nat.mod_eq_of_lt hlt, Nat.mul_add_div hx, Nat.div_eq_of_lt hlt]
      rfl
    · rename_i hlt
      have e : n + 1 = x * (n / x + 1) := by rw [Nat.mul_add, Nat.mul_one]; omega
      rw [ih, e, Nat.mul_mod_right, Nat.mul_div_cancel_left _ hx]
theorem digN_lt : ∀ (l : List Nat) (n : Nat), (∀ x ∈ l, 1 ≤ x) → ∀ (i : Nat) (a x : Nat), (digN l n)[i]? = some a → l[i]? = some x → a < x
  | [], _, _, i, a, x, h, _ => by simp [digN] at h
  | x :: xs, n, hl, 0, a, y, h, h' => by
    simp [digN] at h h'
    subst h; subst h'
    exact Nat.mod_lt _ (hl _ (by simp))
  | x :: xs, n, hl, i + 1, a, y, h, h' => digN_lt xs (n / x) (fun z hz => hl z (by simp [hz])) i a y (by simpa [digN] using h) (by simpa using h')
/-- The place of a cell. -/
def atN (s : List Nat) (n : Nat) : List Nat := (digN s.reverse n).reverse
theorem atN_len (s : List Nat) (n : Nat) : (atN s n).length = s.length := by simp [atN, digN_len]
/-- How many cells. -/
def cntN (s : List Nat) : Nat := (countS (iN s)).1.toNat
def plcN (s : List Nat) : List (List Nat) := if (countS (iN s)).2 = 0 then (List.range (cntN s)).map (atN s) else []
theorem prodS_N : ∀ (l : List Nat) (p : Nat), prodS (iN l) (p : Int) ≠ 0 → prodS (iN l) (p : Int) = ((p * prodN l : Nat) : Int)
  | [], p, _ => by simp [iN, prodS, prodN]
  | x :: xs, p, h => by
    simp only [iN, List.map_cons, prodS] at h ⊢
    split at h
    · exact absurd rfl h
    · rename_i h2
      rw [if_neg h2]
      have := prodS_N xs (p * x) (by simpa [iN] using h)
      simp only [iN, Int.natCast_mul] at this
      rw [this]
      simp only [prodN, Int.natCast_mul, Int.mul_assoc]
theorem prodN_rev : ∀ (l m : List Nat), prodN (l ++ m) = prodN l * prodN m
  | [], m => by simp [prodN]
  | x :: xs, m => by simp only [List.cons_append, prodN, prodN_rev xs m, Nat.mul_assoc]
theorem prodN_reverse : ∀ (l : List Nat), prodN l.reverse = prodN l
  | [] => rfl
  | x :: xs => by rw [List.reverse_cons, prodN_rev, prodN_reverse xs]; simp only [prodN]; rw [Nat.mul_one, Nat.mul_comm]
/-- No cell, or as many as the axes' lengths say. -/
theorem cntN_cases {s : List Nat} (h : (countS (iN s)).2 = 0) : s.length ≤ 6 ∧ ((0 ∈ s ∧ cntN s = 0) ∨ ((∀ x ∈ s, 1 ≤ x ∧ x ≤ 2048) ∧ cntN s = prodN s ∧ 1 ≤ cntN s ∧ cntN s ≤ 2048)) := by
  have hl := countS_le (iN s)
  obtain ⟨h1, h2⟩ := countS_cases (s := iN s) (c := (countS (iN s)).1) (Prod.ext rfl h)
  rw [iN_len] at h1
  refine ⟨h1, ?_⟩
  rcases h2 with ⟨h2, h3⟩ | ⟨h2, h3, h4⟩
  · refine .inl ⟨?_, by unfold cntN; rw [h3]; rfl⟩
    obtain ⟨x, hx, he⟩ := List.mem_map.1 h2
    have : x = 0 := by omega
    rw [← this]; exact hx
  · refine .inr ⟨fun x hx => ?_, ?_, ?_, ?_⟩
    · have := h2 (x : Int) (List.mem_map.2 ⟨x, hx, rfl⟩); omega
    · have := prodS_N s 1 (by rw [show ((1 : Nat) : Int) = 1 from rfl, h3]; exact h4)
      rw [show ((1 : Nat) : Int) = 1 from rfl, h3] at this
      unfold cntN
      rw [this]; omega
    · unfold cntN; omega
    · unfold cntN; omega
theorem ref07_next_sp (s p : List Nat) (hl : p.length = s.length) (hs : s.length ≤ 1000) (hp : ∀ x ∈ p, x ≤ 1000000) : Sp 129 [dI (iN s), dI (iN p)] [dI (iN (nxtN s.reverse p.reverse).reverse)] := by
  refine sound_ 2000 (ref07_next_tree _ _ _) ?_
  simp only [els_dI, iN_D, List.length_map]
  refine wp_dec (by simp only [bigN]; omega) ?_
  have key : ∀ (m : Nat) (sr pr st : List Nat) (z : Nat), sr.length = pr.length → pr.length < m → s = sr.reverse ++ st → (∀ x ∈ pr, x ≤ 1000000) → pr.length + z ≤ 1000 →
      Tw (ref07_next_l4 2000 m (dI (iN s)) ((pr.reverse ++ List.replicate z 0).map dP) ((pr.length : Int) - 1)) [D.sl (((nxtN sr pr).reverse ++ List.replicate z 0).map dP)] := by
    intro m
    induction m with
    | zero => intro sr pr st z _ h; omega
    | succ m ih =>
      intro sr pr st z h1 h2 h3 h4 h5
      match sr, pr, h1 with
      | [], [], _ =>
        simp only [ref07_next_l4_succ, List.length_nil]
        exact wp_ndec (by omega) (wp_ret (by simp [nxtN]))
      | x :: xs, y :: ys, h1 =>
        have hyl := h4 y (by simp)
        have hlen : xs.length = ys.length := by simpa using h1
        simp only [List.length_cons] at h2 h5
        have ei : (((y :: ys).length : Nat) : Int) - 1 = (ys.length : Int) := by simp only [List.length_cons]; omega
        have ed : (y :: ys).reverse ++ List.replicate z 0 = ys.reverse ++ y :: List.replicate z 0 := by rw [List.reverse_cons, List.append_assoc]; rfl
        have w1 : IntKind.wrap .i64 ((y : Int) + 1) = ((y + 1 : Nat) : Int) := by rw [wrap64 (by omega) (by omega)]; rfl
        have w2 : IntKind.wrap .i64 ((ys.length : Int) - 1) = (ys.length : Int) - 1 := wrap64 (by omega) (by omega)
        have g1 := at_app (A := ys.reverse) (x := y) (B := List.replicate z 0) (i := ys.length) (by rw [List.length_reverse])
        have g2 := set_app (A := ys.reverse) (x := y) (y := y + 1) (B := List.replicate z 0) (i := ys.length) (by rw [List.length_reverse])
        have g3 := at_app (A := ys.reverse) (x := y + 1) (B := List.replicate z 0) (i := ys.length) (by rw [List.length_reverse])
        have g4 := set_app (A := ys.reverse) (x := y + 1) (y := 0) (B := List.replicate z 0) (i := ys.length) (by rw [List.length_reverse])
        have gs : (s.map dP).getD ys.length D.nil = dP x := by
          rw [h3, List.reverse_cons, List.append_assoc]
          exact at_app (by rw [List.length_reverse]; exact hlen.symm)
        have ll : (ys.reverse ++ y :: List.replicate z 0).length = ys.length + 1 + z := by simp only [List.length_append, List.length_reverse, List.length_cons, List.length_replicate]; omega
        have ll2 : (ys.reverse ++ (y + 1) :: List.replicate z 0).length = ys.length + 1 + z := by simp only [List.length_append, List.length_reverse, List.length_cons, List.length_replicate]; omega
        have sl : s.length = xs.length + 1 + st.length := by rw [h3]; simp only [List.length_append, List.length_reverse, List.length_cons]
        have g2' : ((ys.reverse ++ y :: List.replicate z 0).map dP).set ys.length (D.int ((y + 1 : Nat) : Int)) = (ys.reverse ++ (y + 1) :: List.replicate z 0).map dP := g2
        have g4' : ((ys.reverse ++ (y + 1) :: List.replicate z 0).map dP).set ys.length (D.int 0) = (ys.reverse ++ 0 :: List.replicate z 0).map dP := g4
        have IH := ih xs ys (x :: st) (z + 1) hlen (by omega) (by rw [h3, List.reverse_cons, List.append_assoc]; rfl) (fun z hz => h4 z (List.mem_cons_of_mem _ hz)) (by omega)
        rw [ei, ed]
        simp only [ref07_next_l4_succ, Int.toNat_natCast, g1, dP_int, w1, w2, g2', g3, g4', els_dI, iN_D, gs, List.length_map, ll, ll2]
        refine wp_dec (by omega) (wp_dec (by omega) (wp_dec (by omega) (wp_dec (by omega) (wp_dec (by omega) (wp_dec (by omega) (wp_dec (by omega) (wp_dec (by omega) (wp_dec (by omega) (wp_decs (fun g => wp_ret ?_) (fun g => ?_))))))))))
        · rw [nxtN, if_pos (by omega), List.reverse_cons, List.append_assoc]; rfl
        · refine wp_dec (by omega) (wp_dec (by omega) ?_)
          rw [nxtN, if_neg (by omega), List.reverse_cons, List.append_assoc]
          exact IH
  have h := key 2000 s.reverse p.reverse [] 0 (by simp only [List.length_reverse]; exact hl.symm) (by rw [List.length_reverse]; omega) (by rw [List.reverse_reverse, List.append_nil]) (fun x hx => hp x (List.mem_reverse.1 hx)) (by rw [List.length_reverse]; omega)
  rw [List.reverse_reverse, List.replicate_zero, List.append_nil, List.append_nil, List.length_reverse] at h
  rw [show IntKind.wrap .i64 ((s.length : Int) - 1) = (p.length : Int) - 1 by rw [wrap64 (by omega) (by omega), hl]]
  rw [← dI_iN] at h
  exact h
theorem ref07_Places_sp (s : List Nat) : Sp 89 [dI (iN s)] [.sl ((plcN s).map (fun p => dI (iN p)))] := by
  refine sound_ 4096 (ref07_Places_tree _ _) (wp_call (ref07_Count_sp (iN s)) ?_)
  unfold plcN
  simp only [getD_c0, getD_c1, toInt_int, int_bne, els_dI, List.length_map, iN_len]
  refine wp_decs (fun h => wp_ret (by rw [if_neg h]; rfl)) (fun h => ?_)
  have h := Classical.not_not.1 h
  rw [if_pos h]
  obtain ⟨h6, hc⟩ := cntN_cases h
  have hcn : ((cntN s : Nat) : Int) = (countS (iN s)).1 := by have := countS_le (iN s); unfold cntN; omega
  rw [← hcn]
  refine wp_dec (by omega) (wp_dec (by omega) (wp_dec (by simp only [bigN]; omega) ?_))
  have hcl : cntN s ≤ 2048 := by omega
  have key := loop_up (P := Tryz.prog) (md := md) (cntN s) (fun m i (_ : Unit) => ref07_Places_l7 4096 m (dI (iN s)) ((cntN s : Nat) : Int) (((List.range i).map (atN s)).map (fun p => dI (iN p))) (dI (iN (atN s i))) (i : Int)) (fun _ _ => [.sl (((List.range (cntN s)).map (atN s)).map (fun p => dI (iN p)))]) (fun _ _ => True)
    (fun m t _ => by
      simp only [ref07_Places_l7_succ]
      exact wp_ndec (by omega) (wp_ret rfl))
    (fun m i t hi _ ih => by
      have ih := ih () trivial
      have hpos : ∀ x ∈ s, 1 ≤ x ∧ x ≤ 2048 := by
        rcases hc with ⟨_, h0⟩ | ⟨h1, _⟩
        · omega
        · exact h1
      have hd : ∀ x ∈ atN s i, x ≤ 1000000 := fun x hx => by
        obtain ⟨j, hj, rfl⟩ := List.mem_iff_getElem.1 (show x ∈ digN s.reverse i by simpa [atN] using hx)
        have hj2 : j < s.reverse.length := by rw [digN_len] at hj; exact hj
        have := digN_lt s.reverse i (fun y hy => (hpos y (by simpa using hy)).1) j _ _ (List.getElem?_eq_getElem hj) (List.getElem?_eq_getElem hj2)
        have := (hpos _ (List.mem_reverse.1 (List.getElem_mem hj2))).2
        omega
      have sp := ref07_next_sp s (atN s i) (atN_len s i) (by omega) hd
      rw [show (nxtN s.reverse (atN s i).reverse).reverse = atN s (i + 1) by
        unfold atN
        rw [List.reverse_reverse, nxt_dig _ _ (fun y hy => (hpos y (by simpa using hy)).1)]] at sp
      simp only [ref07_Places_l7_succ, List.length_map, List.length_range, List.length_cons, List.length_nil, wrap_succ (show i < 9223372036854775807 by omega)]
      refine wp_dec (by omega) (wp_dec (by simp only [bigN]; omega) (wp_call sp ?_))
      simp only [getD_c0]
      rw [List.range_succ, List.map_append, List.map_append] at ih
      exact ih)
    4096 0 () (by omega) (by omega) trivial
  have e0 : dI (iN (atN s 0)) = D.sl (List.replicate s.length (D.int 0)) := by
    rw [dI_iN]; unfold atN
    rw [digN_zero]
    simp
    exact .inr rfl
  rw [e0] at key
  simpa using key
/-- Where a place stands. -/
def fidN : List (List Nat) → List Nat → Nat → Int
  | [], _, _ => -1
  | p :: ps, at_, k => if p = at_ then (k : Int) else fidN ps at_ (k + 1)
theorem fid_at : ∀ (ps : List (List Nat)) (at_ : List Nat) (k i : Nat), ps[i]? = some at_ → (∀ j, j < i → ps[j]? ≠ some at_) → fidN ps at_ k = ((k + i : Nat) : Int)
  | [], at_, k, i, h, _ => by simp at h
  | p :: ps, at_, k, 0, h, _ => by simp at h; simp [fidN, h]
  | p :: ps, at_, k, i + 1, h, hn => by
    have h0 := hn 0 (by omega)
    simp at h0
    rw [fidN, if_neg h0, fid_at ps at_ (k + 1) i (by simpa using h) (fun j hj => by have := hn (j + 1) (by omega); simpa using this)]
    omega
theorem fid_plc {s : List Nat} (h : (countS (iN s)).2 = 0) {i : Nat} (hi : i < cntN s) : fidN (plcN s) (atN s i) 0 = (i : Int) := by
  obtain ⟨h6, hc⟩ := cntN_cases h
  have hc2 : cntN s = prodN s := by omega
  have e : plcN s = (List.range (cntN s)).map (atN s) := by unfold plcN; rw [if_pos h]
  have := fid_at (plcN s) (atN s i) 0 i (by rw [e, List.getElem?_map, List.getElem?_range hi]; rfl) (fun j hj hh => by
    rw [e, List.getElem?_map, List.getElem?_range (by omega)] at hh
    simp only [Option.map_some, Option.some.injEq] at hh
    have h2 : digN s.reverse j = digN s.reverse i := by
      unfold atN at hh
      exact List.reverse_inj.1 hh
    have := digN_inj (by rw [prodN_reverse]; omega) (by rw [prodN_reverse]; omega) h2
    omega)
  simpa using this
theorem ref07_Index_sp (s at_ : List Nat) (hl : at_.length ≤ 1000) : Sp 60 [dI (iN s), dI (iN at_)] [.int (fidN (plcN s) at_ 0)] := by
  refine sound_ 4096 (ref07_Index_tree _ _ _) (wp_call (ref07_Places_sp s) ?_)
  have hlen : (plcN s).length ≤ 2048 := by
    unfold plcN
    split
    · have := countS_le (iN s)
      rw [List.length_map, List.length_range]; unfold cntN; omega
    · simp
  have hpl : ∀ p ∈ plcN s, p.length ≤ 6 := by
    intro p hp
    unfold plcN at hp
    split at hp
    · rename_i h
      obtain ⟨i, _, rfl⟩ := List.mem_map.1 hp
      rw [atN_len]; exact (cntN_cases h).1
    · cases hp
  generalize plcN s = ps at *
  simp only [getD_c0]
  have key := loop_list (P := Tryz.prog) (md := md) ps (fun m k (_ : Unit) => ref07_Index_l3 4096 m (dI (iN at_)) (.sl (ps.map (fun p => dI (iN p)))) (k : Int)) (fun rest _ => [.int (fidN rest at_ (ps.length - rest.length))]) (fun _ _ => True)
    (fun m k t hk _ => by
      simp only [ref07_Index_l3_succ, els_sl, List.length_map]
      exact wp_ndec (by omega) (wp_ret rfl))
    (fun m k t p rest hd _ ih => by
      obtain ⟨h1, h2, h3⟩ := drop_cons hd
      have hle := congrArg List.length hd
      rw [List.length_drop, List.length_cons] at hle
      have hp := hpl p (List.mem_of_getElem? h2)
      simp only [ref07_Index_l3_succ, els_sl, List.length_map, Int.toNat_natCast, getD_map h2, wrap_succ (show k < 9223372036854775807 by omega)]
      refine wp_dec (by omega) (wp_dec (by omega) (wp_dec (by omega) (wp_call (ref07_Ints_sp (iN p) (iN at_) (by rw [iN_len]; omega)) ?_)))
      simp only [getD_c0, toBool_bool, fidN]
      have hk : ps.length - (p :: rest).length = k := by rw [List.length_cons]; omega
      have hk2 : ps.length - rest.length = k + 1 := by omega
      rw [hk]
      refine wp_decs (fun g => wp_ret (by rw [if_pos (iN_inj g)])) (fun g => ?_)
      rw [if_neg (fun hh => g (by rw [hh]))]
      have := ih () trivial
      rw [hk2] at this
      exact this)
    4096 0 () (by omega) (by omega) trivial
  simpa using key
end Go.Proofs.YtbgcadcpeabpgaaGreat

set_option maxRecDepth 100000
namespace Go
open Go.RowKit
theorem run_copy_wide (P : Program) (w : World) (dT sT ty elem : TypeId) (g o dLen dCap : Nat) (a : Addr) (sLen sCap sz : Nat) (cur : Array Value) (t : TypeId) (cs : List Value)
    (hu : P.underlying dT = some (.slice elem)) (hs : (P.info? elem).map (·.size) = some sz)
    (hg : w.heap[g]? = some (.cells cur t (0, 0))) (hn : cs.length = Nat.min sLen dLen * sz)
    (hsrc : ∀ j v, cs[j]? = some v → w.cell? (a.add j) = some v) (hfit : o + cs.length ≤ cur.size) (h1 : ∀ v ∈ cs, v.oneCell' = true) :
    (Builtin.copy_ #[dT, sT] ty #[.slice (some ⟨g, o, none⟩) dLen dCap, .slice (some a) sLen sCap]).run P w =
      .ok (goInt (Nat.min sLen dLen : Nat)) (w.setRow g (cur.toList.take o ++ cs ++ cur.toList.drop (o + cs.length)).toArray) := by
  have hl := run_loadCells_list (P := P) w a cs hsrc
  have hst := run_storeCells_at P g o t cs 0 cur w hg (by simpa using hfit) h1
  cases hq : P.info? elem with
  | none => simp [hq] at hs
  | some i =>
    have hi : i.size = sz := by simpa [hq] using hs
    rw [hn] at hl
    simp [Builtin.copy_, run_underlying hu, Builtin.lenOf, Builtin.firstCells, sizeOf, typeInfo, hq, hi, hl, hst]
theorem run_copy_none_wide (P : Program) (w : World) (dT sT ty elem : TypeId) (d a : Option Addr) (dLen dCap sLen sCap sz : Nat) (hu : P.underlying dT = some (.slice elem)) (hs : (P.info? elem).map (·.size) = some sz) (hn : Nat.min sLen dLen = 0) :
    (Builtin.copy_ #[dT, sT] ty #[.slice d dLen dCap, .slice a sLen sCap]).run P w = .ok (goInt 0) w := by
  cases hq : P.info? elem with
  | none => simp [hq] at hs
  | some i =>
    have hl : ∀ (x : Addr), (loadCells x 0).run P w = .ok #[] w := fun x => by simpa using run_loadCells_list (P := P) w x [] (by simp)
    cases d <;> cases a <;> simp [Builtin.copy_, run_underlying hu, Builtin.lenOf, Builtin.firstCells, sizeOf, typeInfo, hq, hn, storeCells, hl]
theorem wpList_copy_wide {P : Program} {w : World} {ops : Array Oper} {rest : List Oper} {o : Oper} {a : Act} {Q : Exit → Act → World → Prop} (hgd : o.guard = none) (d s : Operand) (dT sT : TypeId)
    (ho : o.op = .call { callee := .builtin .copy, args := #[d, s], argTypes := #[dT, sT] }) (elem : TypeId) (sz : Nat) (hz : 0 < sz) (hu : P.underlying dT = some (.slice elem)) (hsz : (P.info? elem).map (·.size) = some sz)
    (dp sp : Option Addr) (dLen dCap sLen sCap : Nat) (hd : a.eval d = .slice dp dLen dCap) (hs : a.eval s = .slice sp sLen sCap)
    (g off : Nat) (cur : List Value) (t : TypeId) (hg : w.heap[g]? = some (.cells cur.toArray t (0, 0))) (cs : List Value) (hn : cs.length = Nat.min sLen dLen * sz)
    (hpos : 0 < cs.length → dp = some ⟨g, off, none⟩ ∧ ∃ ad, sp = some ad ∧ ∀ j v, cs[j]? = some v → w.cell? (ad.add j) = some v)
    (hfit : off + cs.length ≤ cur.length) (h1 : ∀ v ∈ cs, v.oneCell' = true) (B : Nat) (w0 : World) (hb : Below B w0 w) (hBg : B ≤ g)
    (h : ∀ w', Hid (w'.heap[g]? = some (.cells (splice cur off cs).toArray t (0, 0))) → Below B w0 w' → wpList P ops Q rest (a.put o.dst (goInt (Nat.min sLen dLen : Nat))) w') :
    wpList P ops Q (o :: rest) a w := by
  refine wpList_plain hgd fun K hK => ?_
  by_cases h0 : cs.length = 0
  · have hm : Nat.min sLen dLen = 0 := by
      rcases Nat.eq_zero_or_pos (Nat.min sLen dLen) with h | h
      · exact h
      · have := Nat.mul_pos h hz; omega
    obtain rfl : cs = [] := List.eq_nil_of_length_eq_zero h0
    have hrun := run_copy_none_wide P w dT sT o.type elem dp sp dLen dCap sLen sCap sz hu hsz hm
    unfold Oper.wp
    simp [execOp, ho, resolve, invoke, builtin, hd, hs, hrun, Result.andThen]
    refine hK _ _ ?_
    have := h w (show _ = _ by simpa [splice] using hg) hb
    rw [hm] at this
    exact this
  · obtain ⟨rfl, ad, rfl, hsrc⟩ := hpos (by omega)
    have hrun := run_copy_wide P w dT sT o.type elem g off dLen dCap ad sLen sCap sz cur.toArray t cs hu hsz hg hn hsrc (by simpa using hfit) h1
    unfold Oper.wp
    simp [execOp, ho, resolve, invoke, builtin, hd, hs, hrun, Result.andThen]
    refine hK _ _ ?_
    exact h _ (show _ = _ by simpa [splice] using setRow_heap w g _ _ t _ hg) (below_setRow hb hBg _)
theorem step_copy_wide {P : Program} {ops : Array Oper} {o : Oper} {a : Act} {w : World} {K : Act → World → Prop} {Q : Exit → Act → World → Prop} {E : Prop} (hgd : o.guard = none) (d s : Operand) (dT sT : TypeId)
    (ho : o.op = .call { callee := .builtin .copy, args := #[d, s], argTypes := #[dT, sT] }) (elem : TypeId) (sz : Nat) (hz : 0 < sz) (hu : P.underlying dT = some (.slice elem)) (hsz : (P.info? elem).map (·.size) = some sz)
    (dp sp : Option Addr) (dLen dCap sLen sCap : Nat) (hd : a.eval d = .slice dp dLen dCap) (hs : a.eval s = .slice sp sLen sCap)
    (g off : Nat) (cur : List Value) (t : TypeId) (hg : w.heap[g]? = some (.cells cur.toArray t (0, 0))) (cs : List Value) (hn : cs.length = Nat.min sLen dLen * sz)
    (hpos : 0 < cs.length → dp = some ⟨g, off, none⟩ ∧ ∃ ad, sp = some ad ∧ ∀ j v, cs[j]? = some v → w.cell? (ad.add j) = some v)
    (hfit : off + cs.length ≤ cur.length) (h1 : ∀ v ∈ cs, v.oneCell' = true) (B : Nat) (w0 : World) (hb : RowKit.Below B w0 w) (hBg : B ≤ g)
    (h : ∀ w', RowKit.Hid (w'.heap[g]? = some (.cells (splice cur off cs).toArray t (0, 0))) → RowKit.Below B w0 w' → K (a.put o.dst (goInt (Nat.min sLen dLen : Nat))) w') :
    if Region.wanted o (yielded ops a.tmps) = true then Oper.wp P o a w K Q else E := by
  have hw : Region.wanted o (yielded ops a.tmps) = true := by simp [Region.wanted, hgd]
  rw [if_pos hw]
  by_cases h0 : cs.length = 0
  · have hm : Nat.min sLen dLen = 0 := by
      rcases Nat.eq_zero_or_pos (Nat.min sLen dLen) with h | h
      · exact h
      · have := Nat.mul_pos h hz; omega
    obtain rfl : cs = [] := List.eq_nil_of_length_eq_zero h0
    have hrun := run_copy_none_wide P w dT sT o.type elem dp sp dLen dCap sLen sCap sz hu hsz hm
    unfold Oper.wp
    simp [execOp, ho, resolve, invoke, builtin, hd, hs, hrun, Result.andThen]
    have := h w (show _ = _ by simpa [splice] using hg) hb
    rw [hm] at this
    exact this
  · obtain ⟨rfl, ad, rfl, hsrc⟩ := hpos (by omega)
    have hrun := run_copy_wide P w dT sT o.type elem g off dLen dCap ad sLen sCap sz cur.toArray t cs hu hsz hg hn hsrc (by simpa using hfit) h1
    unfold Oper.wp
    simp [execOp, ho, resolve, invoke, builtin, hd, hs, hrun, Result.andThen]
    exact h _ (show _ = _ by simpa [splice] using setRow_heap w g _ _ t _ hg) (below_setRow hb hBg _)
end Go
namespace Go.Proofs.YtbgcadcpeabpgaaGreat
open Go.RowKit
/-- So many times the same cells. -/
def reps (k : Nat) (xs : List Value) : List Value := (List.replicate k xs).flatten
theorem reps_len (k : Nat) (xs : List Value) : (reps k xs).length = k * xs.length := by unfold reps; rw [List.length_flatten]; simp
theorem reps_add (k m : Nat) (xs : List Value) : reps k xs ++ reps m xs = reps (k + m) xs := by
  unfold reps; rw [← List.flatten_append, List.replicate_append_replicate]
theorem reps_one (xs : List Value) : reps 1 xs = xs := by simp [reps]
theorem reps_succ (k : Nat) (xs : List Value) : reps (k + 1) xs = xs ++ reps k xs := by unfold reps; rw [List.replicate_succ]; rfl
theorem reps_mem {k : Nat} {xs : List Value} {v : Value} (h : v ∈ reps k xs) : v ∈ xs := by
  unfold reps at h
  obtain ⟨l, hl, hv⟩ := List.mem_flatten.1 h
  rwa [List.eq_of_mem_replicate hl] at hv
theorem reps_at {xs : List Value} : ∀ {k i j : Nat}, i < k → j < xs.length → (reps k xs)[i * xs.length + j]? = xs[j]?
  | 0, i, j, h, _ => by omega
  | k + 1, 0, j, _, hj => by rw [reps_succ, Nat.zero_mul, Nat.zero_add, List.getElem?_append_left hj]
  | k + 1, i + 1, j, h, hj => by
    rw [reps_succ, List.getElem?_append_right (by rw [Nat.succ_mul]; omega), show (i + 1) * xs.length + j - xs.length = i * xs.length + j by rw [Nat.succ_mul]; omega]
    exact reps_at (by omega) hj
theorem splice_reps {xs cur : List Value} {k m : Nat} (h : cur.take (k * xs.length) = reps k xs) (hk : (k + m) * xs.length ≤ cur.length) : (splice cur (k * xs.length) (reps m xs)).take ((k + m) * xs.length) = reps (k + m) xs ∧ (splice cur (k * xs.length) (reps m xs)).length = cur.length := by
  have e : (k + m) * xs.length = k * xs.length + m * xs.length := Nat.add_mul _ _ _
  refine ⟨?_, length_splice _ _ _ (by rw [reps_len]; omega)⟩
  unfold splice
  rw [h, ← List.append_assoc, reps_add, List.take_append_of_le_length (by rw [reps_len]; omega), List.take_of_length_le (by rw [reps_len]; omega)]
/-- So many are there. -/
def QInv (w2 : World) (G n : Nat) (xs : List Value) (iv : Value) (wr : World) : Prop := ∃ (k : Nat) (cur : List Value), iv = .int .i64 k ∧ k ≤ n ∧ (0 < n → 0 < k) ∧ cur.length = n * xs.length ∧ cur.take (k * xs.length) = reps k xs ∧ wr.heap[G]? = some (.cells cur.toArray 68 (0, 0)) ∧ Below G w2 wr
theorem QInv.start {w2 w3 : World} {G n : Nat} {xs X : List Value} (hX : X.length = n * xs.length) (h : w3.heap[G]? = some (.cells (splice X 0 (reps (Nat.min 1 n) xs)).toArray 68 (0, 0))) (hb : Below G w2 w3) : QInv w2 G n xs (.int .i64 ((Nat.min 1 n : Nat) : Int)) w3 := by
  have h2 : Nat.min 1 n ≤ n := Nat.min_le_right 1 n
  have h3 : Nat.min 1 n = if 1 ≤ n then 1 else n := Nat.min_def
  have hm := Nat.mul_le_mul_right xs.length h2
  obtain ⟨s1, s2⟩ := splice_reps (xs := xs) (cur := X) (k := 0) (m := Nat.min 1 n) (by rw [Nat.zero_mul]; rfl) (by rw [Nat.zero_add]; omega)
  rw [Nat.zero_add, Nat.zero_mul] at s1
  rw [Nat.zero_mul] at s2
  exact ⟨Nat.min 1 n, _, rfl, h2, fun h => by rw [h3]; split <;> omega, by omega, s1, h, hb⟩
theorem QInv.next {w2 w4 : World} {G n k : Nat} {xs cur : List Value} (hk : k < n) (hp : 0 < k) (hl : cur.length = n * xs.length) (ht : cur.take (k * xs.length) = reps k xs) (h : w4.heap[G]? = some (.cells (splice cur (k * xs.length) (reps (Nat.min k (n - k)) xs)).toArray 68 (0, 0))) (hb : Below G w2 w4) : QInv w2 G n xs (.int .i64 ((k + Nat.min k (n - k) : Nat) : Int)) w4 ∧ n - (k + Nat.min k (n - k)) < n - k := by
  have h3 : Nat.min k (n - k) = if k ≤ n - k then k else n - k := Nat.min_def
  have h4 : 0 < Nat.min k (n - k) ∧ k + Nat.min k (n - k) ≤ n := by rw [h3]; split <;> omega
  have hm := Nat.mul_le_mul_right xs.length h4.2
  obtain ⟨s1, s2⟩ := splice_reps (xs := xs) (cur := cur) (k := k) (m := Nat.min k (n - k)) ht (by omega)
  exact ⟨⟨_, _, rfl, h4.2, fun _ => by omega, by omega, s1, h, hb⟩, by omega⟩
/-- A row of its own is told, of so many. -/
def QRow (n : Nat) (xs : List Value) (w : World) (e : Ending) (w' : World) : Prop := ∃ G, e = .returned (.slice (some ⟨G, 0, none⟩) n n) ∧ w.heap.size ≤ G ∧ w'.heap[G]? = some (.cells (reps n xs).toArray 68 (0, 0)) ∧ Ext w w'
theorem elt_cell_ : Elt Tryz.prog 24 68 7 104 :=
  ⟨Tryz.underlying24, by
    obtain ⟨i, hi, h1, h2, h3⟩ := info_parts (P := Tryz.prog) (e := 68) (z := .agg #[.int .u64 0, .int .i64 0, .bool false, .slice none 0 0, .slice none 0 0, .int .i64 0, .slice none 0 0]) (size := 7) (bytes := 104) (by kernel_rfl)
    exact ⟨i, _, hi, h1, h2, h3, rfl⟩, by decide⟩
theorem src_cell {w w2 : World} {ad : Addr} {xs : List Value} (h : ∀ j v, xs[j]? = some v → w.cell? (ad.add j) = some v) (hx : Ext w w2) (m : Nat) (hm : m ≤ 1) : 0 < (reps m xs).length → ∃ ad', some ad = some ad' ∧ ∀ j v, (reps m xs)[j]? = some v → w2.cell? (ad'.add j) = some v := by
  intro hp
  have : m = 1 := by
    rcases Nat.lt_or_ge 0 m with h | h
    · omega
    · have : m = 0 := by omega
      subst this; simp [reps] at hp
  subst this
  rw [reps_one]
  refine ⟨ad, rfl, fun j v hv => ?_⟩
  have h0 := h j v hv
  have hb : ad.block < w.heap.size := by
    rcases Nat.lt_or_ge ad.block w.heap.size with g | g
    · exact g
    · have hn : w.heap[ad.block]? = none := Array.getElem?_eq_none g
      have e : (ad.add j).block = ad.block := by unfold Addr.add; split <;> rfl
      unfold World.cell? at h0
      rw [e, hn] at h0
      cases h0
  have e : (ad.add j).block = ad.block := by unfold Addr.add; split <;> rfl
  rw [← h0]
  exact World.cell?_of_block (by rw [e]; exact hx.block _ hb)
theorem src_reps {w : World} {G k : Nat} {xs cur : List Value} {T : TypeId} (h : w.heap[G]? = some (.cells cur.toArray T (0, 0))) (ht : cur.take (k * xs.length) = reps k xs) (m : Nat) (hm : m ≤ k) : ∀ j v, (reps m xs)[j]? = some v → w.cell? ((⟨G, 0, none⟩ : Addr).add j) = some v := by
  intro j v hv
  have hj := (List.getElem?_eq_some_iff.1 hv).1
  rw [reps_len] at hj
  have hmk := Nat.mul_le_mul_right xs.length hm
  have e : reps k xs = reps m xs ++ reps (k - m) xs := by rw [reps_add]; congr 1; omega
  have hcj : cur[j]? = some v := by
    have h1 : (cur.take (k * xs.length))[j]? = some v := by rw [ht, e, List.getElem?_append_left (by rw [reps_len]; exact hj)]; exact hv
    rw [List.getElem?_take, if_pos (by omega)] at h1
    exact h1
  have ea : (⟨G, 0, none⟩ : Addr).add j = ⟨G, j, none⟩ := by unfold Addr.add; split <;> simp_all
  rw [ea]
  unfold World.cell?
  simp [h, hcj]
set_option maxHeartbeats 2000000 in
theorem repeatC_any (ad : Addr) (c n : Nat) (xs : List Value) (w : World) (hn : n ≤ 1000000) (hx7 : xs.length = 7) (h1 : ∀ v ∈ xs, v.oneCell' = true) (hs : ∀ j v, xs[j]? = some v → w.cell? (ad.add j) = some v) : Calls Tryz.prog 87 #[.slice (some ad) 1 c, .int .i64 n] w (QRow n xs w) := by
  have HS := Lib.hid hs
  have HO := Lib.hid h1
  have H7 := Lib.hid hx7
  clear hs h1 hx7
  have hu : Tryz.prog.underlying 24 = some (.slice 68) := by kernel_rfl
  have hz : (Tryz.prog.info? 68).map (·.size) = some 7 := by kernel_rfl
  have HU := Lib.hid hu
  have HZ := Lib.hid hz
  clear hu hz
  go_enter Tryz.func87, Tryz.ntmps87
  go_wp2_with (first
    | (go_at_call 83; refine (mul_calls n (by omega) _).mono ?_; rintro e w1 ⟨rfl, hx1⟩)
    | (at_make; refine wpList_mkrow elt_cell_ rfl _ _ rfl n rfl rfl (by omega) (by omega) (by omega) (by unfold maxLen; omega) ?_; intro G w2 X hG HG hX hx2; have HX := Lib.hid hX; clear hX)
    | (refine wpList_copy_wide rfl (.tmp 31) (.tmp 32) 24 24 rfl 68 7 (by decide) HU.out HZ.out (some ⟨G, 0, none⟩) (some ad) n n 1 c (by simp [Act.eval, Act.put]) (by simp [Act.eval, Act.put]) G 0 X 68 HG.out (reps (Nat.min 1 n) xs) (by rw [reps_len, H7.out]) (fun hp => ⟨rfl, src_cell HS.out (hx1.trans hx2) _ (Nat.min_le_left _ _) hp⟩) (by have h1 := HX.out; have h2 : Nat.min 1 n ≤ n := Nat.min_le_right 1 n; rw [reps_len, H7.out]; omega) (fun v hv => HO.out v (reps_mem hv)) G w2 (Below.refl _ _) (Nat.le_refl _) ?_; intro w3 HG3 hb3))
  go_loopw [8] (QInv w2 G n xs) (fun iv _ => n - (intOf iv).toNat)
  case atStart => exact QInv.start (by rw [H7.out]; exact HX.out) HG3.out hb3
  case round =>
    obtain ⟨k, cur, rfl, hk, hp, hl, ht, hh, hb⟩ := hrel
    rw [H7.out] at hl ht
    have HT := Lib.hid ht
    have HH := Lib.hid hh
    have HB := Lib.hid hb
    have HL := Lib.hid hl
    clear ht hh hb hl
    by_cases hlt : k < n
    · have hpk : 0 < k := hp (by omega)
      clear hp
      have HSR := Lib.hid (src_reps (w := wr.drew) (xs := xs) HH.out (by rw [H7.out]; exact HT.out) (Nat.min k (n - k)) (Nat.min_le_left _ _))
      have HNE := Lib.hid (show (if n = k then some (⟨G, 0, none⟩ : Addr) else some ⟨G, k * 7, none⟩) = some ⟨G, k * 7, none⟩ from if_neg (by omega))
      go_wp2_with fail
      go_region_law (refine step_copy_wide rfl (.tmp 41) (.tmp 44) 24 24 rfl 68 7 (by decide) HU.out HZ.out (if n = k then some ⟨G, 0, none⟩ else some ⟨G, k * 7, none⟩) (some ⟨G, 0, none⟩) (n - k) (n - k) k n (by simp [Act.eval, Act.put]) (by simp [Act.eval, Act.put]) G (k * 7) cur 68 HH.out (reps (Nat.min k (n - k)) xs) (by rw [reps_len, H7.out]) (fun _ => ⟨HNE.out, _, rfl, HSR.out⟩) (by have h1 := HL.out; have h2 : Nat.min k (n - k) ≤ n - k := Nat.min_le_right k (n - k); rw [reps_len, H7.out]; omega) (fun v hv => HO.out v (reps_mem hv)) G w2 HB.out.drew (Nat.le_refl _) ?_; intro w4 HG4 hb4)
      go_wp2
      go_roundw
      case rel =>
        rw [rep_wrap hlt (by omega)]
        exact (QInv.next (xs := xs) (cur := cur) hlt hpk (by rw [H7.out]; exact HL.out) (by rw [H7.out]; exact HT.out) (by rw [H7.out]; exact HG4.out) hb4).1
      case measure =>
        rw [rep_wrap hlt (by omega)]
        exact (QInv.next (xs := xs) (cur := cur) hlt hpk (by rw [H7.out]; exact HL.out) (by rw [H7.out]; exact HT.out) (by rw [H7.out]; exact HG4.out) hb4).2
    · have hkn : k = n := by omega
      subst hkn
      go_wp2_with fail
      go_ret
      have hh := HH.out
      have hcur : cur = reps k xs := by
        have h1 := HT.out
        rw [List.take_of_length_le (by have := HL.out; omega)] at h1
        exact h1
      rw [hcur] at hh
      exact ⟨G, rfl, Nat.le_trans hx1.size hG, hh, Below.trans (hx1.trans hx2) (Below.mono HB.out (Nat.le_trans hx1.size hG))⟩
/-- What is said of slices.Repeat: of one cell. -/
theorem repeatC_sp (n : Nat) (x : Cell) (hn : n ≤ 1000000) : Sp 87 [.sl [dC x], .int (n : Int)] [.sl (List.replicate n (dC x))] := by
  refine spec_of wfP Tryz.func87 (by kernel_rfl) (by kernel_rfl) (by kernel_rfl) (fun w M vs hM _ hlv hrd => ?_)
  have hps : Tryz.f87.params.toList = [24, 3] := by kernel_rfl
  have hu : Tryz.prog.underlying 24 = some (.slice 68) := by kernel_rfl
  have hc7 : Tryz.prog.cellsOf 68 = 7 := by kernel_rfl
  have hlen : vs.length = 2 := by rw [hlv]; rfl
  match vs, hlen with
  | [va, vb], _ =>
    rw [hps] at hrd
    have ra := hrd 0 _ _ _ rfl rfl rfl
    obtain ⟨rfl, _⟩ := rd_i64 (hrd 1 _ _ _ rfl rfl rfl)
    have hva : ∃ A c, va = .slice A 1 c := by
      obtain ⟨h1, h2, h3⟩ := ra
      have ha : isAggV va = false := by rw [h3]; kernel_rfl
      cases h1 with
      | @sl _ e _ _ A cap bk off ht hc h4 h5 hA hh =>
        rw [cells_of ha] at hc
        exact ⟨A, cap, by simpa using hc⟩
    obtain ⟨A, c, rfl⟩ := hva
    obtain ⟨_, _, _, bk, off, hA, hel⟩ := sl_parts ra.rd hu
    obtain ⟨rfl, hMb, hbs⟩ := hA (by simp)
    obtain ⟨news, hnl, hsrc, hone, hnr⟩ := els_cells wfP (by rw [hc7]; decide) hel
    have hn7 : news.length = 7 := by rw [hnl, hc7]; rfl
    have hx0 := hnr 0 (dC x) rfl
    refine (repeatC_any _ c n news w hn hn7 hone hsrc).mono ?_
    rintro e w' ⟨G, rfl, hG, hv, hx⟩
    refine ⟨[_], rfl, rfl, fun i t u ht hu' => ?_, hx⟩
    rw [show Tryz.f87.resultTypes.toList = [24] by kernel_rfl] at ht
    match i with
    | 0 =>
      cases ht; cases hu'
      have hGs : ¬ M G := fun hm => by have := hM G hm; omega
      have hGl : G < w'.heap.size := (Array.getElem?_eq_some_iff.1 hv).1
      refine ⟨.sl (e := 68) (A := some ⟨G, 0, none⟩) (cap := n) (bk := G) (off := 0) hu (by simp; rfl) (by simp) (by unfold maxLen; omega) (fun _ => ⟨rfl, hGs, hGl⟩) (fun i y hy => ?_), by kernel_rfl, by kernel_rfl⟩
      have hi : i < n := by have := (List.getElem?_eq_some_iff.1 hy).1; simpa using this
      have hy' : y = dC x := by
        have := List.mem_of_getElem? hy
        exact List.eq_of_mem_replicate this
      subst hy'
      have h1 := hx0.mono (w' := w') (M' := M) hx.size (fun b _ hb => hx.block b hb) (fun b hb _ => hb)
      refine h1.congr (fun j hj => ?_) (by show 0 < Tryz.prog.cellsOf 68; rw [hc7]; decide)
      have hj7 : j < 7 := by
        have : j < Tryz.prog.cellsOf 68 := hj
        rwa [hc7] at this
      show w'.cell? ⟨G, 0 + (i * Tryz.prog.cellsOf 68 + j), none⟩ = news[0 * Tryz.prog.cellsOf 68 + j]?
      rw [hc7, Nat.zero_mul, Nat.zero_add, Nat.zero_add, ← reps_at (xs := news) hi (by omega), hn7]
      unfold World.cell?
      simp [hv]
    | i + 1 => simp at ht
end Go.Proofs.YtbgcadcpeabpgaaGreat

set_option maxRecDepth 100000
namespace Go.Proofs.YtbgcadcpeabpgaaGreat
/-! scrim/pick.Replicate -/
def pick_Replicate_orc : List (Nat × Orc) := [(18, ⟨[(3, none), (4, none), (6, none), (7, none), (9, some 23), (10, none), (11, none), (13, none), (64, some 23), (65, none), (66, none)], [(3, true), (4, true), (6, false), (7, false)], [(.slot 13, 1180, 3)]⟩), (25, ⟨[(3, none), (4, none), (6, none), (7, none), (9, some 23), (10, none), (11, none), (13, none), (14, none), (64, some 23), (65, none), (66, none), (79, none), (80, none)], [(3, true), (4, true), (6, false), (7, false)], [(.slot 13, 1250, 3)]⟩)]
def pick_Replicate_ps : List Nat := [26, 26, 4]
def pick_Replicate_rs : List ResultVar := [.cell 6 26, .cell 7 29]
def pick_Replicate_ts : List Nat := [26, 29]
noncomputable def pick_Replicate_l25 (n m18 m25 : Nat) (s9 : D) (axis10 : Int) (long11 : Int) (from13 : List D) (i14 : Int) (t64 : D) (t65 : Int) (t66 : Int) (t79 : Int) (t80 : Int) (nn3 : D) (a4 : D) (r6_0 : Int) (e7 : Int) : Tree :=
  evLoop Tryz.prog md (ev Tryz.prog md n pick_Replicate_orc (cAt (bodyOf Tryz.prog 12) [1, 1, 1, 1, 1, 1, 1, 1, 1, 1, 1, 1, 0, 1, 0, 0, 1, 1, 0, 0, 1, 1, 1, 1, 0, 0])) (orcAt pick_Replicate_orc 25) m25 ⟨[.undef, .undef, .undef, .ptr 3 [], .ptr 4 [], .undef, .ptr 6 [], .ptr 7 [], .undef, .d 23 s9, .i .i64 axis10, .i .i64 long11, .undef, .row 1250, .i .i64 i14, .undef, .undef, .undef, .undef, .undef, .undef, .undef, .undef, .undef, .undef, .undef, .undef, .undef, .undef, .undef, .undef, .undef, .undef, .undef, .undef, .undef, .undef, .undef, .undef, .undef, .undef, .undef, .undef, .undef, .undef, .undef, .undef, .undef, .undef, .undef, .undef, .undef, .undef, .undef, .undef, .undef, .undef, .undef, .undef, .undef, .undef, .undef, .undef, .undef, .d 23 t64, .i .i64 t65, .i .i64 t66, .undef, .undef, .undef, .undef, .undef, .undef, .undef, .undef, .undef, .undef, .undef, .undef, .i .i64 t79, .i .i64 t80, .undef, .undef, .undef, .undef, .undef, .undef, .undef, .undef, .undef, .undef, .undef, .undef, .undef, .undef, .undef], [(3, .var 26 (.d 26 nn3) true), (4, .var 26 (.d 26 a4) true), (6, .var 26 (.agg 26 [.i .u64 r6_0, .mt, .mt]) true), (7, .var 29 (.i .i64 e7) true), (1250, .row 3 from13 true)], [3, 4, 6, 7, 1250], [(39, [.ptr 6 [], .ptr 7 []])], []⟩
   (blockK 2 (blockK 1 (seqK (joinE Tryz.prog md (joinAt pick_Replicate_orc (cAt (bodyOf Tryz.prog 12) [1, 1, 1, 1, 1, 1, 1, 1, 1, 1, 1, 1, 0, 1, 0, 0, 1, 1, 1])) (ev Tryz.prog md n pick_Replicate_orc (cAt (bodyOf Tryz.prog 12) [1, 1, 1, 1, 1, 1, 1, 1, 1, 1, 1, 1, 0, 1, 0, 0, 1, 1, 1]))) (loopK Tryz.prog md (orcAt pick_Replicate_orc 18) (fun s1 => evLoop Tryz.prog md (ev Tryz.prog md n pick_Replicate_orc (cAt (bodyOf Tryz.prog 12) [1, 1, 1, 1, 1, 1, 1, 1, 1, 1, 1, 1, 0, 1, 0, 0])) (orcAt pick_Replicate_orc 18) m18 s1 (blockK 0 (seqK (joinE Tryz.prog md (joinAt pick_Replicate_orc (cAt (bodyOf Tryz.prog 12) [1, 1, 1, 1, 1, 1, 1, 1, 1, 1, 1, 1, 1])) (ev Tryz.prog md n pick_Replicate_orc (cAt (bodyOf Tryz.prog 12) [1, 1, 1, 1, 1, 1, 1, 1, 1, 1, 1, 1, 1]))) (retK Tryz.prog md (md 12) pick_Replicate_ps pick_Replicate_rs pick_Replicate_ts)))) (blockK 0 (seqK (joinE Tryz.prog md (joinAt pick_Replicate_orc (cAt (bodyOf Tryz.prog 12) [1, 1, 1, 1, 1, 1, 1, 1, 1, 1, 1, 1, 1])) (ev Tryz.prog md n pick_Replicate_orc (cAt (bodyOf Tryz.prog 12) [1, 1, 1, 1, 1, 1, 1, 1, 1, 1, 1, 1, 1]))) (retK Tryz.prog md (md 12) pick_Replicate_ps pick_Replicate_rs pick_Replicate_ts)))))))
noncomputable def pick_Replicate_l18 (n m18 : Nat) (s9 : D) (axis10 : Int) (long11 : Int) (from13 : List D) (t64 : D) (t65 : Int) (t66 : Int) (nn3 : D) (a4 : D) (r6_0 : Int) (e7 : Int) : Tree :=
  evLoop Tryz.prog md (ev Tryz.prog md n pick_Replicate_orc (cAt (bodyOf Tryz.prog 12) [1, 1, 1, 1, 1, 1, 1, 1, 1, 1, 1, 1, 0, 1, 0, 0])) (orcAt pick_Replicate_orc 18) m18 ⟨[.undef, .undef, .undef, .ptr 3 [], .ptr 4 [], .undef, .ptr 6 [], .ptr 7 [], .undef, .d 23 s9, .i .i64 axis10, .i .i64 long11, .undef, .row 1180, .undef, .undef, .undef, .undef, .undef, .undef, .undef, .undef, .undef, .undef, .undef, .undef, .undef, .undef, .undef, .undef, .undef, .undef, .undef, .undef, .undef, .undef, .undef, .undef, .undef, .undef, .undef, .undef, .undef, .undef, .undef, .undef, .undef, .undef, .undef, .undef, .undef, .undef, .undef, .undef, .undef, .undef, .undef, .undef, .undef, .undef, .undef, .undef, .undef, .undef, .d 23 t64, .i .i64 t65, .i .i64 t66, .undef, .undef, .undef, .undef, .undef, .undef, .undef, .undef, .undef, .undef, .undef, .undef, .undef, .undef, .undef, .undef, .undef, .undef, .undef, .undef, .undef, .undef, .undef, .undef, .undef, .undef, .undef, .undef, .undef], [(3, .var 26 (.d 26 nn3) true), (4, .var 26 (.d 26 a4) true), (6, .var 26 (.agg 26 [.i .u64 r6_0, .mt, .mt]) true), (7, .var 29 (.i .i64 e7) true), (1180, .row 3 from13 true)], [3, 4, 6, 7, 1180], [(39, [.ptr 6 [], .ptr 7 []])], []⟩
   (blockK 0 (seqK (joinE Tryz.prog md (joinAt pick_Replicate_orc (cAt (bodyOf Tryz.prog 12) [1, 1, 1, 1, 1, 1, 1, 1, 1, 1, 1, 1, 1])) (ev Tryz.prog md n pick_Replicate_orc (cAt (bodyOf Tryz.prog 12) [1, 1, 1, 1, 1, 1, 1, 1, 1, 1, 1, 1, 1]))) (retK Tryz.prog md (md 12) pick_Replicate_ps pick_Replicate_rs pick_Replicate_ts)))
theorem pick_Replicate_l25_succ (n m18 m25 : Nat) (s9 : D) (axis10 : Int) (long11 : Int) (from13 : List D) (i14 : Int) (t64 : D) (t65 : Int) (t66 : Int) (t79 : Int) (t80 : Int) (nn3 : D) (a4 : D) (r6_0 : Int) (e7 : Int) : pick_Replicate_l25 n m18 (m25 + 1) s9 axis10 long11 from13 i14 t64 t65 t66 t79 t80 nn3 a4 r6_0 e7 =
 .br (decide (t80 < t79)) (.br (decide (from13.length + [D.int i14].length ≤ bigN)) (pick_Replicate_l25 n m18 m25 s9 axis10 long11 (from13 ++ [D.int i14]) i14 t64 t65 t66 t79 (IntKind.wrap .i64 (t80 + 1)) nn3 a4 r6_0 e7) .fail)
 (pick_Replicate_l18 n m18 s9 axis10 long11 from13 t64 t65 (IntKind.wrap .i64 (t66 + 1)) nn3 a4 r6_0 e7) := by kernel_rfl
theorem pick_Replicate_l18_succ (n m18 : Nat) (s9 : D) (axis10 : Int) (long11 : Int) (from13 : List D) (t64 : D) (t65 : Int) (t66 : Int) (nn3 : D) (a4 : D) (r6_0 : Int) (e7 : Int) : pick_Replicate_l18 n (m18 + 1) s9 axis10 long11 from13 t64 t65 t66 nn3 a4 r6_0 e7 =
 .br (decide (t66 < t65)) (.br (decide (0 ≤ t66)) (.br (decide (t66 < (t64.els.length : Int))) (.br (decide ((IntKind.wrap .i64 (2048 - (from13.length : Int))) < ((t64.els.getD (Int.toNat t66) D.nil).toInt))) (.ret [D.agg [D.int 0, D.sl [], D.sl []], D.int 7])
 (.br (long11 == 1) (pick_Replicate_l25 n m18 n s9 axis10 long11 from13 0 t64 t65 t66 ((t64.els.getD (Int.toNat t66) D.nil).toInt) 0 nn3 a4 r6_0 e7)
 (pick_Replicate_l25 n m18 n s9 axis10 long11 from13 t66 t64 t65 t66 ((t64.els.getD (Int.toNat t66) D.nil).toInt) 0 nn3 a4 r6_0 e7))) .fail) .fail)
 (.call 45 [] [nn3, a4, s9, D.int axis10, D.sl from13] fun yy5 =>
 .ret [yy5.getD 0 D.nil, D.int ((yy5.getD 1 D.nil).toInt)]) := by kernel_rfl
theorem pick_Replicate_tree (n : Nat) (nn0 : D) (a1 : D) (first2 : D) : evFun Tryz.prog md pick_Replicate_orc n 12 [] [nn0, a1, first2] =
 .call 40 [] [nn0] fun yy1 =>
 .br (((yy1.getD 1 D.nil).toInt) != 0) (.ret [D.agg [D.int 0, D.sl [], D.sl []], D.int ((yy1.getD 1 D.nil).toInt)])
 (.call 41 [] [yy1.getD 0 D.nil, D.fn 42 [] []] fun yy2 =>
 .br ((yy2.getD 0 D.nil).toBool) (.ret [D.agg [D.int 0, D.sl [], D.sl []], D.int 3])
 (.call 43 [] [a1, D.bool first2.toBool] fun yy3 =>
 .br (decide (0 ≤ (yy3.getD 1 D.nil).toInt)) (.br (decide ((yy3.getD 1 D.nil).toInt < (((yy3.getD 0 D.nil).els).length : Int))) (.br (!((((nn0.fld 1).els).length : Int) == 0)) (.br (((((yy3.getD 0 D.nil).els).getD (Int.toNat ((yy3.getD 1 D.nil).toInt)) D.nil).toInt) != 1) (.br ((((yy1.getD 0 D.nil).els).length : Int) != ((((yy3.getD 0 D.nil).els).getD (Int.toNat ((yy3.getD 1 D.nil).toInt)) D.nil).toInt)) (.ret [D.agg [D.int 0, D.sl [], D.sl []], D.int 4])
 (.br (decide (2048 < ((((yy3.getD 0 D.nil).els).getD (Int.toNat ((yy3.getD 1 D.nil).toInt)) D.nil).toInt))) (.ret [D.agg [D.int 0, D.sl [], D.sl []], D.int 7])
 (.br ((((nn0.fld 1).els).length : Int) == 0) (.call 44 [] [yy1.getD 0 D.nil, D.int ((((yy3.getD 0 D.nil).els).getD (Int.toNat ((yy3.getD 1 D.nil).toInt)) D.nil).toInt)] fun yy4 =>
 pick_Replicate_l18 n n (yy3.getD 0 D.nil) ((yy3.getD 1 D.nil).toInt) ((((yy3.getD 0 D.nil).els).getD (Int.toNat ((yy3.getD 1 D.nil).toInt)) D.nil).toInt) [] (yy4.getD 0 D.nil) (((yy4.getD 0 D.nil).els).length : Int) 0 nn0 a1 0 ((yy1.getD 1 D.nil).toInt))
 (pick_Replicate_l18 n n (yy3.getD 0 D.nil) ((yy3.getD 1 D.nil).toInt) ((((yy3.getD 0 D.nil).els).getD (Int.toNat ((yy3.getD 1 D.nil).toInt)) D.nil).toInt) [] (yy1.getD 0 D.nil) (((yy1.getD 0 D.nil).els).length : Int) 0 nn0 a1 0 ((yy1.getD 1 D.nil).toInt)))))
 (.br (decide (2048 < ((((yy3.getD 0 D.nil).els).getD (Int.toNat ((yy3.getD 1 D.nil).toInt)) D.nil).toInt))) (.ret [D.agg [D.int 0, D.sl [], D.sl []], D.int 7])
 (.br ((((nn0.fld 1).els).length : Int) == 0) (.call 44 [] [yy1.getD 0 D.nil, D.int ((((yy3.getD 0 D.nil).els).getD (Int.toNat ((yy3.getD 1 D.nil).toInt)) D.nil).toInt)] fun yy6 =>
 pick_Replicate_l18 n n (yy3.getD 0 D.nil) ((yy3.getD 1 D.nil).toInt) ((((yy3.getD 0 D.nil).els).getD (Int.toNat ((yy3.getD 1 D.nil).toInt)) D.nil).toInt) [] (yy6.getD 0 D.nil) (((yy6.getD 0 D.nil).els).length : Int) 0 nn0 a1 0 ((yy1.getD 1 D.nil).toInt))
 (pick_Replicate_l18 n n (yy3.getD 0 D.nil) ((yy3.getD 1 D.nil).toInt) ((((yy3.getD 0 D.nil).els).getD (Int.toNat ((yy3.getD 1 D.nil).toInt)) D.nil).toInt) [] (yy1.getD 0 D.nil) (((yy1.getD 0 D.nil).els).length : Int) 0 nn0 a1 0 ((yy1.getD 1 D.nil).toInt)))))
 (.br (decide (2048 < ((((yy3.getD 0 D.nil).els).getD (Int.toNat ((yy3.getD 1 D.nil).toInt)) D.nil).toInt))) (.ret [D.agg [D.int 0, D.sl [], D.sl []], D.int 7])
 (.br ((((nn0.fld 1).els).length : Int) == 0) (.call 44 [] [yy1.getD 0 D.nil, D.int ((((yy3.getD 0 D.nil).els).getD (Int.toNat ((yy3.getD 1 D.nil).toInt)) D.nil).toInt)] fun yy7 =>
 pick_Replicate_l18 n n (yy3.getD 0 D.nil) ((yy3.getD 1 D.nil).toInt) ((((yy3.getD 0 D.nil).els).getD (Int.toNat ((yy3.getD 1 D.nil).toInt)) D.nil).toInt) [] (yy7.getD 0 D.nil) (((yy7.getD 0 D.nil).els).length : Int) 0 nn0 a1 0 ((yy1.getD 1 D.nil).toInt))
 (pick_Replicate_l18 n n (yy3.getD 0 D.nil) ((yy3.getD 1 D.nil).toInt) ((((yy3.getD 0 D.nil).els).getD (Int.toNat ((yy3.getD 1 D.nil).toInt)) D.nil).toInt) [] (yy1.getD 0 D.nil) (((yy1.getD 0 D.nil).els).length : Int) 0 nn0 a1 0 ((yy1.getD 1 D.nil).toInt))))) .fail) .fail)) := by kernel_rfl

/-! scrim/pick.Expand -/
def pick_Expand_orc : List (Nat × Orc) := [(11, ⟨[(3, none), (4, none), (6, none), (7, none), (9, some 23), (10, none), (11, none), (12, none), (39, some 23), (40, none), (41, none)], [(3, true), (4, true), (6, false), (7, false)], [(.slot 11, 1110, 3)]⟩), (20, ⟨[(3, none), (4, none), (6, none), (7, none), (9, some 23), (10, none), (11, none), (64, none), (65, none)], [(3, true), (4, true), (6, false), (7, false)], [(.slot 11, 1200, 3)]⟩)]
def pick_Expand_ps : List Nat := [26, 26, 4]
def pick_Expand_rs : List ResultVar := [.cell 6 26, .cell 7 29]
def pick_Expand_ts : List Nat := [26, 29]
noncomputable def pick_Expand_l20 (n m20 : Nat) (s9 : D) (axis10 : Int) (from11 : List D) (t64 : Int) (t65 : Int) (nn3 : D) (a4 : D) (r6_0 : Int) (e7 : Int) : Tree :=
  evLoop Tryz.prog md (ev Tryz.prog md n pick_Expand_orc (cAt (bodyOf Tryz.prog 16) [1, 1, 1, 1, 1, 1, 1, 1, 1, 0, 1, 0, 1, 0, 0])) (orcAt pick_Expand_orc 20) m20 ⟨[.undef, .undef, .undef, .ptr 3 [], .ptr 4 [], .undef, .ptr 6 [], .ptr 7 [], .undef, .d 23 s9, .i .i64 axis10, .row 1200, .undef, .undef, .undef, .undef, .undef, .undef, .undef, .undef, .undef, .undef, .undef, .undef, .undef, .undef, .undef, .undef, .undef, .undef, .undef, .undef, .undef, .undef, .undef, .undef, .undef, .undef, .undef, .undef, .undef, .undef, .undef, .undef, .undef, .undef, .undef, .undef, .undef, .undef, .undef, .undef, .undef, .undef, .undef, .undef, .undef, .undef, .undef, .undef, .undef, .undef, .undef, .undef, .i .i64 t64, .i .i64 t65, .undef, .undef, .undef, .undef, .undef, .undef, .undef, .undef, .undef, .undef, .undef, .undef, .undef, .undef, .undef, .undef, .undef, .undef, .undef, .undef, .undef, .undef, .undef, .undef, .undef, .undef], [(3, .var 26 (.d 26 nn3) true), (4, .var 26 (.d 26 a4) true), (6, .var 26 (.agg 26 [.i .u64 r6_0, .mt, .mt]) true), (7, .var 29 (.i .i64 e7) true), (1200, .row 3 from11 true)], [3, 4, 6, 7, 1200], [(51, [.ptr 6 [], .ptr 7 []])], []⟩
   (blockK 2 (seqK (joinE Tryz.prog md (joinAt pick_Expand_orc (cAt (bodyOf Tryz.prog 16) [1, 1, 1, 1, 1, 1, 1, 1, 1, 1])) (ev Tryz.prog md n pick_Expand_orc (cAt (bodyOf Tryz.prog 16) [1, 1, 1, 1, 1, 1, 1, 1, 1, 1]))) (retK Tryz.prog md (md 16) pick_Expand_ps pick_Expand_rs pick_Expand_ts)))
noncomputable def pick_Expand_l11 (n m11 : Nat) (s9 : D) (axis10 : Int) (from11 : List D) (ones12 : Int) (t39 : D) (t40 : Int) (t41 : Int) (nn3 : D) (a4 : D) (r6_0 : Int) (e7 : Int) : Tree :=
  evLoop Tryz.prog md (ev Tryz.prog md n pick_Expand_orc (cAt (bodyOf Tryz.prog 16) [1, 1, 1, 1, 1, 1, 1, 1, 0, 1, 0, 0])) (orcAt pick_Expand_orc 11) m11 ⟨[.undef, .undef, .undef, .ptr 3 [], .ptr 4 [], .undef, .ptr 6 [], .ptr 7 [], .undef, .d 23 s9, .i .i64 axis10, .row 1110, .i .i64 ones12, .undef, .undef, .undef, .undef, .undef, .undef, .undef, .undef, .undef, .undef, .undef, .undef, .undef, .undef, .undef, .undef, .undef, .undef, .undef, .undef, .undef, .undef, .undef, .undef, .undef, .undef, .d 23 t39, .i .i64 t40, .i .i64 t41, .undef, .undef, .undef, .undef, .undef, .undef, .undef, .undef, .undef, .undef, .undef, .undef, .undef, .undef, .undef, .undef, .undef, .undef, .undef, .undef, .undef, .undef, .undef, .undef, .undef, .undef, .undef, .undef, .undef, .undef, .undef, .undef, .undef, .undef, .undef, .undef, .undef, .undef, .undef, .undef, .undef, .undef, .undef, .undef, .undef, .undef, .undef, .undef, .undef, .undef], [(3, .var 26 (.d 26 nn3) true), (4, .var 26 (.d 26 a4) true), (6, .var 26 (.agg 26 [.i .u64 r6_0, .mt, .mt]) true), (7, .var 29 (.i .i64 e7) true), (1110, .row 3 from11 true)], [3, 4, 6, 7, 1110], [(51, [.ptr 6 [], .ptr 7 []])], []⟩
   (blockK 0 (seqK (joinE Tryz.prog md (joinAt pick_Expand_orc (cAt (bodyOf Tryz.prog 16) [1, 1, 1, 1, 1, 1, 1, 1, 1])) (ev Tryz.prog md n pick_Expand_orc (cAt (bodyOf Tryz.prog 16) [1, 1, 1, 1, 1, 1, 1, 1, 1]))) (retK Tryz.prog md (md 16) pick_Expand_ps pick_Expand_rs pick_Expand_ts)))
theorem pick_Expand_l20_succ (n m20 : Nat) (s9 : D) (axis10 : Int) (from11 : List D) (t64 : Int) (t65 : Int) (nn3 : D) (a4 : D) (r6_0 : Int) (e7 : Int) : pick_Expand_l20 n (m20 + 1) s9 axis10 from11 t64 t65 nn3 a4 r6_0 e7 =
 .br (decide (t65 < t64)) (.br (decide (0 ≤ t65)) (.br (decide (t65 < (from11.length : Int))) (.br (decide (0 ≤ t65)) (.br (decide (t65 < (from11.length : Int))) (pick_Expand_l20 n m20 s9 axis10 (from11.set (Int.toNat t65) (D.int (if 0 < ((from11.getD (Int.toNat t65) D.nil).toInt) then 0 else ((from11.getD (Int.toNat t65) D.nil).toInt)))) t64 (IntKind.wrap .i64 (t65 + 1)) nn3 a4 r6_0 e7) .fail) .fail) .fail) .fail)
 (.call 45 [] [nn3, a4, s9, D.int axis10, D.sl from11] fun yy4 =>
 .ret [yy4.getD 0 D.nil, D.int ((yy4.getD 1 D.nil).toInt)]) := by kernel_rfl
theorem pick_Expand_l11_succ (n m11 : Nat) (s9 : D) (axis10 : Int) (from11 : List D) (ones12 : Int) (t39 : D) (t40 : Int) (t41 : Int) (nn3 : D) (a4 : D) (r6_0 : Int) (e7 : Int) : pick_Expand_l11 n (m11 + 1) s9 axis10 from11 ones12 t39 t40 t41 nn3 a4 r6_0 e7 =
 .br (decide (t41 < t40)) (.br (decide (0 ≤ t41)) (.br (decide (t41 < (t39.els.length : Int))) (.br (decide (0 ≤ t41)) (.br (decide (t41 < (from11.length : Int))) (.br (((t39.els.getD (Int.toNat t41) D.nil).toInt) == 1) (.br (decide (0 ≤ t41)) (.br (decide (t41 < ((from11.set (Int.toNat t41) (D.int (-1))).length : Int))) (pick_Expand_l11 n m11 s9 axis10 ((from11.set (Int.toNat t41) (D.int (-1))).set (Int.toNat t41) (D.int ones12)) (IntKind.wrap .i64 (ones12 + 1)) t39 t40 (IntKind.wrap .i64 (t41 + 1)) nn3 a4 r6_0 e7) .fail) .fail)
 (pick_Expand_l11 n m11 s9 axis10 (from11.set (Int.toNat t41) (D.int (-1))) ones12 t39 t40 (IntKind.wrap .i64 (t41 + 1)) nn3 a4 r6_0 e7)) .fail) .fail) .fail) .fail)
 (.br (decide (0 ≤ axis10)) (.br (decide (axis10 < (s9.els.length : Int))) (.br (((s9.els.getD (Int.toNat axis10) D.nil).toInt) == 1) (pick_Expand_l20 n n s9 axis10 from11 (from11.length : Int) 0 nn3 a4 r6_0 e7)
 (.br (decide (0 ≤ axis10)) (.br (decide (axis10 < (s9.els.length : Int))) (.br (ones12 != ((s9.els.getD (Int.toNat axis10) D.nil).toInt)) (.ret [D.agg [D.int 0, D.sl [], D.sl []], D.int 4])
 (.call 45 [] [nn3, a4, s9, D.int axis10, D.sl from11] fun yy5 =>
 .ret [yy5.getD 0 D.nil, D.int ((yy5.getD 1 D.nil).toInt)])) .fail) .fail)) .fail) .fail) := by kernel_rfl
theorem pick_Expand_tree (n : Nat) (nn0 : D) (a1 : D) (first2 : D) : evFun Tryz.prog md pick_Expand_orc n 16 [] [nn0, a1, first2] =
 .call 40 [] [nn0] fun yy1 =>
 .br (((yy1.getD 1 D.nil).toInt) != 0) (.ret [D.agg [D.int 0, D.sl [], D.sl []], D.int ((yy1.getD 1 D.nil).toInt)])
 (.call 52 [] [yy1.getD 0 D.nil] fun yy2 =>
 .br (!((yy2.getD 0 D.nil).toBool)) (.ret [D.agg [D.int 0, D.sl [], D.sl []], D.int 3])
 (.call 43 [] [a1, D.bool first2.toBool] fun yy3 =>
 .br (decide (0 ≤ (((yy1.getD 0 D.nil).els).length : Int))) (.br (decide ((((yy1.getD 0 D.nil).els).length : Int) ≤ (((yy1.getD 0 D.nil).els).length : Int))) (.br (decide ((((yy1.getD 0 D.nil).els).length : Int) ≤ bigN)) (pick_Expand_l11 n n (yy3.getD 0 D.nil) ((yy3.getD 1 D.nil).toInt) (List.replicate (Int.toNat (((yy1.getD 0 D.nil).els).length : Int)) (D.int 0)) 0 (yy1.getD 0 D.nil) (((yy1.getD 0 D.nil).els).length : Int) 0 nn0 a1 0 ((yy1.getD 1 D.nil).toInt)) .fail) .fail) .fail)) := by kernel_rfl

/-! scrim/pick.At -/
def pick_At_orc : List (Nat × Orc) := [(7, ⟨[(1, some 40), (2, none), (4, none), (5, none), (7, some 23), (8, none), (26, some 23), (27, none), (28, none)], [(2, true), (4, false), (5, false)], [(.slot 8, 1070, 68)]⟩)]
def pick_At_ps : List Nat := [26, 40]
def pick_At_rs : List ResultVar := [.cell 4 26, .cell 5 29]
def pick_At_ts : List Nat := [26, 29]
noncomputable def pick_At_l7 (n m7 : Nat) (l1 : D) (s7 : D) (cells8 : List D) (t26 : D) (t27 : Int) (t28 : Int) (a2 : D) (r4_0 : Int) (e5 : Int) : Tree :=
  evLoop Tryz.prog md (ev Tryz.prog md n pick_At_orc (cAt (bodyOf Tryz.prog 19) [1, 1, 1, 1, 1, 0, 1, 0, 0])) (orcAt pick_At_orc 7) m7 ⟨[.undef, .d 40 l1, .ptr 2 [], .undef, .ptr 4 [], .ptr 5 [], .undef, .d 23 s7, .row 1070, .undef, .undef, .undef, .undef, .undef, .undef, .undef, .undef, .undef, .undef, .undef, .undef, .undef, .undef, .undef, .undef, .undef, .d 23 t26, .i .i64 t27, .i .i64 t28, .undef, .undef, .undef, .undef, .undef, .undef, .undef, .undef, .undef, .undef, .undef, .undef, .undef, .undef, .undef, .undef, .undef, .undef, .undef, .undef, .undef], [(2, .var 26 (.d 26 a2) true), (4, .var 26 (.agg 26 [.i .u64 r4_0, .mt, .mt]) true), (5, .var 29 (.i .i64 e5) true), (1070, .row 68 cells8 true)], [2, 4, 5, 1070], [(53, [.ptr 4 [], .ptr 5 []])], []⟩
   (blockK 0 (seqK (joinE Tryz.prog md (joinAt pick_At_orc (cAt (bodyOf Tryz.prog 19) [1, 1, 1, 1, 1, 1])) (ev Tryz.prog md n pick_At_orc (cAt (bodyOf Tryz.prog 19) [1, 1, 1, 1, 1, 1]))) (retK Tryz.prog md (md 19) pick_At_ps pick_At_rs pick_At_ts)))
theorem pick_At_l7_succ (n m7 : Nat) (l1 : D) (s7 : D) (cells8 : List D) (t26 : D) (t27 : Int) (t28 : Int) (a2 : D) (r4_0 : Int) (e5 : Int) : pick_At_l7 n (m7 + 1) l1 s7 cells8 t26 t27 t28 a2 r4_0 e5 =
 .br (decide (t28 < t27)) (.br (decide (0 ≤ t28)) (.br (decide (t28 < (t26.els.length : Int))) (.br (decide (0 ≤ (t26.els.getD (Int.toNat t28) D.nil).toInt)) (.br (decide ((t26.els.getD (Int.toNat t28) D.nil).toInt < (((a2.fld 2).els).length : Int))) (.br (decide (0 ≤ t28)) (.br (decide (t28 < (cells8.length : Int))) (pick_At_l7 n m7 l1 s7 (cells8.set (Int.toNat t28) (((a2.fld 2).els).getD (Int.toNat ((t26.els.getD (Int.toNat t28) D.nil).toInt)) D.nil)) t26 t27 (IntKind.wrap .i64 (t28 + 1)) a2 r4_0 e5) .fail) .fail) .fail) .fail) .fail) .fail)
 (.call 25 [] [l1] fun yy2 =>
 .call 54 [] [D.int ((a2.fld 0).toInt), D.int ((yy2.getD 0 D.nil).toInt)] fun yy3 =>
 .ret [D.agg [D.int ((yy3.getD 0 D.nil).toInt), s7, D.sl cells8], D.int 0]) := by kernel_rfl
theorem pick_At_tree (n : Nat) (a0 : D) (l1 : D) : evFun Tryz.prog md pick_At_orc n 19 [] [a0, l1] =
 .call 22 [] [a0, l1] fun yy1 =>
 .br (((yy1.getD 2 D.nil).toInt) != 0) (.ret [D.agg [D.int 0, D.sl [], D.sl []], D.int ((yy1.getD 2 D.nil).toInt)])
 (.br (decide (0 ≤ (((yy1.getD 0 D.nil).els).length : Int))) (.br (decide ((((yy1.getD 0 D.nil).els).length : Int) ≤ (((yy1.getD 0 D.nil).els).length : Int))) (.br (decide ((((yy1.getD 0 D.nil).els).length : Int) ≤ bigN)) (pick_At_l7 n n l1 (yy1.getD 1 D.nil) (List.replicate (Int.toNat (((yy1.getD 0 D.nil).els).length : Int)) (D.agg [D.int 0, D.int 0, D.agg [D.bool false, D.sl [], D.sl []], D.int 0, D.sl []])) (yy1.getD 0 D.nil) (((yy1.getD 0 D.nil).els).length : Int) 0 a0 0 ((yy1.getD 2 D.nil).toInt)) .fail) .fail) .fail) := by kernel_rfl

/-! scrim/pick.Places -/
def pick_Places_orc : List (Nat × Orc) := [(6, ⟨[(2, none), (4, none), (5, none), (6, none), (33, some 40), (34, none), (35, none)], [(2, true), (4, false), (5, false), (6, false)], [(.fld 4 [], 1060, 3), (.fld 5 [], 1061, 3)]⟩), (16, ⟨[(2, none), (4, none), (5, none), (6, none), (8, none), (9, none), (10, some 23), (12, none), (33, some 40), (34, none), (35, none), (66, some 23), (67, none), (68, none)], [(2, true), (4, true), (5, false), (6, false), (8, true)], [(.slot 12, 1160, 3), (.fld 5 [], 1161, 3)]⟩), (19, ⟨[(2, none), (4, none), (5, none), (6, none), (8, none), (9, none), (10, some 23), (12, none), (14, none), (33, some 40), (34, none), (35, none), (66, some 23), (67, none), (68, none), (72, some 23), (73, none), (74, none)], [(2, true), (4, true), (5, false), (6, false), (8, true)], [(.slot 12, 1190, 3), (.fld 5 [], 1191, 3)]⟩)]
def pick_Places_ps : List Nat := [26, 40]
def pick_Places_rs : List ResultVar := [.cell 4 23, .cell 5 23, .cell 6 29]
def pick_Places_ts : List Nat := [23, 23, 29]
noncomputable def pick_Places_l19 (n m6 m16 m19 : Nat) (long9 : Int) (part10 : D) (next12 : List D) (k14 : Int) (t33 : D) (t34 : Int) (t35 : Int) (t66 : D) (t67 : Int) (t68 : Int) (t72 : D) (t73 : Int) (t74 : Int) (a2 : D) (at4 : D) (s5 : List D) (e6 : Int) (p8 : D) : Tree :=
  evLoop Tryz.prog md (ev Tryz.prog md n pick_Places_orc (cAt (bodyOf Tryz.prog 22) [1, 1, 1, 1, 0, 1, 0, 0, 1, 1, 0, 0, 1, 1, 1, 1, 1, 1, 0, 1, 0, 0, 1, 1, 0, 0, 1, 1, 0, 0])) (orcAt pick_Places_orc 19) m19 ⟨[.undef, .undef, .ptr 2 [], .undef, .ptr 4 [], .ptr 5 [], .ptr 6 [], .undef, .ptr 8 [], .i .i64 long9, .d 23 part10, .undef, .row 1190, .undef, .i .i64 k14, .undef, .undef, .undef, .undef, .undef, .undef, .undef, .undef, .undef, .undef, .undef, .undef, .undef, .undef, .undef, .undef, .undef, .undef, .d 40 t33, .i .i64 t34, .i .i64 t35, .undef, .undef, .undef, .undef, .undef, .undef, .undef, .undef, .undef, .undef, .undef, .undef, .undef, .undef, .undef, .undef, .undef, .undef, .undef, .undef, .undef, .undef, .undef, .undef, .undef, .undef, .undef, .undef, .undef, .undef, .d 23 t66, .i .i64 t67, .i .i64 t68, .undef, .undef, .undef, .d 23 t72, .i .i64 t73, .i .i64 t74, .undef, .undef, .undef, .undef, .undef, .undef, .undef, .undef, .undef, .undef, .undef, .undef, .undef, .undef, .undef, .undef, .undef, .undef, .undef, .undef, .undef, .undef, .undef, .undef, .undef, .undef, .undef, .undef, .undef, .undef, .undef, .undef, .undef, .undef, .undef, .undef], [(2, .var 26 (.d 26 a2) true), (4, .var 23 (.d 23 at4) true), (5, .var 23 (.row 1191) true), (6, .var 29 (.i .i64 e6) true), (8, .var 53 (.d 53 p8) true), (1190, .row 3 next12 true), (1191, .row 3 s5 true)], [2, 4, 5, 6, 8, 1190, 1191], [(56, [.ptr 4 [], .ptr 5 [], .ptr 6 []])], []⟩
   (blockK 4 (blockK 3 (seqK (joinE Tryz.prog md (joinAt pick_Places_orc (cAt (bodyOf Tryz.prog 22) [1, 1, 1, 1, 0, 1, 0, 0, 1, 1, 0, 0, 1, 1, 1, 1, 1, 1, 0, 1, 0, 0, 1, 1, 1])) (ev Tryz.prog md n pick_Places_orc (cAt (bodyOf Tryz.prog 22) [1, 1, 1, 1, 0, 1, 0, 0, 1, 1, 0, 0, 1, 1, 1, 1, 1, 1, 0, 1, 0, 0, 1, 1, 1]))) (loopK Tryz.prog md (orcAt pick_Places_orc 16) (fun s1 => evLoop Tryz.prog md (ev Tryz.prog md n pick_Places_orc (cAt (bodyOf Tryz.prog 22) [1, 1, 1, 1, 0, 1, 0, 0, 1, 1, 0, 0, 1, 1, 1, 1, 1, 1, 0, 1, 0, 0])) (orcAt pick_Places_orc 16) m16 s1 (blockK 2 (seqK (joinE Tryz.prog md (joinAt pick_Places_orc (cAt (bodyOf Tryz.prog 22) [1, 1, 1, 1, 0, 1, 0, 0, 1, 1, 0, 0, 1, 1, 1, 1, 1, 1, 1])) (ev Tryz.prog md n pick_Places_orc (cAt (bodyOf Tryz.prog 22) [1, 1, 1, 1, 0, 1, 0, 0, 1, 1, 0, 0, 1, 1, 1, 1, 1, 1, 1]))) (blockK 1 (seqK (joinE Tryz.prog md (joinAt pick_Places_orc (cAt (bodyOf Tryz.prog 22) [1, 1, 1, 1, 0, 1, 0, 0, 1, 1, 1])) (ev Tryz.prog md n pick_Places_orc (cAt (bodyOf Tryz.prog 22) [1, 1, 1, 1, 0, 1, 0, 0, 1, 1, 1]))) (loopK Tryz.prog md (orcAt pick_Places_orc 6) (fun s1 => evLoop Tryz.prog md (ev Tryz.prog md n pick_Places_orc (cAt (bodyOf Tryz.prog 22) [1, 1, 1, 1, 0, 1, 0, 0])) (orcAt pick_Places_orc 6) m6 s1 (blockK 0 (seqK (joinE Tryz.prog md (joinAt pick_Places_orc (cAt (bodyOf Tryz.prog 22) [1, 1, 1, 1, 1])) (ev Tryz.prog md n pick_Places_orc (cAt (bodyOf Tryz.prog 22) [1, 1, 1, 1, 1]))) (retK Tryz.prog md (md 22) pick_Places_ps pick_Places_rs pick_Places_ts)))) (blockK 0 (seqK (joinE Tryz.prog md (joinAt pick_Places_orc (cAt (bodyOf Tryz.prog 22) [1, 1, 1, 1, 1])) (ev Tryz.prog md n pick_Places_orc (cAt (bodyOf Tryz.prog 22) [1, 1, 1, 1, 1]))) (retK Tryz.prog md (md 22) pick_Places_ps pick_Places_rs pick_Places_ts))))))))) (blockK 2 (seqK (joinE Tryz.prog md (joinAt pick_Places_orc (cAt (bodyOf Tryz.prog 22) [1, 1, 1, 1, 0, 1, 0, 0, 1, 1, 0, 0, 1, 1, 1, 1, 1, 1, 1])) (ev Tryz.prog md n pick_Places_orc (cAt (bodyOf Tryz.prog 22) [1, 1, 1, 1, 0, 1, 0, 0, 1, 1, 0, 0, 1, 1, 1, 1, 1, 1, 1]))) (blockK 1 (seqK (joinE Tryz.prog md (joinAt pick_Places_orc (cAt (bodyOf Tryz.prog 22) [1, 1, 1, 1, 0, 1, 0, 0, 1, 1, 1])) (ev Tryz.prog md n pick_Places_orc (cAt (bodyOf Tryz.prog 22) [1, 1, 1, 1, 0, 1, 0, 0, 1, 1, 1]))) (loopK Tryz.prog md (orcAt pick_Places_orc 6) (fun s1 => evLoop Tryz.prog md (ev Tryz.prog md n pick_Places_orc (cAt (bodyOf Tryz.prog 22) [1, 1, 1, 1, 0, 1, 0, 0])) (orcAt pick_Places_orc 6) m6 s1 (blockK 0 (seqK (joinE Tryz.prog md (joinAt pick_Places_orc (cAt (bodyOf Tryz.prog 22) [1, 1, 1, 1, 1])) (ev Tryz.prog md n pick_Places_orc (cAt (bodyOf Tryz.prog 22) [1, 1, 1, 1, 1]))) (retK Tryz.prog md (md 22) pick_Places_ps pick_Places_rs pick_Places_ts)))) (blockK 0 (seqK (joinE Tryz.prog md (joinAt pick_Places_orc (cAt (bodyOf Tryz.prog 22) [1, 1, 1, 1, 1])) (ev Tryz.prog md n pick_Places_orc (cAt (bodyOf Tryz.prog 22) [1, 1, 1, 1, 1]))) (retK Tryz.prog md (md 22) pick_Places_ps pick_Places_rs pick_Places_ts))))))))))))
noncomputable def pick_Places_l16 (n m6 m16 : Nat) (long9 : Int) (part10 : D) (next12 : List D) (t33 : D) (t34 : Int) (t35 : Int) (t66 : D) (t67 : Int) (t68 : Int) (a2 : D) (at4 : D) (s5 : List D) (e6 : Int) (p8 : D) : Tree :=
  evLoop Tryz.prog md (ev Tryz.prog md n pick_Places_orc (cAt (bodyOf Tryz.prog 22) [1, 1, 1, 1, 0, 1, 0, 0, 1, 1, 0, 0, 1, 1, 1, 1, 1, 1, 0, 1, 0, 0])) (orcAt pick_Places_orc 16) m16 ⟨[.undef, .undef, .ptr 2 [], .undef, .ptr 4 [], .ptr 5 [], .ptr 6 [], .undef, .ptr 8 [], .i .i64 long9, .d 23 part10, .undef, .row 1160, .undef, .undef, .undef, .undef, .undef, .undef, .undef, .undef, .undef, .undef, .undef, .undef, .undef, .undef, .undef, .undef, .undef, .undef, .undef, .undef, .d 40 t33, .i .i64 t34, .i .i64 t35, .undef, .undef, .undef, .undef, .undef, .undef, .undef, .undef, .undef, .undef, .undef, .undef, .undef, .undef, .undef, .undef, .undef, .undef, .undef, .undef, .undef, .undef, .undef, .undef, .undef, .undef, .undef, .undef, .undef, .undef, .d 23 t66, .i .i64 t67, .i .i64 t68, .undef, .undef, .undef, .undef, .undef, .undef, .undef, .undef, .undef, .undef, .undef, .undef, .undef, .undef, .undef, .undef, .undef, .undef, .undef, .undef, .undef, .undef, .undef, .undef, .undef, .undef, .undef, .undef, .undef, .undef, .undef, .undef, .undef, .undef, .undef, .undef, .undef, .undef, .undef, .undef, .undef, .undef], [(2, .var 26 (.d 26 a2) true), (4, .var 23 (.d 23 at4) true), (5, .var 23 (.row 1161) true), (6, .var 29 (.i .i64 e6) true), (8, .var 53 (.d 53 p8) true), (1160, .row 3 next12 true), (1161, .row 3 s5 true)], [2, 4, 5, 6, 8, 1160, 1161], [(56, [.ptr 4 [], .ptr 5 [], .ptr 6 []])], []⟩
   (blockK 2 (seqK (joinE Tryz.prog md (joinAt pick_Places_orc (cAt (bodyOf Tryz.prog 22) [1, 1, 1, 1, 0, 1, 0, 0, 1, 1, 0, 0, 1, 1, 1, 1, 1, 1, 1])) (ev Tryz.prog md n pick_Places_orc (cAt (bodyOf Tryz.prog 22) [1, 1, 1, 1, 0, 1, 0, 0, 1, 1, 0, 0, 1, 1, 1, 1, 1, 1, 1]))) (blockK 1 (seqK (joinE Tryz.prog md (joinAt pick_Places_orc (cAt (bodyOf Tryz.prog 22) [1, 1, 1, 1, 0, 1, 0, 0, 1, 1, 1])) (ev Tryz.prog md n pick_Places_orc (cAt (bodyOf Tryz.prog 22) [1, 1, 1, 1, 0, 1, 0, 0, 1, 1, 1]))) (loopK Tryz.prog md (orcAt pick_Places_orc 6) (fun s1 => evLoop Tryz.prog md (ev Tryz.prog md n pick_Places_orc (cAt (bodyOf Tryz.prog 22) [1, 1, 1, 1, 0, 1, 0, 0])) (orcAt pick_Places_orc 6) m6 s1 (blockK 0 (seqK (joinE Tryz.prog md (joinAt pick_Places_orc (cAt (bodyOf Tryz.prog 22) [1, 1, 1, 1, 1])) (ev Tryz.prog md n pick_Places_orc (cAt (bodyOf Tryz.prog 22) [1, 1, 1, 1, 1]))) (retK Tryz.prog md (md 22) pick_Places_ps pick_Places_rs pick_Places_ts)))) (blockK 0 (seqK (joinE Tryz.prog md (joinAt pick_Places_orc (cAt (bodyOf Tryz.prog 22) [1, 1, 1, 1, 1])) (ev Tryz.prog md n pick_Places_orc (cAt (bodyOf Tryz.prog 22) [1, 1, 1, 1, 1]))) (retK Tryz.prog md (md 22) pick_Places_ps pick_Places_rs pick_Places_ts))))))))
noncomputable def pick_Places_l6 (n m6 : Nat) (t33 : D) (t34 : Int) (t35 : Int) (a2 : D) (at4 : List D) (s5 : List D) (e6 : Int) : Tree :=
  evLoop Tryz.prog md (ev Tryz.prog md n pick_Places_orc (cAt (bodyOf Tryz.prog 22) [1, 1, 1, 1, 0, 1, 0, 0])) (orcAt pick_Places_orc 6) m6 ⟨[.undef, .undef, .ptr 2 [], .undef, .ptr 4 [], .ptr 5 [], .ptr 6 [], .undef, .undef, .undef, .undef, .undef, .undef, .undef, .undef, .undef, .undef, .undef, .undef, .undef, .undef, .undef, .undef, .undef, .undef, .undef, .undef, .undef, .undef, .undef, .undef, .undef, .undef, .d 40 t33, .i .i64 t34, .i .i64 t35, .undef, .undef, .undef, .undef, .undef, .undef, .undef, .undef, .undef, .undef, .undef, .undef, .undef, .undef, .undef, .undef, .undef, .undef, .undef, .undef, .undef, .undef, .undef, .undef, .undef, .undef, .undef, .undef, .undef, .undef, .undef, .undef, .undef, .undef, .undef, .undef, .undef, .undef, .undef, .undef, .undef, .undef, .undef, .undef, .undef, .undef, .undef, .undef, .undef, .undef, .undef, .undef, .undef, .undef, .undef, .undef, .undef, .undef, .undef, .undef, .undef, .undef, .undef, .undef, .undef, .undef, .undef, .undef, .undef, .undef, .undef, .undef, .undef, .undef, .undef], [(2, .var 26 (.d 26 a2) true), (4, .var 23 (.row 1060) true), (5, .var 23 (.row 1061) true), (6, .var 29 (.i .i64 e6) true), (1060, .row 3 at4 true), (1061, .row 3 s5 true)], [2, 4, 5, 6, 1060, 1061], [(56, [.ptr 4 [], .ptr 5 [], .ptr 6 []])], []⟩
   (blockK 0 (seqK (joinE Tryz.prog md (joinAt pick_Places_orc (cAt (bodyOf Tryz.prog 22) [1, 1, 1, 1, 1])) (ev Tryz.prog md n pick_Places_orc (cAt (bodyOf Tryz.prog 22) [1, 1, 1, 1, 1]))) (retK Tryz.prog md (md 22) pick_Places_ps pick_Places_rs pick_Places_ts)))
theorem pick_Places_l19_succ (n m6 m16 m19 : Nat) (long9 : Int) (part10 : D) (next12 : List D) (k14 : Int) (t33 : D) (t34 : Int) (t35 : Int) (t66 : D) (t67 : Int) (t68 : Int) (t72 : D) (t73 : Int) (t74 : Int) (a2 : D) (at4 : D) (s5 : List D) (e6 : Int) (p8 : D) : pick_Places_l19 n m6 m16 (m19 + 1) long9 part10 next12 k14 t33 t34 t35 t66 t67 t68 t72 t73 t74 a2 at4 s5 e6 p8 =
 .br (decide (t74 < t73)) (.br (decide (0 ≤ t74)) (.br (decide (t74 < (t72.els.length : Int))) (.br (decide (next12.length + [D.int (IntKind.wrap .i64 ((IntKind.wrap .i64 (k14 * long9)) + ((t72.els.getD (Int.toNat t74) D.nil).toInt)))].length ≤ bigN)) (pick_Places_l19 n m6 m16 m19 long9 part10 (next12 ++ [D.int (IntKind.wrap .i64 ((IntKind.wrap .i64 (k14 * long9)) + ((t72.els.getD (Int.toNat t74) D.nil).toInt)))]) k14 t33 t34 t35 t66 t67 t68 t72 t73 (IntKind.wrap .i64 (t74 + 1)) a2 at4 s5 e6 p8) .fail) .fail) .fail)
 (pick_Places_l16 n m6 m16 long9 part10 next12 t33 t34 t35 t66 t67 (IntKind.wrap .i64 (t68 + 1)) a2 at4 s5 e6 p8) := by kernel_rfl
theorem pick_Places_l16_succ (n m6 m16 : Nat) (long9 : Int) (part10 : D) (next12 : List D) (t33 : D) (t34 : Int) (t35 : Int) (t66 : D) (t67 : Int) (t68 : Int) (a2 : D) (at4 : D) (s5 : List D) (e6 : Int) (p8 : D) : pick_Places_l16 n m6 (m16 + 1) long9 part10 next12 t33 t34 t35 t66 t67 t68 a2 at4 s5 e6 p8 =
 .br (decide (t68 < t67)) (.br (decide (0 ≤ t68)) (.br (decide (t68 < (t66.els.length : Int))) (pick_Places_l19 n m6 m16 n long9 part10 next12 ((t66.els.getD (Int.toNat t68) D.nil).toInt) t33 t34 t35 t66 t67 t68 part10 (part10.els.length : Int) 0 a2 at4 s5 e6 p8) .fail) .fail)
 (.br ((p8.fld 0).toBool) (.br (decide (s5.length + [D.int long9].length ≤ bigN)) (pick_Places_l6 n m6 t33 t34 (IntKind.wrap .i64 (t35 + 1)) a2 next12 (s5 ++ [D.int long9]) e6) .fail)
 (.br (decide (s5.length + (((p8.fld 1).fld 1).els).length ≤ bigN)) (pick_Places_l6 n m6 t33 t34 (IntKind.wrap .i64 (t35 + 1)) a2 next12 (s5 ++ (((p8.fld 1).fld 1).els)) e6) .fail)) := by kernel_rfl
theorem pick_Places_l6_succ (n m6 : Nat) (t33 : D) (t34 : Int) (t35 : Int) (a2 : D) (at4 : List D) (s5 : List D) (e6 : Int) : pick_Places_l6 n (m6 + 1) t33 t34 t35 a2 at4 s5 e6 =
 .br (decide (t35 < t34)) (.br (decide (0 ≤ t35)) (.br (decide (t35 < (t33.els.length : Int))) (.br (decide (0 ≤ t35)) (.br (decide (t35 < (((a2.fld 1).els).length : Int))) (.call 57 [] [t33.els.getD (Int.toNat t35) D.nil, D.int ((((a2.fld 1).els).getD (Int.toNat t35) D.nil).toInt)] fun yy1 =>
 .br (((yy1.getD 1 D.nil).toInt) != 0) (.ret [D.sl [], D.sl [], D.int ((yy1.getD 1 D.nil).toInt)])
 (.br (decide (2048 < (IntKind.wrap .i64 ((at4.length : Int) * (((yy1.getD 0 D.nil).els).length : Int))))) (.ret [D.sl [], D.sl [], D.int 7])
 (.br (decide (0 ≤ 0)) (.br (decide (0 ≤ IntKind.wrap .i64 ((at4.length : Int) * (((yy1.getD 0 D.nil).els).length : Int)))) (.br (decide (IntKind.wrap .i64 ((at4.length : Int) * (((yy1.getD 0 D.nil).els).length : Int)) ≤ bigN)) (pick_Places_l16 n m6 n ((((a2.fld 1).els).getD (Int.toNat t35) D.nil).toInt) (yy1.getD 0 D.nil) (List.replicate (Int.toNat 0) (D.int 0)) t33 t34 t35 (D.sl at4) (at4.length : Int) 0 a2 (D.sl at4) s5 e6 (t33.els.getD (Int.toNat t35) D.nil)) .fail) .fail) .fail))) .fail) .fail) .fail) .fail)
 (.call 58 [] [D.sl s5] fun yy2 =>
 .br (((yy2.getD 1 D.nil).toInt) != 0) (.ret [D.sl [], D.sl [], D.int ((yy2.getD 1 D.nil).toInt)])
 (.ret [D.sl at4, D.sl s5, D.int 0])) := by kernel_rfl
theorem pick_Places_tree (n : Nat) (a0 : D) (l1 : D) : evFun Tryz.prog md pick_Places_orc n 22 [] [a0, l1] =
 .br ((l1.els.length : Int) == 0) (.ret [D.sl [], D.sl [], D.int 5])
 (.br ((l1.els.length : Int) != (((a0.fld 1).els).length : Int)) (.ret [D.sl [], D.sl [], D.int 5])
 (pick_Places_l6 n n l1 (l1.els.length : Int) 0 a0 [D.int 0] [] 0)) := by kernel_rfl

/-! scrim/pick.Total -/
def pick_Total_orc : List (Nat × Orc) := [(3, ⟨[(3, none), (6, some 40), (7, none), (8, none)], [], []⟩)]
def pick_Total_ps : List Nat := [40]
def pick_Total_rs : List ResultVar := [.tmp 2]
def pick_Total_ts : List Nat := [22]
noncomputable def pick_Total_l3 (n m3 : Nat) (r3 : Int) (t6 : D) (t7 : Int) (t8 : Int) : Tree :=
  evLoop Tryz.prog md (ev Tryz.prog md n pick_Total_orc (cAt (bodyOf Tryz.prog 25) [1, 1, 0, 1, 0, 0])) (orcAt pick_Total_orc 3) m3 ⟨[.undef, .undef, .undef, .i .u64 r3, .undef, .undef, .d 40 t6, .i .i64 t7, .i .i64 t8, .undef, .undef, .undef, .undef, .undef, .undef, .undef, .undef, .undef, .undef, .undef, .undef, .undef], [], [], [], []⟩
   (blockK 0 (seqK (joinE Tryz.prog md (joinAt pick_Total_orc (cAt (bodyOf Tryz.prog 25) [1, 1, 1])) (ev Tryz.prog md n pick_Total_orc (cAt (bodyOf Tryz.prog 25) [1, 1, 1]))) (retK Tryz.prog md (md 25) pick_Total_ps pick_Total_rs pick_Total_ts)))
theorem pick_Total_l3_succ (n m3 : Nat) (r3 : Int) (t6 : D) (t7 : Int) (t8 : Int) : pick_Total_l3 n (m3 + 1) r3 t6 t7 t8 =
 .br (decide (t8 < t7)) (.br (decide (0 ≤ t8)) (.br (decide (t8 < (t6.els.length : Int))) (.br (!(((t6.els.getD (Int.toNat t8) D.nil).fld 0).toBool)) (.call 61 [] [(t6.els.getD (Int.toNat t8) D.nil).fld 1] fun yy1 =>
 .call 54 [] [D.int r3, D.int ((yy1.getD 0 D.nil).toInt)] fun yy2 =>
 pick_Total_l3 n m3 ((yy2.getD 0 D.nil).toInt) t6 t7 (IntKind.wrap .i64 (t8 + 1)))
 (pick_Total_l3 n m3 r3 t6 t7 (IntKind.wrap .i64 (t8 + 1)))) .fail) .fail)
 (.ret [D.int r3]) := by kernel_rfl
theorem pick_Total_tree (n : Nat) (l0 : D) : evFun Tryz.prog md pick_Total_orc n 25 [] [l0] =
 pick_Total_l3 n n 0 l0 (l0.els.length : Int) 0 := by kernel_rfl

/-! scrim/pick.Replicate$2 -/
def pick_Replicate_2_orc : List (Nat × Orc) := []
theorem pick_Replicate_2_tree (n : Nat) (k0 : D) : evFun Tryz.prog md pick_Replicate_2_orc n 42 [] [k0] =
 .ret [D.bool (decide (k0.toInt < 0))] := by kernel_rfl

/-! scrim/pick.axes -/
def pick_axes_orc : List (Nat × Orc) := []
theorem pick_axes_tree (n : Nat) (a0 : D) (first1 : D) : evFun Tryz.prog md pick_axes_orc n 43 [] [a0, first1] =
 .br ((((a0.fld 1).els).length : Int) == 0) (.ret [D.sl [D.int 1], D.int 0])
 (.br first1.toBool (.call 82 [] [a0.fld 1] fun yy1 =>
 .ret [D.sl ((yy1.getD 0 D.nil).els), D.int 0])
 (.call 82 [] [a0.fld 1] fun yy2 =>
 .ret [D.sl ((yy2.getD 0 D.nil).els), D.int (IntKind.wrap .i64 ((((a0.fld 1).els).length : Int) - 1))])) := by kernel_rfl

/-! scrim/pick.rows -/
def pick_rows_orc : List (Nat × Orc) := [(9, ⟨[(2, some 23), (3, none), (4, some 23), (5, none), (6, none), (10, none), (12, some 23), (18, none), (20, none), (21, none), (55, none), (56, none)], [(5, true), (6, true), (10, false), (20, true)], [(.slot 21, 1090, 68)]⟩), (12, ⟨[(2, some 23), (3, none), (4, some 23), (5, none), (6, none), (10, none), (12, some 23), (18, none), (20, none), (21, none), (22, none), (55, none), (56, none), (59, some 23), (60, none), (61, none)], [(5, true), (6, true), (10, false), (20, true)], [(.slot 21, 1120, 68)]⟩)]
def pick_rows_ps : List Nat := [26, 26, 23, 3, 23]
def pick_rows_rs : List ResultVar := [.cell 10 26, .tmp 11]
def pick_rows_ts : List Nat := [26, 29]
noncomputable def pick_rows_l12 (n m9 m12 : Nat) (s2 : D) (axis3 : Int) (from4 : D) (t12 : D) (behind18 : Int) (cells21 : List D) (i22 : Int) (t55 : Int) (t56 : Int) (t59 : D) (t60 : Int) (t61 : Int) (nn5 : D) (a6 : D) (t10_0 : Int) (fill20 : D) : Tree :=
  evLoop Tryz.prog md (ev Tryz.prog md n pick_rows_orc (cAt (bodyOf Tryz.prog 45) [1, 1, 1, 1, 1, 1, 1, 0, 1, 0, 0, 1, 1, 0, 0, 1, 1, 0, 0])) (orcAt pick_rows_orc 12) m12 ⟨[.undef, .undef, .d 23 s2, .i .i64 axis3, .d 23 from4, .ptr 5 [], .ptr 6 [], .undef, .undef, .undef, .ptr 10 [], .undef, .d 23 t12, .undef, .undef, .undef, .undef, .undef, .i .i64 behind18, .undef, .ptr 20 [], .row 1120, .i .i64 i22, .undef, .undef, .undef, .undef, .undef, .undef, .undef, .undef, .undef, .undef, .undef, .undef, .undef, .undef, .undef, .undef, .undef, .undef, .undef, .undef, .undef, .undef, .undef, .undef, .undef, .undef, .undef, .undef, .undef, .undef, .undef, .undef, .i .i64 t55, .i .i64 t56, .undef, .undef, .d 23 t59, .i .i64 t60, .i .i64 t61, .undef, .undef, .undef, .undef, .undef, .undef, .undef, .undef, .undef, .undef, .undef, .undef, .undef, .undef, .undef, .undef, .undef, .undef, .undef, .undef, .undef, .undef, .undef, .undef, .undef, .undef, .undef, .undef, .undef, .undef, .undef, .undef, .undef, .undef, .undef, .undef, .undef, .undef, .undef, .undef], [(5, .var 26 (.d 26 nn5) true), (6, .var 26 (.d 26 a6) true), (10, .var 26 (.agg 26 [.i .u64 t10_0, .mt, .mt]) true), (20, .var 68 (.d 68 fill20) true), (1120, .row 68 cells21 true)], [5, 6, 10, 20, 1120], [], []⟩
   (blockK 2 (blockK 1 (seqK (joinE Tryz.prog md (joinAt pick_rows_orc (cAt (bodyOf Tryz.prog 45) [1, 1, 1, 1, 1, 1, 1, 0, 1, 0, 0, 1, 1, 1])) (ev Tryz.prog md n pick_rows_orc (cAt (bodyOf Tryz.prog 45) [1, 1, 1, 1, 1, 1, 1, 0, 1, 0, 0, 1, 1, 1]))) (loopK Tryz.prog md (orcAt pick_rows_orc 9) (fun s1 => evLoop Tryz.prog md (ev Tryz.prog md n pick_rows_orc (cAt (bodyOf Tryz.prog 45) [1, 1, 1, 1, 1, 1, 1, 0, 1, 0, 0])) (orcAt pick_rows_orc 9) m9 s1 (blockK 0 (seqK (joinE Tryz.prog md (joinAt pick_rows_orc (cAt (bodyOf Tryz.prog 45) [1, 1, 1, 1, 1, 1, 1, 1])) (ev Tryz.prog md n pick_rows_orc (cAt (bodyOf Tryz.prog 45) [1, 1, 1, 1, 1, 1, 1, 1]))) (retK Tryz.prog md (md 45) pick_rows_ps pick_rows_rs pick_rows_ts)))) (blockK 0 (seqK (joinE Tryz.prog md (joinAt pick_rows_orc (cAt (bodyOf Tryz.prog 45) [1, 1, 1, 1, 1, 1, 1, 1])) (ev Tryz.prog md n pick_rows_orc (cAt (bodyOf Tryz.prog 45) [1, 1, 1, 1, 1, 1, 1, 1]))) (retK Tryz.prog md (md 45) pick_rows_ps pick_rows_rs pick_rows_ts)))))))
noncomputable def pick_rows_l9 (n m9 : Nat) (s2 : D) (axis3 : Int) (from4 : D) (t12 : D) (behind18 : Int) (cells21 : List D) (t55 : Int) (t56 : Int) (nn5 : D) (a6 : D) (t10_0 : Int) (fill20 : D) : Tree :=
  evLoop Tryz.prog md (ev Tryz.prog md n pick_rows_orc (cAt (bodyOf Tryz.prog 45) [1, 1, 1, 1, 1, 1, 1, 0, 1, 0, 0])) (orcAt pick_rows_orc 9) m9 ⟨[.undef, .undef, .d 23 s2, .i .i64 axis3, .d 23 from4, .ptr 5 [], .ptr 6 [], .undef, .undef, .undef, .ptr 10 [], .undef, .d 23 t12, .undef, .undef, .undef, .undef, .undef, .i .i64 behind18, .undef, .ptr 20 [], .row 1090, .undef, .undef, .undef, .undef, .undef, .undef, .undef, .undef, .undef, .undef, .undef, .undef, .undef, .undef, .undef, .undef, .undef, .undef, .undef, .undef, .undef, .undef, .undef, .undef, .undef, .undef, .undef, .undef, .undef, .undef, .undef, .undef, .undef, .i .i64 t55, .i .i64 t56, .undef, .undef, .undef, .undef, .undef, .undef, .undef, .undef, .undef, .undef, .undef, .undef, .undef, .undef, .undef, .undef, .undef, .undef, .undef, .undef, .undef, .undef, .undef, .undef, .undef, .undef, .undef, .undef, .undef, .undef, .undef, .undef, .undef, .undef, .undef, .undef, .undef, .undef, .undef, .undef, .undef, .undef, .undef, .undef, .undef], [(5, .var 26 (.d 26 nn5) true), (6, .var 26 (.d 26 a6) true), (10, .var 26 (.agg 26 [.i .u64 t10_0, .mt, .mt]) true), (20, .var 68 (.d 68 fill20) true), (1090, .row 68 cells21 true)], [5, 6, 10, 20, 1090], [], []⟩
   (blockK 0 (seqK (joinE Tryz.prog md (joinAt pick_rows_orc (cAt (bodyOf Tryz.prog 45) [1, 1, 1, 1, 1, 1, 1, 1])) (ev Tryz.prog md n pick_rows_orc (cAt (bodyOf Tryz.prog 45) [1, 1, 1, 1, 1, 1, 1, 1]))) (retK Tryz.prog md (md 45) pick_rows_ps pick_rows_rs pick_rows_ts)))
theorem pick_rows_l12_succ (n m9 m12 : Nat) (s2 : D) (axis3 : Int) (from4 : D) (t12 : D) (behind18 : Int) (cells21 : List D) (i22 : Int) (t55 : Int) (t56 : Int) (t59 : D) (t60 : Int) (t61 : Int) (nn5 : D) (a6 : D) (t10_0 : Int) (fill20 : D) : pick_rows_l12 n m9 (m12 + 1) s2 axis3 from4 t12 behind18 cells21 i22 t55 t56 t59 t60 t61 nn5 a6 t10_0 fill20 =
 .br (decide (t61 < t60)) (.br (decide (0 ≤ t61)) (.br (decide (t61 < (t59.els.length : Int))) (.br (decide (((t59.els.getD (Int.toNat t61) D.nil).toInt) < 0)) (.call 87 [] [D.sl [fill20], D.int behind18] fun yy5 =>
 .br (decide (cells21.length + ((yy5.getD 0 D.nil).els).length ≤ bigN)) (pick_rows_l12 n m9 m12 s2 axis3 from4 t12 behind18 (cells21 ++ ((yy5.getD 0 D.nil).els)) i22 t55 t56 t59 t60 (IntKind.wrap .i64 (t61 + 1)) nn5 a6 t10_0 fill20) .fail)
 (.br (decide (0 ≤ axis3)) (.br (decide (axis3 < (s2.els.length : Int))) (.br (decide (0 ≤ IntKind.wrap .i64 ((IntKind.wrap .i64 ((IntKind.wrap .i64 (i22 * ((s2.els.getD (Int.toNat axis3) D.nil).toInt))) + ((t59.els.getD (Int.toNat t61) D.nil).toInt))) * behind18))) (.br (decide (IntKind.wrap .i64 ((IntKind.wrap .i64 ((IntKind.wrap .i64 (i22 * ((s2.els.getD (Int.toNat axis3) D.nil).toInt))) + ((t59.els.getD (Int.toNat t61) D.nil).toInt))) * behind18) ≤ IntKind.wrap .i64 ((IntKind.wrap .i64 ((IntKind.wrap .i64 ((IntKind.wrap .i64 (i22 * ((s2.els.getD (Int.toNat axis3) D.nil).toInt))) + ((t59.els.getD (Int.toNat t61) D.nil).toInt))) * behind18)) + behind18))) (.br (decide (IntKind.wrap .i64 ((IntKind.wrap .i64 ((IntKind.wrap .i64 ((IntKind.wrap .i64 (i22 * ((s2.els.getD (Int.toNat axis3) D.nil).toInt))) + ((t59.els.getD (Int.toNat t61) D.nil).toInt))) * behind18)) + behind18) ≤ (((a6.fld 2).els).length : Int))) (.br (decide (cells21.length + ((((a6.fld 2).els).take (Int.toNat (IntKind.wrap .i64 ((IntKind.wrap .i64 ((IntKind.wrap .i64 ((IntKind.wrap .i64 (i22 * ((s2.els.getD (Int.toNat axis3) D.nil).toInt))) + ((t59.els.getD (Int.toNat t61) D.nil).toInt))) * behind18)) + behind18)))).drop (Int.toNat (IntKind.wrap .i64 ((IntKind.wrap .i64 ((IntKind.wrap .i64 (i22 * ((s2.els.getD (Int.toNat axis3) D.nil).toInt))) + ((t59.els.getD (Int.toNat t61) D.nil).toInt))) * behind18)))).length ≤ bigN)) (pick_rows_l12 n m9 m12 s2 axis3 from4 t12 behind18 (cells21 ++ ((((a6.fld 2).els).take (Int.toNat (IntKind.wrap .i64 ((IntKind.wrap .i64 ((IntKind.wrap .i64 ((IntKind.wrap .i64 (i22 * ((s2.els.getD (Int.toNat axis3) D.nil).toInt))) + ((t59.els.getD (Int.toNat t61) D.nil).toInt))) * behind18)) + behind18)))).drop (Int.toNat (IntKind.wrap .i64 ((IntKind.wrap .i64 ((IntKind.wrap .i64 (i22 * ((s2.els.getD (Int.toNat axis3) D.nil).toInt))) + ((t59.els.getD (Int.toNat t61) D.nil).toInt))) * behind18))))) i22 t55 t56 t59 t60 (IntKind.wrap .i64 (t61 + 1)) nn5 a6 t10_0 fill20) .fail) .fail) .fail) .fail) .fail) .fail)) .fail) .fail)
 (pick_rows_l9 n m9 s2 axis3 from4 t12 behind18 cells21 t55 (IntKind.wrap .i64 (t56 + 1)) nn5 a6 t10_0 fill20) := by kernel_rfl
theorem pick_rows_l9_succ (n m9 : Nat) (s2 : D) (axis3 : Int) (from4 : D) (t12 : D) (behind18 : Int) (cells21 : List D) (t55 : Int) (t56 : Int) (nn5 : D) (a6 : D) (t10_0 : Int) (fill20 : D) : pick_rows_l9 n (m9 + 1) s2 axis3 from4 t12 behind18 cells21 t55 t56 nn5 a6 t10_0 fill20 =
 .br (decide (t56 < t55)) (pick_rows_l12 n m9 n s2 axis3 from4 t12 behind18 cells21 t56 t55 t56 from4 (from4.els.length : Int) 0 nn5 a6 t10_0 fill20)
 (.call 61 [] [nn5] fun yy6 =>
 .call 54 [] [D.int ((a6.fld 0).toInt), D.int ((yy6.getD 0 D.nil).toInt)] fun yy7 =>
 .ret [D.agg [D.int ((yy7.getD 0 D.nil).toInt), t12, D.sl cells21], D.int 0]) := by kernel_rfl
theorem pick_rows_tree (n : Nat) (nn0 : D) (a1 : D) (s2 : D) (axis3 : D) (from4 : D) : evFun Tryz.prog md pick_rows_orc n 45 [] [nn0, a1, s2, axis3, from4] =
 .call 84 [] [s2, D.int axis3.toInt, D.int (from4.els.length : Int)] fun yy1 =>
 .call 58 [] [yy1.getD 0 D.nil] fun yy2 =>
 .br (((yy2.getD 1 D.nil).toInt) != 0) (.ret [D.agg [D.int 0, D.sl [], D.sl []], D.int ((yy2.getD 1 D.nil).toInt)])
 (.call 85 [] [yy1.getD 0 D.nil, D.int axis3.toInt] fun yy3 =>
 .call 86 [] [a1] fun yy4 =>
 .br (decide (0 ≤ 0)) (.br (decide (0 ≤ (yy2.getD 0 D.nil).toInt)) (.br (decide ((yy2.getD 0 D.nil).toInt ≤ bigN)) (pick_rows_l9 n n s2 axis3.toInt from4 (yy1.getD 0 D.nil) ((yy3.getD 2 D.nil).toInt) (List.replicate (Int.toNat 0) (D.agg [D.int 0, D.int 0, D.agg [D.bool false, D.sl [], D.sl []], D.int 0, D.sl []])) ((yy3.getD 0 D.nil).toInt) 0 nn0 a1 0 (yy4.getD 0 D.nil)) .fail) .fail) .fail) := by kernel_rfl

/-! scrim/pick.bits -/
def pick_bits_orc : List (Nat × Orc) := [(2, ⟨[(5, some 23), (6, none), (7, none)], [], []⟩)]
def pick_bits_ps : List Nat := [23]
def pick_bits_rs : List ResultVar := [.tmp 2]
def pick_bits_ts : List Nat := [4]
noncomputable def pick_bits_l2 (n m2 : Nat) (t5 : D) (t6 : Int) (t7 : Int) : Tree :=
  evLoop Tryz.prog md (ev Tryz.prog md n pick_bits_orc (cAt (bodyOf Tryz.prog 52) [1, 0, 1, 0, 0])) (orcAt pick_bits_orc 2) m2 ⟨[.undef, .undef, .undef, .undef, .undef, .d 23 t5, .i .i64 t6, .i .i64 t7, .undef, .undef, .undef, .undef, .undef, .undef, .undef, .undef, .undef, .undef], [], [], [], []⟩
   (blockK 0 (seqK (joinE Tryz.prog md (joinAt pick_bits_orc (cAt (bodyOf Tryz.prog 52) [1, 1])) (ev Tryz.prog md n pick_bits_orc (cAt (bodyOf Tryz.prog 52) [1, 1]))) (retK Tryz.prog md (md 52) pick_bits_ps pick_bits_rs pick_bits_ts)))
theorem pick_bits_l2_succ (n m2 : Nat) (t5 : D) (t6 : Int) (t7 : Int) : pick_bits_l2 n (m2 + 1) t5 t6 t7 =
 .br (decide (t7 < t6)) (.br (decide (0 ≤ t7)) (.br (decide (t7 < (t5.els.length : Int))) (.br (((t5.els.getD (Int.toNat t7) D.nil).toInt) != 0) (.br (((t5.els.getD (Int.toNat t7) D.nil).toInt) != 1) (.ret [D.bool false])
 (pick_bits_l2 n m2 t5 t6 (IntKind.wrap .i64 (t7 + 1))))
 (pick_bits_l2 n m2 t5 t6 (IntKind.wrap .i64 (t7 + 1)))) .fail) .fail)
 (.ret [D.bool true]) := by kernel_rfl
theorem pick_bits_tree (n : Nat) (l0 : D) : evFun Tryz.prog md pick_bits_orc n 52 [] [l0] =
 pick_bits_l2 n n l0 (l0.els.length : Int) 0 := by kernel_rfl

/-! (scrim/pick.Axis).part -/
def pick_Axis_part_orc : List (Nat × Orc) := [(6, ⟨[(6, none), (20, none), (21, none)], [], [(.slot 6, 1060, 3)]⟩), (16, ⟨[(1, none), (10, none), (44, some 23), (45, none), (46, none)], [], [(.slot 10, 1160, 3)]⟩)]
def pick_Axis_part_ps : List Nat := [53, 3]
def pick_Axis_part_rs : List ResultVar := [.tmp 4, .tmp 5]
def pick_Axis_part_ts : List Nat := [23, 29]
noncomputable def pick_Axis_part_l6 (n m6 : Nat) (r6 : List D) (t20 : Int) (t21 : Int) : Tree :=
  evLoop Tryz.prog md (ev Tryz.prog md n pick_Axis_part_orc (cAt (bodyOf Tryz.prog 57) [1, 0, 1, 0, 1, 1, 0, 1, 0, 0])) (orcAt pick_Axis_part_orc 6) m6 ⟨[.undef, .undef, .undef, .undef, .undef, .undef, .row 1060, .undef, .undef, .undef, .undef, .undef, .undef, .undef, .undef, .undef, .undef, .undef, .undef, .undef, .i .i64 t20, .i .i64 t21, .undef, .undef, .undef, .undef, .undef, .undef, .undef, .undef, .undef, .undef, .undef, .undef, .undef, .undef, .undef, .undef, .undef, .undef, .undef, .undef, .undef, .undef, .undef, .undef, .undef, .undef, .undef, .undef, .undef, .undef, .undef, .undef, .undef, .undef, .undef, .undef, .undef, .undef, .undef, .undef, .undef, .undef, .undef], [(1060, .row 3 r6 true)], [1060], [], []⟩
   (blockK 0 (seqK (joinE Tryz.prog md (joinAt pick_Axis_part_orc (cAt (bodyOf Tryz.prog 57) [1, 0, 1, 0, 1, 1, 1])) (ev Tryz.prog md n pick_Axis_part_orc (cAt (bodyOf Tryz.prog 57) [1, 0, 1, 0, 1, 1, 1]))) (seqK (joinE Tryz.prog md (joinAt pick_Axis_part_orc (cAt (bodyOf Tryz.prog 57) [1, 1])) (ev Tryz.prog md n pick_Axis_part_orc (cAt (bodyOf Tryz.prog 57) [1, 1]))) (retK Tryz.prog md (md 57) pick_Axis_part_ps pick_Axis_part_rs pick_Axis_part_ts))))
noncomputable def pick_Axis_part_l16 (n m16 : Nat) (long1 : Int) (r10 : List D) (t44 : D) (t45 : Int) (t46 : Int) : Tree :=
  evLoop Tryz.prog md (ev Tryz.prog md n pick_Axis_part_orc (cAt (bodyOf Tryz.prog 57) [1, 1, 1, 1, 1, 0, 1, 0, 0])) (orcAt pick_Axis_part_orc 16) m16 ⟨[.undef, .i .i64 long1, .undef, .undef, .undef, .undef, .undef, .undef, .undef, .undef, .row 1160, .undef, .undef, .undef, .undef, .undef, .undef, .undef, .undef, .undef, .undef, .undef, .undef, .undef, .undef, .undef, .undef, .undef, .undef, .undef, .undef, .undef, .undef, .undef, .undef, .undef, .undef, .undef, .undef, .undef, .undef, .undef, .undef, .undef, .d 23 t44, .i .i64 t45, .i .i64 t46, .undef, .undef, .undef, .undef, .undef, .undef, .undef, .undef, .undef, .undef, .undef, .undef, .undef, .undef, .undef, .undef, .undef, .undef], [(1160, .row 3 r10 true)], [1160], [], []⟩
   (blockK 2 (seqK (joinE Tryz.prog md (joinAt pick_Axis_part_orc (cAt (bodyOf Tryz.prog 57) [1, 1, 1, 1, 1, 1])) (ev Tryz.prog md n pick_Axis_part_orc (cAt (bodyOf Tryz.prog 57) [1, 1, 1, 1, 1, 1]))) (retK Tryz.prog md (md 57) pick_Axis_part_ps pick_Axis_part_rs pick_Axis_part_ts)))
theorem pick_Axis_part_l6_succ (n m6 : Nat) (r6 : List D) (t20 : Int) (t21 : Int) : pick_Axis_part_l6 n (m6 + 1) r6 t20 t21 =
 .br (decide (t21 < t20)) (.br (decide (0 ≤ t21)) (.br (decide (t21 < (r6.length : Int))) (pick_Axis_part_l6 n m6 (r6.set (Int.toNat t21) (D.int t21)) t20 (IntKind.wrap .i64 (t21 + 1))) .fail) .fail)
 (.ret [D.sl r6, D.int 0]) := by kernel_rfl
theorem pick_Axis_part_l16_succ (n m16 : Nat) (long1 : Int) (r10 : List D) (t44 : D) (t45 : Int) (t46 : Int) : pick_Axis_part_l16 n (m16 + 1) long1 r10 t44 t45 t46 =
 .br (decide (t46 < t45)) (.br (decide (0 ≤ t46)) (.br (decide (t46 < (t44.els.length : Int))) (.br (decide (((t44.els.getD (Int.toNat t46) D.nil).toInt) < 1)) (.ret [D.sl [], D.int 6])
 (.br (decide (long1 < ((t44.els.getD (Int.toNat t46) D.nil).toInt))) (.ret [D.sl [], D.int 6])
 (.br (decide (0 ≤ t46)) (.br (decide (t46 < (r10.length : Int))) (pick_Axis_part_l16 n m16 long1 (r10.set (Int.toNat t46) (D.int (IntKind.wrap .i64 (((t44.els.getD (Int.toNat t46) D.nil).toInt) - 1)))) t44 t45 (IntKind.wrap .i64 (t46 + 1))) .fail) .fail))) .fail) .fail)
 (.ret [D.sl r10, D.int 0]) := by kernel_rfl
theorem pick_Axis_part_tree (n : Nat) (p0 : D) (long1 : D) : evFun Tryz.prog md pick_Axis_part_orc n 57 [] [p0, long1] =
 .br ((p0.fld 0).toBool) (.br (decide (2048 < long1.toInt)) (.ret [D.sl [], D.int 7])
 (.br (decide (0 ≤ long1.toInt)) (.br (decide (long1.toInt ≤ long1.toInt)) (.br (decide (long1.toInt ≤ bigN)) (pick_Axis_part_l6 n n (List.replicate (Int.toNat long1.toInt) (D.int 0)) ((List.replicate (Int.toNat long1.toInt) (D.int 0)).length : Int) 0) .fail) .fail) .fail))
 (.call 66 [] [(p0.fld 1).fld 2] fun yy1 =>
 .call 40 [] [yy1.getD 0 D.nil] fun yy2 =>
 .br (((yy2.getD 1 D.nil).toInt) != 0) (.ret [D.sl [], D.int ((yy2.getD 1 D.nil).toInt)])
 (.br (decide (0 ≤ (((yy2.getD 0 D.nil).els).length : Int))) (.br (decide ((((yy2.getD 0 D.nil).els).length : Int) ≤ (((yy2.getD 0 D.nil).els).length : Int))) (.br (decide ((((yy2.getD 0 D.nil).els).length : Int) ≤ bigN)) (pick_Axis_part_l16 n n long1.toInt (List.replicate (Int.toNat (((yy2.getD 0 D.nil).els).length : Int)) (D.int 0)) (yy2.getD 0 D.nil) (((yy2.getD 0 D.nil).els).length : Int) 0) .fail) .fail) .fail)) := by kernel_rfl

end Go.Proofs.YtbgcadcpeabpgaaGreat

set_option maxRecDepth 100000
namespace Go.Proofs.YtbgcadcpeabpgaaGreat
/-- The cell at a place of the new shape. -/
def pickJ (a : Arr) (L B : Nat) (fr : List Int) (j : Nat) : Cell := if fr.getD (j / B % fr.length) 0 < 0 then fillC a else a.cells.getD ((j / B / fr.length * L + (fr.getD (j / B % fr.length) 0).toNat) * B + j % B) Cell.none
def rowS (a : Arr) (s : List Nat) (x : Nat) (fr : List Int) (more : Lab) : Arr × Int := if (countS (iN (s.set x fr.length))).2 ≠ 0 then (.none, (countS (iN (s.set x fr.length))).2) else (.mk (a.s ||| more) (iN (s.set x fr.length)) ((List.range (cntN (s.set x fr.length))).map (pickJ a (s.getD x 0) (prodN (s.drop (x + 1))) fr)), 0)
theorem split_at {s : List Nat} {x : Nat} (hx : x < s.length) : s = s.take x ++ s.getD x 0 :: s.drop (x + 1) ∧ (s.take x).length = x := by
  refine ⟨?_, by rw [List.length_take]; omega⟩
  rw [List.getD_eq_getElem?_getD, List.getElem?_eq_getElem hx]
  conv => lhs; rw [← List.take_append_drop x s, List.drop_eq_getElem_cons hx]
  rfl
theorem set_split {s : List Nat} {x F : Nat} (hx : x < s.length) : s.set x F = s.take x ++ F :: s.drop (x + 1) := by
  rw [List.set_eq_take_append_cons_drop, if_pos hx]
theorem prodN_split (A Bl : List Nat) (F : Nat) : prodN (A ++ F :: Bl) = prodN A * (F * prodN Bl) := by rw [prodN_rev]; rfl
/-- The places that are told are none, or stand. -/
def GoodF (L : Nat) (fr : List Int) : Prop := ∀ k ∈ fr, k < 0 ∨ (0 ≤ k ∧ k < (L : Int))
theorem getD_mem {l : List Int} {i : Nat} (h : i < l.length) : l.getD i 0 ∈ l := by
  rw [List.getD_eq_getElem?_getD, List.getElem?_eq_getElem h]; exact List.getElem_mem h
/-- A shape's array: as many cells as the shape says. -/
structure Boxed (a : Arr) (s : List Nat) : Prop where
  ok : (countS (iN s)).2 = 0
  len : a.cells.length = cntN s
theorem cnt_prod {s : List Nat} (h : (countS (iN s)).2 = 0) (hp : ∀ x ∈ s, 1 ≤ x) : cntN s = prodN s := by
  rcases (cntN_cases h).2 with ⟨h0, _⟩ | h1
  · have := hp 0 h0; omega
  · exact h1.2.1
/-! The program's way: row by row. -/
theorem prodS_nat : ∀ (l : List Nat) (p : Nat), p ≤ 2048 → ∃ r : Nat, prodS (iN l) (p : Int) = (r : Int) ∧ r ≤ 2048
  | [], p, h => ⟨p, rfl, h⟩
  | x :: xs, p, h => by
    simp only [iN, List.map_cons, prodS]
    split
    · exact ⟨0, rfl, by omega⟩
    · rename_i h2
      have := prodS_nat xs (p * x) (by have : ((p * x : Nat) : Int) ≤ 2048 := by rw [Int.natCast_mul]; omega
                                       omega)
      simpa [iN] using this
theorem prodS_z0 : ∀ (l : List Nat), prodS (iN l) 0 = 0
  | [] => rfl
  | x :: xs => by
    simp only [iN, List.map_cons, prodS, Int.zero_mul]
    rw [if_neg (by omega)]; exact prodS_z0 xs
theorem prodS_zero : ∀ (l : List Nat) (p : Int), 0 ∈ l → prodS (iN l) p = 0
  | x :: xs, p, h => by
    simp only [iN, List.map_cons, prodS]
    split
    · rfl
    · rcases List.mem_cons.1 h with h | h
      · subst h
        rw [show p * ((0 : Nat) : Int) = 0 by simp]; exact prodS_z0 xs
      · exact prodS_zero xs _ h
theorem prodN_pos : ∀ (l : List Nat), (∀ x ∈ l, 1 ≤ x) → 1 ≤ prodN l
  | [], _ => Nat.le_refl _
  | x :: xs, h => Nat.mul_pos (h x (by simp)) (prodN_pos xs (fun y hy => h y (by simp [hy])))
theorem prodS_full : ∀ (l : List Nat) (p : Nat), (∀ x ∈ l, 1 ≤ x) → p * prodN l ≤ 2048 → prodS (iN l) (p : Int) = ((p * prodN l : Nat) : Int)
  | [], p, _, _ => by simp [iN, prodS, prodN]
  | x :: xs, p, h, hb => by
    have hp := prodN_pos xs (fun y hy => h y (by simp [hy]))
    simp only [prodN, ← Nat.mul_assoc] at hb ⊢
    have h1 : p * x ≤ p * x * prodN xs := Nat.le_mul_of_pos_right _ hp
    have h2 : (p : Int) * (x : Int) = ((p * x : Nat) : Int) := by rw [Int.natCast_mul]
    simp only [iN, List.map_cons, prodS, h2]
    rw [if_neg (by omega)]
    exact prodS_full xs (p * x) (fun y hy => h y (by simp [hy])) hb
theorem flat_congr {α β : Type} {f g : α → List β} : ∀ {l : List α}, (∀ x ∈ l, f x = g x) → l.flatMap f = l.flatMap g
  | [], _ => rfl
  | x :: xs, h => by rw [List.flatMap_cons, List.flatMap_cons, h x (by simp), flat_congr (fun y hy => h y (by simp [hy]))]
theorem flat_range {α : Type} (g : Nat → Nat → α) {m : Nat} (hm : 0 < m) : ∀ n : Nat, (List.range n).flatMap (fun i => (List.range m).map (g i)) = (List.range (n * m)).map (fun q => g (q / m) (q % m))
  | 0 => by simp
  | n + 1 => by
    rw [List.range_succ, List.flatMap_append, flat_range g hm n, Nat.succ_mul, List.range_add, List.map_append, List.map_map]
    congr 1
    simp only [List.flatMap_cons, List.flatMap_nil, List.append_nil]
    refine List.map_congr_left (fun j hj => ?_)
    have hj := List.mem_range.1 hj
    simp only [Function.comp]
    rw [Nat.mul_comm, Nat.mul_add_div hm, Nat.div_eq_of_lt hj, Nat.mul_add_mod, Nat.mod_eq_of_lt hj, Nat.add_zero]
theorem as_range (l : List Int) : l = (List.range l.length).map (fun i => l.getD i 0) := by
  apply List.ext_getElem
  · simp
  · intro i h1 h2
    simp [List.getD_eq_getElem?_getD, List.getElem?_eq_getElem h1]
def piece (a : Arr) (L bh i : Nat) (k : Int) : List Cell := if k < 0 then List.replicate bh (fillC a) else (a.cells.take ((i * L + k.toNat) * bh + bh)).drop ((i * L + k.toNat) * bh)
def rowP (a : Arr) (L bh : Nat) (fr : List Int) (i : Nat) : List Cell := fr.flatMap (piece a L bh i)
def OffOk (a : Arr) (L bh ah : Nat) (fr : List Int) : Prop := ∀ i, i < ah → ∀ k ∈ fr, 0 ≤ k → (i * L + k.toNat) * bh + bh ≤ a.cells.length
theorem piece_map {a : Arr} {L bh i : Nat} {k : Int} (h : 0 ≤ k → (i * L + k.toNat) * bh + bh ≤ a.cells.length) : piece a L bh i k = (List.range bh).map (fun b => if k < 0 then fillC a else a.cells.getD ((i * L + k.toNat) * bh + b) Cell.none) := by
  unfold piece
  split
  · apply List.ext_getElem
    · simp
    · intro j h1 h2; simp
  · have h := h (by omega)
    apply List.ext_getElem
    · simp; omega
    · intro j h1 h2
      simp only [List.length_map, List.length_range] at h2
      rw [List.getElem_drop, List.getElem_take, List.getElem_map, List.getElem_range, List.getD_eq_getElem?_getD, List.getElem?_eq_getElem (by omega)]
      rfl
theorem piece_len {a : Arr} {L bh i : Nat} {k : Int} (h : 0 ≤ k → (i * L + k.toNat) * bh + bh ≤ a.cells.length) : (piece a L bh i k).length = bh := by rw [piece_map h]; simp
theorem flat_len {α β : Type} {f : α → List β} {m : Nat} : ∀ {l : List α}, (∀ x ∈ l, (f x).length = m) → (l.flatMap f).length = l.length * m
  | [], _ => by simp
  | x :: xs, h => by rw [List.flatMap_cons, List.length_append, h x (by simp), flat_len (fun y hy => h y (by simp [hy])), List.length_cons, Nat.succ_mul]; omega
theorem rowP_len {a : Arr} {L bh ah i : Nat} {fr : List Int} (h : OffOk a L bh ah fr) (hi : i < ah) : (rowP a L bh fr i).length = fr.length * bh := flat_len (fun k hk => piece_len (fun h0 => h i hi k hk h0))
theorem rows_eq {a : Arr} {L bh ah : Nat} {fr : List Int} (h : OffOk a L bh ah fr) (hF : 0 < fr.length) (hB : 0 < bh) : (List.range ah).flatMap (rowP a L bh fr) = (List.range (ah * (fr.length * bh))).map (pickJ a L bh fr) := by
  have e1 : ∀ i, i < ah → rowP a L bh fr i = (List.range (fr.length * bh)).map (fun q => if fr.getD (q / bh) 0 < 0 then fillC a else a.cells.getD ((i * L + (fr.getD (q / bh) 0).toNat) * bh + q % bh) Cell.none) := fun i hi => by
    rw [← flat_range (fun m b => if fr.getD m 0 < 0 then fillC a else a.cells.getD ((i * L + (fr.getD m 0).toNat) * bh + b) Cell.none) hB]
    unfold rowP
    conv => lhs; rw [as_range fr]
    rw [List.flatMap_map]
    refine flat_congr (fun m hm => ?_)
    have hm := List.mem_range.1 hm
    exact piece_map (fun h0 => h i hi _ (getD_mem hm) h0)
  have e2 : (List.range ah).flatMap (rowP a L bh fr) = (List.range ah).flatMap (fun i => (List.range (fr.length * bh)).map (fun q => if fr.getD (q / bh) 0 < 0 then fillC a else a.cells.getD ((i * L + (fr.getD (q / bh) 0).toNat) * bh + q % bh) Cell.none)) := flat_congr (fun i hi => e1 i (List.mem_range.1 hi))
  rw [e2, flat_range (fun i q => if fr.getD (q / bh) 0 < 0 then fillC a else a.cells.getD ((i * L + (fr.getD (q / bh) 0).toNat) * bh + q % bh) Cell.none) (Nat.mul_pos hF hB)]
  refine List.map_congr_left (fun j _ => ?_)
  unfold pickJ
  rw [Nat.mul_comm fr.length bh, Nat.mod_mul_right_mod, Nat.mod_mul_right_div_self, ← Nat.div_div_eq_div_mul]
theorem pick_rows_sp (n a : Arr) (s : List Nat) (x : Nat) (fr : List Int) (hn : Fits n) (hb : Boxed a s) (hx : x < s.length) (hf : GoodF (s.getD x 0) fr) (hfl : fr.length ≤ 2048) : Sp 45 [dA n, dA a, dI (iN s), .int (x : Int), dI fr] [dA (rowS a s x fr (totA n)).1, .int (rowS a s x fr (totA n)).2] := by
  have h6 := (cntN_cases hb.ok).1
  have hal : a.cells.length ≤ 2048 := by rw [hb.len]; rcases (cntN_cases hb.ok).2 with h | h <;> omega
  have hwith := shape_With_sp (iN s) (x : Int) (fr.length : Int) (by rw [iN_len]; omega)
  unfold withD at hwith
  rw [if_pos (by rw [iN_len]; omega), Int.toNat_natCast, show (iN s).set x ((fr.length : Nat) : Int) = iN (s.set x fr.length) by unfold iN; rw [List.map_set]] at hwith
  refine sound_ 4096 (pick_rows_tree _ _ _ _ _ _) ?_
  simp only [els_dI, List.length_map, toInt_int]
  refine wp_call hwith (wp_call (shape_Count_sp _) ?_)
  unfold rowS
  simp only [getD_c0, getD_c1, toInt_int, int_bne, dA_none, dC_none']
  refine wp_decs (fun h => wp_ret (by rw [if_pos h])) (fun h => ?_)
  rw [if_neg h]
  have hok := Classical.not_not.1 h
  obtain ⟨sp1, sp2⟩ := split_at hx
  have st := set_split (F := fr.length) hx
  have hcl := countS_le (iN (s.set x fr.length))
  have hcn : (countS (iN (s.set x fr.length))).1 = ((cntN (s.set x fr.length) : Nat) : Int) := by unfold cntN; omega
  obtain ⟨ah, ha, hah⟩ := prodS_nat ((s.set x fr.length).take x) 1 (by decide)
  obtain ⟨bh, hbh, hbl⟩ := prodS_nat ((s.set x fr.length).drop (x + 1)) 1 (by decide)
  have tk : (s.set x fr.length).take x = s.take x := by rw [st, List.take_left' sp2]
  have dr : (s.set x fr.length).drop (x + 1) = s.drop (x + 1) := by
    rw [st, show s.take x ++ fr.length :: s.drop (x + 1) = (s.take x ++ [fr.length]) ++ s.drop (x + 1) by simp, List.drop_left' (by rw [List.length_append, sp2]; rfl)]
  rw [tk] at ha
  rw [dr] at hbh
  have haround := shape_Around_sp (iN (s.set x fr.length)) (x : Int)
  unfold aroundD at haround
  rw [if_pos ⟨hok, by omega, by rw [iN_len, List.length_set]; omega⟩, Int.toNat_natCast, show (iN (s.set x fr.length)).take x = iN (s.take x) by unfold iN; rw [← List.map_take, tk], show (iN (s.set x fr.length)).drop (x + 1) = iN (s.drop (x + 1)) by unfold iN; rw [← List.map_drop, dr], show (1 : Int) = ((1 : Nat) : Int) from rfl, ha, hbh] at haround
  have hL : s.getD x 0 ≤ 2048 := by
    have hm : s.getD x 0 ∈ s := by rw [List.getD_eq_getElem?_getD, List.getElem?_eq_getElem hx]; exact List.getElem_mem hx
    have := (countS_len hb.ok).2 ((s.getD x 0 : Nat) : Int) (List.mem_map.2 ⟨_, hm, rfl⟩)
    omega
  -- what holds of the numbers
  have facts : OffOk a (s.getD x 0) bh ah fr ∧ ah * (fr.length * bh) = cntN (s.set x fr.length) ∧ (List.range ah).flatMap (rowP a (s.getD x 0) bh fr) = (List.range (cntN (s.set x fr.length))).map (pickJ a (s.getD x 0) (prodN (s.drop (x + 1))) fr) := by
    rcases (cntN_cases hok).2 with ⟨hz, hc0⟩ | ⟨hpos, hcp, hc1, hc2⟩
    · have prod0 : ah = 0 ∨ fr.length = 0 ∨ bh = 0 := by
        rw [st] at hz
        rcases List.mem_append.1 hz with hz | hz
        · left; have := prodS_zero _ 1 hz; rw [show (1 : Int) = ((1 : Nat) : Int) from rfl, ha] at this; omega
        · rcases List.mem_cons.1 hz with hz | hz
          · right; left; exact hz.symm
          · right; right; have := prodS_zero _ 1 hz; rw [show (1 : Int) = ((1 : Nat) : Int) from rfl, hbh] at this; omega
      have off : OffOk a (s.getD x 0) bh ah fr := fun i hi k hk h0 => by
        have : 0 < fr.length := List.length_pos_of_mem hk
        have hb0 : bh = 0 := by omega
        rw [hb0]; simp
      have prod1 : ah * (fr.length * bh) = 0 := by
        rcases prod0 with h | h | h <;> rw [h] <;> simp
      refine ⟨off, by omega, ?_⟩
      rw [hc0]
      apply List.eq_nil_of_length_eq_zero
      rw [flat_len (m := fr.length * bh) (fun i hi => rowP_len off (List.mem_range.1 hi)), List.length_range]
      exact prod1
    · have hpA : ∀ y ∈ s.take x, 1 ≤ y := fun y hy => (hpos y (by rw [st]; simp [hy])).1
      have hpB : ∀ y ∈ s.drop (x + 1), 1 ≤ y := fun y hy => (hpos y (by rw [st]; simp [hy])).1
      have hF : 0 < fr.length := (hpos _ (by rw [st]; simp)).1
      have hA1 := prodN_pos _ hpA
      have hB1 := prodN_pos _ hpB
      have hcs : cntN (s.set x fr.length) = prodN (s.take x) * (fr.length * prodN (s.drop (x + 1))) := by rw [hcp, st, prodN_split]
      have m1 : prodN (s.take x) ≤ prodN (s.take x) * (fr.length * prodN (s.drop (x + 1))) := Nat.le_mul_of_pos_right _ (Nat.mul_pos hF hB1)
      have m2 : prodN (s.drop (x + 1)) ≤ prodN (s.take x) * (fr.length * prodN (s.drop (x + 1))) := by
        rw [← Nat.mul_assoc]; exact Nat.le_mul_of_pos_left _ (Nat.mul_pos hA1 hF)
      have eA := prodS_full (s.take x) 1 hpA (by omega)
      have eB := prodS_full (s.drop (x + 1)) 1 hpB (by omega)
      rw [ha, Nat.one_mul] at eA
      rw [hbh, Nat.one_mul] at eB
      have eA' : ah = prodN (s.take x) := by omega
      have eB' : bh = prodN (s.drop (x + 1)) := by omega
      have off : OffOk a (s.getD x 0) bh ah fr := fun i hi k hk h0 => by
        have hkl := hf k hk
        have hkL : k.toNat < s.getD x 0 := by omega
        have hsp : ∀ y ∈ s, 1 ≤ y := fun y hy => by
          rw [sp1] at hy
          rcases List.mem_append.1 hy with hy | hy
          · exact hpA y hy
          · rcases List.mem_cons.1 hy with rfl | hy
            · omega
            · exact hpB y hy
        have hsc := cnt_prod hb.ok hsp
        rw [hb.len, hsc]
        conv => rhs; rw [sp1]
        rw [prodN_split, ← eA', ← eB']
        have h1 : (i * s.getD x 0 + k.toNat) * bh + bh = (i * s.getD x 0 + k.toNat + 1) * bh := by rw [Nat.add_mul (i * s.getD x 0 + k.toNat) 1, Nat.one_mul]
        have h2 : i * s.getD x 0 + k.toNat + 1 ≤ (i + 1) * s.getD x 0 := by rw [Nat.add_mul, Nat.one_mul]; omega
        have h3 : (i + 1) * s.getD x 0 ≤ ah * s.getD x 0 := Nat.mul_le_mul_right _ hi
        rw [h1, ← Nat.mul_assoc]
        exact Nat.mul_le_mul_right _ (Nat.le_trans h2 h3)
      refine ⟨off, by rw [eA', eB', hcs], ?_⟩
      rw [rows_eq off hF (by omega), eA', eB', hcs]
  obtain ⟨off, hprod, hrows⟩ := facts
  have hcl2 : cntN (s.set x fr.length) ≤ 2048 := by omega
  refine wp_call haround (wp_call (array_Fill_sp a) ?_)
  simp only [getD_c0, toInt_int, hcn]
  refine wp_dec (by omega) (wp_dec (by omega) (wp_dec (by simp only [bigN]; omega) ?_))
  have lens : ∀ i, i ≤ ah → ((List.range i).flatMap (rowP a (s.getD x 0) bh fr)).length = i * (fr.length * bh) := fun i hi => by
    rw [flat_len (m := fr.length * bh) (fun j hj => rowP_len off (by have := List.mem_range.1 hj; omega)), List.length_range]
  have gL : ((iN s).map D.int).getD x D.nil = D.int ((s.getD x 0 : Nat) : Int) := by
    rw [iN_D, getD_map (List.getElem?_eq_getElem hx), List.getD_eq_getElem?_getD, List.getElem?_eq_getElem hx]; rfl
  have key := loop_up (P := Tryz.prog) (md := md) ah (fun m i (_ : Unit) => pick_rows_l9 4096 m (dI (iN s)) (x : Int) (dI fr) (dI (iN (s.set x fr.length))) (bh : Int) (((List.range i).flatMap (rowP a (s.getD x 0) bh fr)).map dC) (ah : Int) (i : Int) (dA n) (dA a) 0 (dC (fillC a))) (fun _ _ => [dA (.mk (a.s ||| totA n) (iN (s.set x fr.length)) ((List.range ah).flatMap (rowP a (s.getD x 0) bh fr))), .int 0]) (fun _ _ => True)
    (fun m t _ => by
      simp only [pick_rows_l9_succ, dA_0]
      refine wp_ndec (by omega) (wp_call (array_Total_sp n hn) ?_)
      simp only [getD_c0, toInt_dB, dInt_dB]
      refine wp_call (label_Join_sp a.s _) (wp_ret ?_)
      simp only [getD_c0, toInt_dB, dInt_dB]
      rw [dA_eq]; rfl)
    (fun m i t hi _ ih => by
      have ih := ih () trivial
      rw [List.range_succ, List.flatMap_append, List.flatMap_cons, List.flatMap_nil, List.append_nil] at ih
      simp only [pick_rows_l9_succ, els_dI, List.length_map]
      refine wp_dec (by omega) ?_
      have hli := lens i (by omega)
      have hli1 := lens (i + 1) (by omega)
      have hle1 : (i + 1) * (fr.length * bh) ≤ ah * (fr.length * bh) := Nat.mul_le_mul_right _ hi
      rw [Nat.succ_mul] at hle1
      have key2 := loop_list (P := Tryz.prog) (md := md) fr (fun q k (cs : List Cell) => pick_rows_l12 4096 m q (dI (iN s)) (x : Int) (dI fr) (dI (iN (s.set x fr.length))) (bh : Int) (cs.map dC) (i : Int) (ah : Int) (i : Int) (dI fr) (fr.length : Int) (k : Int) (dA n) (dA a) 0 (dC (fillC a))) (fun _ _ => [dA (.mk (a.s ||| totA n) (iN (s.set x fr.length)) ((List.range ah).flatMap (rowP a (s.getD x 0) bh fr))), .int 0]) (fun rest cs => cs ++ rest.flatMap (piece a (s.getD x 0) bh i) = (List.range i).flatMap (rowP a (s.getD x 0) bh fr) ++ rowP a (s.getD x 0) bh fr i)
        (fun q k cs hk hI => by
          rw [List.flatMap_nil, List.append_nil] at hI
          simp only [pick_rows_l12_succ, wrap_succ (show i < 9223372036854775807 by omega)]
          rw [hI]
          exact wp_ndec (by omega) ih)
        (fun q k cs z rest hd hI ih' => by
          obtain ⟨h1, h2, h3⟩ := drop_cons hd
          have hz := List.mem_of_getElem? h2
          rw [List.flatMap_cons, ← List.append_assoc] at hI
          have ih' := ih' (cs ++ piece a (s.getD x 0) bh i z) hI
          have hpl := piece_len (a := a) (L := s.getD x 0) (bh := bh) (i := i) (k := z) (fun h0 => off i hi z hz h0)
          have htl : cs.length + bh ≤ 2048 := by
            have := congrArg List.length hI
            simp only [List.length_append, hli, rowP_len off hi, hpl] at this
            omega
          rw [List.map_append] at ih'
          simp only [pick_rows_l12_succ, els_dI, List.length_map, Int.toNat_natCast, getD_map h2, toInt_int, wrap_succ (show k < 9223372036854775807 by omega), gL]
          refine wp_dec (by omega) (wp_dec (by omega) (wp_dec (by omega) (wp_decs (fun g => ?_) (fun g => ?_))))
          · have e : piece a (s.getD x 0) bh i z = List.replicate bh (fillC a) := by unfold piece; rw [if_pos g]
            rw [e, List.map_replicate] at ih'
            refine wp_call (repeatC_sp bh (fillC a) (by omega)) (wp_dec (by simp only [getD_c0, els_sl, List.length_replicate, bigN]; omega) ?_)
            exact ih'
          · obtain ⟨Z, rfl⟩ : ∃ Z : Nat, z = (Z : Int) := ⟨z.toNat, by omega⟩
            have ho := off i hi _ hz (by omega)
            have e : piece a (s.getD x 0) bh i (Z : Int) = (a.cells.take ((i * s.getD x 0 + Z) * bh + bh)).drop ((i * s.getD x 0 + Z) * bh) := by unfold piece; rw [if_neg g, Int.toNat_natCast]
            rw [e, List.map_drop, List.map_take] at ih'
            rw [Int.toNat_natCast] at ho
            have hil : i * s.getD x 0 ≤ 2048 * 2048 := Nat.mul_le_mul (by omega) hL
            have hZ := hf _ hz
            have w1 : IntKind.wrap .i64 ((i : Int) * ((s.getD x 0 : Nat) : Int)) = ((i * s.getD x 0 : Nat) : Int) := by rw [← Int.natCast_mul, wrap64 (by omega) (by omega)]
            have w2 : IntKind.wrap .i64 (((i * s.getD x 0 : Nat) : Int) + (Z : Int)) = ((i * s.getD x 0 + Z : Nat) : Int) := by rw [wrap64 (by omega) (by omega)]; rfl
            have w3 : IntKind.wrap .i64 (((i * s.getD x 0 + Z : Nat) : Int) * (bh : Int)) = (((i * s.getD x 0 + Z) * bh : Nat) : Int) := by rw [← Int.natCast_mul, wrap64 (by omega) (by omega)]
            have w4 : IntKind.wrap .i64 ((((i * s.getD x 0 + Z) * bh : Nat) : Int) + (bh : Int)) = (((i * s.getD x 0 + Z) * bh + bh : Nat) : Int) := by rw [wrap64 (by omega) (by omega)]; rfl
            simp only [w1, w2, w3, w4, Int.toNat_natCast, dA_2, els_sl, List.length_map]
            have hdl : (((a.cells.map dC).take ((i * s.getD x 0 + Z) * bh + bh)).drop ((i * s.getD x 0 + Z) * bh)).length = bh := by rw [List.length_drop, List.length_take, List.length_map]; omega
            simp only [hdl]
            refine wp_dec (by omega) (wp_dec (by rw [iN_len]; omega) (wp_dec (by omega) (wp_dec (by omega) (wp_dec (by omega) (wp_dec (by simp only [bigN]; omega) ?_)))))
            exact ih')
        4096 0 ((List.range i).flatMap (rowP a (s.getD x 0) bh fr)) (by omega) (by omega) (by rw [List.drop_zero]; rfl)
      exact key2)
    4096 0 () (by omega) (by omega) trivial
  rw [hrows] at key
  exact key
end Go.Proofs.YtbgcadcpeabpgaaGreat

