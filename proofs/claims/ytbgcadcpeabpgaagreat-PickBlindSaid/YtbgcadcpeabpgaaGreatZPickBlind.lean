/- Proved: for any four arrays, the law PickBlind returns true and changes nothing. No condition. -/
import Derived.Test.YtbgcadcpeabpgaaGreatRows
import Derived.WalkKit
import Derived.WalkSpells
import Derived.WalkLawsBesides
import Derived.Lib.Hide
import Derived.Laws.CopyOwn
import Derived.Deep.QuietTactic
import Derived.BigQuiet
import Derived.Orders
import Derived.Defers
import Derived.Recover
import Derived.Test.YtbgcadcpeabpgaaGreatProg
import Derived.KernelRfl
import Derived.ProofKit
import Derived.OpenShut
import Derived.Test.YtbgcadcpeabpgaaGreatZ90aa7f48
set_option linter.unusedSimpArgs false
set_option linter.unusedVariables false
set_option maxRecDepth 100000
namespace Go.Proofs.YtbgcadcpeabpgaaGreat
/-- The cell at a place of the new shape. -/
def pickJ (a : Arr) (L B : Nat) (fr : List Int) (j : Nat) : Cell := if fr.getD (j / B % fr.length) 0 < 0 then fillC a else a.cells.getD ((j / B / fr.length * L + (fr.getD (j / B % fr.length) 0).toNat) * B + j % B) Cell.none
def rowS (a : Arr) (s : List Nat) (x : Nat) (fr : List Int) (more : Lab) : Arr × Int := if (countS (iN (s.set x fr.length))).2 ≠ 0 then (.none, (countS (iN (s.set x fr.length))).2) else (.mk (a.s ||| more) (iN (s.set x fr.length)) ((List.range (cntN (s.set x fr.length))).map (pickJ a (s.getD x 0) (prodN (s.drop (x + 1))) fr)), 0)
theorem atN_split (A Bl : List Nat) (F j : Nat) : atN (A ++ F :: Bl) j = (digN A.reverse (j / prodN Bl / F)).reverse ++ (j / prodN Bl % F) :: (digN Bl.reverse j).reverse := by
  unfold atN
  rw [List.reverse_append, List.reverse_cons, List.append_assoc, digN_app, prodN_reverse]
  simp [digN]
theorem split_at {s : List Nat} {x : Nat} (hx : x < s.length) : s = s.take x ++ s.getD x 0 :: s.drop (x + 1) ∧ (s.take x).length = x := by
  refine ⟨?_, by rw [List.length_take]; omega⟩
  rw [List.getD_eq_getElem?_getD, List.getElem?_eq_getElem hx]
  conv => lhs; rw [← List.take_append_drop x s, List.drop_eq_getElem_cons hx]
  rfl
theorem set_split {s : List Nat} {x F : Nat} (hx : x < s.length) : s.set x F = s.take x ++ F :: s.drop (x + 1) := by
  rw [List.set_eq_take_append_cons_drop, if_pos hx]
theorem prodN_split (A Bl : List Nat) (F : Nat) : prodN (A ++ F :: Bl) = prodN A * (F * prodN Bl) := by rw [prodN_rev]; rfl
/-- A place of the new shape, with another number along the axis, is a place of the old one. -/
theorem place_old {A Bl : List Nat} {F L j k : Nat} (hj : j < prodN (A ++ F :: Bl)) (hk : k < L) :
    (atN (A ++ F :: Bl) j).getD A.length 0 = j / prodN Bl % F ∧ (atN (A ++ F :: Bl) j).set A.length k = atN (A ++ L :: Bl) ((j / prodN Bl / F * L + k) * prodN Bl + j % prodN Bl) ∧ (j / prodN Bl / F * L + k) * prodN Bl + j % prodN Bl < prodN (A ++ L :: Bl) := by
  rw [prodN_split] at hj
  have hB : 0 < prodN Bl := by
    rcases Nat.eq_zero_or_pos (prodN Bl) with h | h
    · rw [h] at hj; simp at hj
    · exact h
  have hF : 0 < F := by
    rcases Nat.eq_zero_or_pos F with h | h
    · rw [h] at hj; simp at hj
    · exact h
  have hb := Nat.mod_lt j hB
  have hl : ((digN A.reverse (j / prodN Bl / F)).reverse).length = A.length := by simp [digN_len]
  have e1 : ((j / prodN Bl / F * L + k) * prodN Bl + j % prodN Bl) / prodN Bl = j / prodN Bl / F * L + k := by
    rw [Nat.mul_comm, Nat.mul_add_div hB, Nat.div_eq_of_lt hb, Nat.add_zero]
  have e2 : ((j / prodN Bl / F * L + k) * prodN Bl + j % prodN Bl) % prodN Bl = j % prodN Bl := by
    rw [Nat.mul_comm, Nat.mul_add_mod, Nat.mod_mod]
  have e3 : (j / prodN Bl / F * L + k) % L = k := by rw [Nat.mul_comm, Nat.mul_add_mod, Nat.mod_eq_of_lt hk]
  have e4 : (j / prodN Bl / F * L + k) / L = j / prodN Bl / F := by rw [Nat.mul_comm, Nat.mul_add_div (by omega), Nat.div_eq_of_lt hk, Nat.add_zero]
  have e5 : digN Bl.reverse ((j / prodN Bl / F * L + k) * prodN Bl + j % prodN Bl) = digN Bl.reverse j := by
    rw [← digN_mod Bl.reverse ((j / prodN Bl / F * L + k) * prodN Bl + j % prodN Bl), ← digN_mod Bl.reverse j, prodN_reverse, e2]
  refine ⟨?_, ?_, ?_⟩
  · rw [atN_split, List.getD_eq_getElem?_getD, List.getElem?_append_right (by omega), hl, Nat.sub_self]; rfl
  · rw [atN_split, atN_split, e1, e3, e4, e5, List.set_append_right _ _ (by omega), hl, Nat.sub_self]; rfl
  · have hq : j / prodN Bl / F < prodN A := by
      rw [Nat.div_div_eq_div_mul]
      refine Nat.div_lt_of_lt_mul ?_
      rw [Nat.mul_comm (prodN Bl) F, Nat.mul_comm (F * prodN Bl)]; exact hj
    rw [prodN_split]
    generalize j / prodN Bl / F = q at *
    have h1 : (q * L + k) * prodN Bl + j % prodN Bl < (q * L + k + 1) * prodN Bl := by rw [Nat.add_mul (q * L + k) 1, Nat.one_mul]; omega
    have h2 : q * L + k + 1 ≤ (q + 1) * L := by rw [Nat.add_mul, Nat.one_mul]; omega
    have h3 : (q * L + k + 1) * prodN Bl ≤ ((q + 1) * L) * prodN Bl := Nat.mul_le_mul_right _ h2
    have h4 : ((q + 1) * L) * prodN Bl ≤ (prodN A * L) * prodN Bl := Nat.mul_le_mul_right _ (Nat.mul_le_mul_right _ hq)
    rw [← Nat.mul_assoc]
    omega
/-- The places that are told are none, or stand. -/
def GoodF (L : Nat) (fr : List Int) : Prop := ∀ k ∈ fr, k < 0 ∨ (0 ≤ k ∧ k < (L : Int))
theorem getD_mem {l : List Int} {i : Nat} (h : i < l.length) : l.getD i 0 ∈ l := by
  rw [List.getD_eq_getElem?_getD, List.getElem?_eq_getElem h]; exact List.getElem_mem h
/-- A shape's array: as many cells as the shape says. -/
structure Boxed (a : Arr) (s : List Nat) : Prop where
  ok : (countS (iN s)).2 = 0
  len : a.cells.length = cntN s
theorem cnt_prod {s : List Nat} (h : (countS (iN s)).2 = 0) (hp : ∀ x ∈ s, 1 ≤ x) : cntN s = prodN s := by
  rcases (cntN_cases h).2 with ⟨h0, _⟩ | h1
  · have := hp 0 h0; omega
  · exact h1.2.1
theorem pos_of_cnt {s : List Nat} (h : (countS (iN s)).2 = 0) (hc : 0 < cntN s) : (∀ x ∈ s, 1 ≤ x) ∧ cntN s = prodN s ∧ cntN s ≤ 2048 := by
  rcases (cntN_cases h).2 with ⟨_, h0⟩ | h1
  · omega
  · exact ⟨fun x hx => (h1.1 x hx).1, h1.2.1, h1.2.2.2⟩
theorem chosen_sp (a : Arr) (s : List Nat) (x : Nat) (fr : List Int) (more : Lab) (hb : Boxed a s) (hx : x < s.length) (hf : GoodF (s.getD x 0) fr) (hfl : fr.length ≤ 2048) (hFill : Sp 90 [dA (.mk a.s (iN s) a.cells)] [dC (fillC a)]) : Sp 47 [dA (.mk a.s (iN s) a.cells), .int (x : Int), dI fr, dB more] [dA (rowS a s x fr more).1, .int (rowS a s x fr more).2] := by
  have h6 := (cntN_cases hb.ok).1
  refine sound_ 4096 (ref15_chosen_tree _ _ _ _ _) ?_
  simp only [dA_1, dA_0, Arr.shape_mk, Arr.s_mk, toInt_int, els_dI, List.length_map, toInt_dB, dInt_dB]
  refine wp_call (ref07_With_sp s x fr.length hx (by omega)) (wp_call (ref07_Count_sp _) ?_)
  unfold rowS
  simp only [getD_c0, getD_c1, toInt_int, int_bne, dA_none]
  refine wp_decs (fun h => wp_ret (by rw [if_pos h])) (fun h => ?_)
  rw [if_neg h]
  have hok := Classical.not_not.1 h
  refine wp_call (ref01_Join_sp a.s more) (wp_call (ref07_Places_sp _) ?_)
  simp only [getD_c0, toInt_dB, dInt_dB]
  have hple : plcN (s.set x fr.length) = (List.range (cntN (s.set x fr.length))).map (atN (s.set x fr.length)) := by unfold plcN; rw [if_pos hok]
  rw [hple]
  have hcl : cntN (s.set x fr.length) ≤ 2048 := by rcases (cntN_cases hok).2 with h | h <;> omega
  obtain ⟨sp1, sp2⟩ := split_at hx
  have st := set_split (F := fr.length) hx
  have key := loop_up (P := Tryz.prog) (md := md) (cntN (s.set x fr.length)) (fun m j (_ : Unit) => ref15_chosen_l8 4096 m (x : Int) (dI fr) (.sl (((List.range (cntN (s.set x fr.length))).map (atN (s.set x fr.length))).map (fun p => dI (iN p)))) (j : Int) (dA (.mk a.s (iN s) a.cells)) 0 ((a.s ||| more).toNat : Int) (dI (iN (s.set x fr.length))) (((List.range j).map (pickJ a (s.getD x 0) (prodN (s.drop (x + 1))) fr)).map dC)) (fun _ _ => [dA (.mk (a.s ||| more) (iN (s.set x fr.length)) ((List.range (cntN (s.set x fr.length))).map (pickJ a (s.getD x 0) (prodN (s.drop (x + 1))) fr))), .int 0]) (fun _ _ => True)
    (fun m t _ => by
      simp only [ref15_chosen_l8_succ, els_sl, List.length_map, List.length_range]
      exact wp_ndec (by omega) (wp_ret (by rw [dA_eq]; rfl)))
    (fun m j t hj _ ih => by
      have ih := ih () trivial
      rw [List.range_succ, List.map_append, List.map_append, List.map_cons, List.map_nil, List.map_cons, List.map_nil] at ih
      obtain ⟨hpos, hcp, _⟩ := pos_of_cnt hok (by omega)
      have hj2 : j < prodN (s.take x ++ fr.length :: s.drop (x + 1)) := by rw [← st, ← hcp]; exact hj
      have hFp : 0 < fr.length := by
        have := hpos fr.length (by rw [st]; simp)
        omega
      have hmlt := Nat.mod_lt (j / prodN (s.drop (x + 1))) hFp
      have hk := hf _ (getD_mem hmlt)
      have gp : (((List.range (cntN (s.set x fr.length))).map (atN (s.set x fr.length))).map (fun p => dI (iN p))).getD j D.nil = dI (iN (atN (s.set x fr.length) j)) := by
        rw [List.map_map, getD_map (List.getElem?_range hj)]; rfl
      have pl : (atN (s.set x fr.length) j).length = s.length := by rw [atN_len, List.length_set]
      have px : (atN (s.set x fr.length) j).getD x 0 = j / prodN (s.drop (x + 1)) % fr.length := by
        have := (place_old (L := 1) (k := 0) hj2 (by decide)).1
        rw [sp2, ← st] at this; exact this
      have gx : ((atN (s.set x fr.length) j).map dP).getD x D.nil = dP (j / prodN (s.drop (x + 1)) % fr.length) := by
        rw [← px, getD_map (List.getElem?_eq_getElem (show x < (atN (s.set x fr.length) j).length by omega)), List.getD_eq_getElem?_getD, List.getElem?_eq_getElem (show x < (atN (s.set x fr.length) j).length by omega)]; rfl
      have gf : (fr.map D.int).getD (j / prodN (s.drop (x + 1)) % fr.length) D.nil = D.int (fr.getD (j / prodN (s.drop (x + 1)) % fr.length) 0) := getD_int hmlt
      simp only [ref15_chosen_l8_succ, els_sl, els_dI, iN_D, List.length_map, List.length_range, Int.toNat_natCast, gp, gx, dP_int, gf, toInt_int, pl, wrap_succ (show j < 9223372036854775807 by omega), List.length_cons, List.length_nil]
      refine wp_dec (by omega) (wp_dec (by omega) (wp_dec (by omega) (wp_dec (by omega) (wp_dec (by omega) (wp_dec (by omega) (wp_dec (by omega) (wp_decs (fun g => ?_) (fun g => ?_))))))))
      · have e : pickJ a (s.getD x 0) (prodN (s.drop (x + 1))) fr j = fillC a := by unfold pickJ; rw [if_pos g]
        rw [e] at ih
        refine wp_call hFill (wp_dec (by simp only [bigN]; omega) ?_)
        exact ih
      · obtain ⟨K, hK⟩ : ∃ K : Nat, fr.getD (j / prodN (s.drop (x + 1)) % fr.length) 0 = (K : Int) := ⟨_, (Int.toNat_of_nonneg (by omega)).symm⟩
        have hKL : K < s.getD x 0 := by omega
        obtain ⟨_, q2, q3⟩ := place_old hj2 hKL
        rw [sp2, ← st, ← sp1] at q2
        rw [← sp1] at q3
        have hsp : ∀ y ∈ s, 1 ≤ y := fun y hy => by
          rw [sp1] at hy
          rcases List.mem_append.1 hy with hy | hy
          · exact hpos y (by rw [st]; simp [hy])
          · rcases List.mem_cons.1 hy with rfl | hy
            · omega
            · exact hpos y (by rw [st]; simp [hy])
        have hsc := cnt_prod hb.ok hsp
        have e : pickJ a (s.getD x 0) (prodN (s.drop (x + 1))) fr j = a.cells.getD ((j / prodN (s.drop (x + 1)) / fr.length * s.getD x 0 + K) * prodN (s.drop (x + 1)) + j % prodN (s.drop (x + 1))) Cell.none := by unfold pickJ; rw [if_neg g, hK, Int.toNat_natCast]
        rw [e] at ih
        generalize (j / prodN (s.drop (x + 1)) / fr.length * s.getD x 0 + K) * prodN (s.drop (x + 1)) + j % prodN (s.drop (x + 1)) = J at *
        have hJ : J < a.cells.length := by rw [hb.len, hsc]; exact q3
        have w1 := ref07_With_sp (atN (s.set x fr.length) j) x K (by omega) (by omega)
        rw [q2] at w1
        have w2 := ref07_Index_sp s (atN s J) (by rw [atN_len]; omega)
        rw [fid_plc hb.ok (by rw [← hb.len]; exact hJ)] at w2
        rw [hK]
        have gc : (a.cells.map dC).getD J D.nil = dC (a.cells.getD J Cell.none) := by
          rw [getD_map (List.getElem?_eq_getElem hJ), List.getD_eq_getElem?_getD, List.getElem?_eq_getElem hJ]; rfl
        refine wp_dec (by omega) (wp_dec (by omega) (wp_call w1 ?_))
        simp only [dA_1, Arr.shape_mk, getD_c0]
        refine wp_call w2 ?_
        simp only [getD_c0, toInt_int, Int.toNat_natCast, dA_2, Arr.cells_mk, els_sl, List.length_map, gc]
        refine wp_dec (by omega) (wp_dec (by omega) (wp_dec (by simp only [bigN]; omega) ?_))
        exact ih)
    4096 0 () (by omega) (by omega) trivial
  simpa using key
theorem ref08_Fill_sp (a : Arr) : Sp 90 [dA a] [dC (fillC a)] := by
  refine sound_ 0 (ref08_Fill_tree _ _) ?_
  simp only [dA_2, els_sl, List.length_map, int_beq]
  unfold fillC
  refine wp_decs (fun h => ?_) (fun h => ?_)
  · have : a.cells = [] := List.length_eq_zero_iff.1 (by omega)
    rw [this]
    exact wp_call (ref08_Int_sp 0 inR0) (wp_ret rfl)
  · match hc : a.cells with
    | [] => rw [hc] at h; simp at h
    | c :: cs =>
      refine wp_call (ref08_Int_sp 0 inR0) ?_
      simp only [List.map_cons, List.length_cons, Int.toNat_zero, getD_c0, dC_0, dC_1, dC_2, dC_3, dC_4, toInt_dB, toInt_int]
      refine wp_dec (by omega) (wp_dec (by omega) (wp_decs (fun g => wp_dec (by omega) (wp_dec (by omega) (wp_ret ?_))) (fun g => wp_dec (by omega) (wp_dec (by omega) (wp_ret ?_)))))
      · rw [if_pos g, dC_eq, dInt_dB]; rfl
      · rw [if_neg g, dC_eq, dInt_dB]; rfl
/-! The program's way: row by row. -/
theorem prodS_nat : ∀ (l : List Nat) (p : Nat), p ≤ 2048 → ∃ r : Nat, prodS (iN l) (p : Int) = (r : Int) ∧ r ≤ 2048
  | [], p, h => ⟨p, rfl, h⟩
  | x :: xs, p, h => by
    simp only [iN, List.map_cons, prodS]
    split
    · exact ⟨0, rfl, by omega⟩
    · rename_i h2
      have := prodS_nat xs (p * x) (by have : ((p * x : Nat) : Int) ≤ 2048 := by rw [Int.natCast_mul]; omega
                                       omega)
      simpa [iN] using this
theorem prodS_z0 : ∀ (l : List Nat), prodS (iN l) 0 = 0
  | [] => rfl
  | x :: xs => by
    simp only [iN, List.map_cons, prodS, Int.zero_mul]
    rw [if_neg (by omega)]; exact prodS_z0 xs
theorem prodS_zero : ∀ (l : List Nat) (p : Int), 0 ∈ l → prodS (iN l) p = 0
  | x :: xs, p, h => by
    simp only [iN, List.map_cons, prodS]
    split
    · rfl
    · rcases List.mem_cons.1 h with h | h
      · subst h
        rw [show p * ((0 : Nat) : Int) = 0 by simp]; exact prodS_z0 xs
      · exact prodS_zero xs _ h
theorem prodN_pos : ∀ (l : List Nat), (∀ x ∈ l, 1 ≤ x) → 1 ≤ prodN l
  | [], _ => Nat.le_refl _
  | x :: xs, h => Nat.mul_pos (h x (by simp)) (prodN_pos xs (fun y hy => h y (by simp [hy])))
theorem prodS_full : ∀ (l : List Nat) (p : Nat), (∀ x ∈ l, 1 ≤ x) → p * prodN l ≤ 2048 → prodS (iN l) (p : Int) = ((p * prodN l : Nat) : Int)
  | [], p, _, _ => by simp [iN, prodS, prodN]
  | x :: xs, p, h, hb => by
    have hp := prodN_pos xs (fun y hy => h y (by simp [hy]))
    simp only [prodN, ← Nat.mul_assoc] at hb ⊢
    have h1 : p * x ≤ p * x * prodN xs := Nat.le_mul_of_pos_right _ hp
    have h2 : (p : Int) * (x : Int) = ((p * x : Nat) : Int) := by rw [Int.natCast_mul]
    simp only [iN, List.map_cons, prodS, h2]
    rw [if_neg (by omega)]
    exact prodS_full xs (p * x) (fun y hy => h y (by simp [hy])) hb
theorem flat_congr {α β : Type} {f g : α → List β} : ∀ {l : List α}, (∀ x ∈ l, f x = g x) → l.flatMap f = l.flatMap g
  | [], _ => rfl
  | x :: xs, h => by rw [List.flatMap_cons, List.flatMap_cons, h x (by simp), flat_congr (fun y hy => h y (by simp [hy]))]
theorem flat_range {α : Type} (g : Nat → Nat → α) {m : Nat} (hm : 0 < m) : ∀ n : Nat, (List.range n).flatMap (fun i => (List.range m).map (g i)) = (List.range (n * m)).map (fun q => g (q / m) (q % m))
  | 0 => by simp
  | n + 1 => by
    rw [List.range_succ, List.flatMap_append, flat_range g hm n, Nat.succ_mul, List.range_add, List.map_append, List.map_map]
    congr 1
    simp only [List.flatMap_cons, List.flatMap_nil, List.append_nil]
    refine List.map_congr_left (fun j hj => ?_)
    have hj := List.mem_range.1 hj
    simp only [Function.comp]
    rw [Nat.mul_comm, Nat.mul_add_div hm, Nat.div_eq_of_lt hj, Nat.mul_add_mod, Nat.mod_eq_of_lt hj, Nat.add_zero]
theorem as_range (l : List Int) : l = (List.range l.length).map (fun i => l.getD i 0) := by
  apply List.ext_getElem
  · simp
  · intro i h1 h2
    simp [List.getD_eq_getElem?_getD, List.getElem?_eq_getElem h1]
def piece (a : Arr) (L bh i : Nat) (k : Int) : List Cell := if k < 0 then List.replicate bh (fillC a) else (a.cells.take ((i * L + k.toNat) * bh + bh)).drop ((i * L + k.toNat) * bh)
def rowP (a : Arr) (L bh : Nat) (fr : List Int) (i : Nat) : List Cell := fr.flatMap (piece a L bh i)
def OffOk (a : Arr) (L bh ah : Nat) (fr : List Int) : Prop := ∀ i, i < ah → ∀ k ∈ fr, 0 ≤ k → (i * L + k.toNat) * bh + bh ≤ a.cells.length
theorem piece_map {a : Arr} {L bh i : Nat} {k : Int} (h : 0 ≤ k → (i * L + k.toNat) * bh + bh ≤ a.cells.length) : piece a L bh i k = (List.range bh).map (fun b => if k < 0 then fillC a else a.cells.getD ((i * L + k.toNat) * bh + b) Cell.none) := by
  unfold piece
  split
  · apply List.ext_getElem
    · simp
    · intro j h1 h2; simp
  · have h := h (by omega)
    apply List.ext_getElem
    · simp; omega
    · intro j h1 h2
      simp only [List.length_map, List.length_range] at h2
      rw [List.getElem_drop, List.getElem_take, List.getElem_map, List.getElem_range, List.getD_eq_getElem?_getD, List.getElem?_eq_getElem (by omega)]
      rfl
theorem piece_len {a : Arr} {L bh i : Nat} {k : Int} (h : 0 ≤ k → (i * L + k.toNat) * bh + bh ≤ a.cells.length) : (piece a L bh i k).length = bh := by rw [piece_map h]; simp
theorem flat_len {α β : Type} {f : α → List β} {m : Nat} : ∀ {l : List α}, (∀ x ∈ l, (f x).length = m) → (l.flatMap f).length = l.length * m
  | [], _ => by simp
  | x :: xs, h => by rw [List.flatMap_cons, List.length_append, h x (by simp), flat_len (fun y hy => h y (by simp [hy])), List.length_cons, Nat.succ_mul]; omega
theorem rowP_len {a : Arr} {L bh ah i : Nat} {fr : List Int} (h : OffOk a L bh ah fr) (hi : i < ah) : (rowP a L bh fr i).length = fr.length * bh := flat_len (fun k hk => piece_len (fun h0 => h i hi k hk h0))
theorem rows_eq {a : Arr} {L bh ah : Nat} {fr : List Int} (h : OffOk a L bh ah fr) (hF : 0 < fr.length) (hB : 0 < bh) : (List.range ah).flatMap (rowP a L bh fr) = (List.range (ah * (fr.length * bh))).map (pickJ a L bh fr) := by
  have e1 : ∀ i, i < ah → rowP a L bh fr i = (List.range (fr.length * bh)).map (fun q => if fr.getD (q / bh) 0 < 0 then fillC a else a.cells.getD ((i * L + (fr.getD (q / bh) 0).toNat) * bh + q % bh) Cell.none) := fun i hi => by
    rw [← flat_range (fun m b => if fr.getD m 0 < 0 then fillC a else a.cells.getD ((i * L + (fr.getD m 0).toNat) * bh + b) Cell.none) hB]
    unfold rowP
    conv => lhs; rw [as_range fr]
    rw [List.flatMap_map]
    refine flat_congr (fun m hm => ?_)
    have hm := List.mem_range.1 hm
    exact piece_map (fun h0 => h i hi _ (getD_mem hm) h0)
  have e2 : (List.range ah).flatMap (rowP a L bh fr) = (List.range ah).flatMap (fun i => (List.range (fr.length * bh)).map (fun q => if fr.getD (q / bh) 0 < 0 then fillC a else a.cells.getD ((i * L + (fr.getD (q / bh) 0).toNat) * bh + q % bh) Cell.none)) := flat_congr (fun i hi => e1 i (List.mem_range.1 hi))
  rw [e2, flat_range (fun i q => if fr.getD (q / bh) 0 < 0 then fillC a else a.cells.getD ((i * L + (fr.getD (q / bh) 0).toNat) * bh + q % bh) Cell.none) (Nat.mul_pos hF hB)]
  refine List.map_congr_left (fun j _ => ?_)
  unfold pickJ
  rw [Nat.mul_comm fr.length bh, Nat.mod_mul_right_mod, Nat.mod_mul_right_div_self, ← Nat.div_div_eq_div_mul]
theorem pick_rows_sp (n a : Arr) (s : List Nat) (x : Nat) (fr : List Int) (hn : Fits n) (hb : Boxed a s) (hx : x < s.length) (hf : GoodF (s.getD x 0) fr) (hfl : fr.length ≤ 2048) : Sp 45 [dA n, dA a, dI (iN s), .int (x : Int), dI fr] [dA (rowS a s x fr (totA n)).1, .int (rowS a s x fr (totA n)).2] := by
  have h6 := (cntN_cases hb.ok).1
  have hal : a.cells.length ≤ 2048 := by rw [hb.len]; rcases (cntN_cases hb.ok).2 with h | h <;> omega
  have hwith := shape_With_sp (iN s) (x : Int) (fr.length : Int) (by rw [iN_len]; omega)
  unfold withD at hwith
  rw [if_pos (by rw [iN_len]; omega), Int.toNat_natCast, show (iN s).set x ((fr.length : Nat) : Int) = iN (s.set x fr.length) by unfold iN; rw [List.map_set]] at hwith
  refine sound_ 4096 (pick_rows_tree _ _ _ _ _ _) ?_
  simp only [els_dI, List.length_map, toInt_int]
  refine wp_call hwith (wp_call (shape_Count_sp _) ?_)
  unfold rowS
  simp only [getD_c0, getD_c1, toInt_int, int_bne, dA_none, dC_none']
  refine wp_decs (fun h => wp_ret (by rw [if_pos h])) (fun h => ?_)
  rw [if_neg h]
  have hok := Classical.not_not.1 h
  obtain ⟨sp1, sp2⟩ := split_at hx
  have st := set_split (F := fr.length) hx
  have hcl := countS_le (iN (s.set x fr.length))
  have hcn : (countS (iN (s.set x fr.length))).1 = ((cntN (s.set x fr.length) : Nat) : Int) := by unfold cntN; omega
  obtain ⟨ah, ha, hah⟩ := prodS_nat ((s.set x fr.length).take x) 1 (by decide)
  obtain ⟨bh, hbh, hbl⟩ := prodS_nat ((s.set x fr.length).drop (x + 1)) 1 (by decide)
  have tk : (s.set x fr.length).take x = s.take x := by rw [st, List.take_left' sp2]
  have dr : (s.set x fr.length).drop (x + 1) = s.drop (x + 1) := by
    rw [st, show s.take x ++ fr.length :: s.drop (x + 1) = (s.take x ++ [fr.length]) ++ s.drop (x + 1) by simp, List.drop_left' (by rw [List.length_append, sp2]; rfl)]
  rw [tk] at ha
  rw [dr] at hbh
  have haround := shape_Around_sp (iN (s.set x fr.length)) (x : Int)
  unfold aroundD at haround
  rw [if_pos ⟨hok, by omega, by rw [iN_len, List.length_set]; omega⟩, Int.toNat_natCast, show (iN (s.set x fr.length)).take x = iN (s.take x) by unfold iN; rw [← List.map_take, tk], show (iN (s.set x fr.length)).drop (x + 1) = iN (s.drop (x + 1)) by unfold iN; rw [← List.map_drop, dr], show (1 : Int) = ((1 : Nat) : Int) from rfl, ha, hbh] at haround
  have hL : s.getD x 0 ≤ 2048 := by
    have hm : s.getD x 0 ∈ s := by rw [List.getD_eq_getElem?_getD, List.getElem?_eq_getElem hx]; exact List.getElem_mem hx
    have := (countS_len hb.ok).2 ((s.getD x 0 : Nat) : Int) (List.mem_map.2 ⟨_, hm, rfl⟩)
    omega
  -- what holds of the numbers
  have facts : OffOk a (s.getD x 0) bh ah fr ∧ ah * (fr.length * bh) = cntN (s.set x fr.length) ∧ (List.range ah).flatMap (rowP a (s.getD x 0) bh fr) = (List.range (cntN (s.set x fr.length))).map (pickJ a (s.getD x 0) (prodN (s.drop (x + 1))) fr) := by
    rcases (cntN_cases hok).2 with ⟨hz, hc0⟩ | ⟨hpos, hcp, hc1, hc2⟩
    · have prod0 : ah = 0 ∨ fr.length = 0 ∨ bh = 0 := by
        rw [st] at hz
        rcases List.mem_append.1 hz with hz | hz
        · left; have := prodS_zero _ 1 hz; rw [show (1 : Int) = ((1 : Nat) : Int) from rfl, ha] at this; omega
        · rcases List.mem_cons.1 hz with hz | hz
          · right; left; exact hz.symm
          · right; right; have := prodS_zero _ 1 hz; rw [show (1 : Int) = ((1 : Nat) : Int) from rfl, hbh] at this; omega
      have off : OffOk a (s.getD x 0) bh ah fr := fun i hi k hk h0 => by
        have : 0 < fr.length := List.length_pos_of_mem hk
        have hb0 : bh = 0 := by omega
        rw [hb0]; simp
      have prod1 : ah * (fr.length * bh) = 0 := by
        rcases prod0 with h | h | h <;> rw [h] <;> simp
      refine ⟨off, by omega, ?_⟩
      rw [hc0]
      apply List.eq_nil_of_length_eq_zero
      rw [flat_len (m := fr.length * bh) (fun i hi => rowP_len off (List.mem_range.1 hi)), List.length_range]
      exact prod1
    · have hpA : ∀ y ∈ s.take x, 1 ≤ y := fun y hy => (hpos y (by rw [st]; simp [hy])).1
      have hpB : ∀ y ∈ s.drop (x + 1), 1 ≤ y := fun y hy => (hpos y (by rw [st]; simp [hy])).1
      have hF : 0 < fr.length := (hpos _ (by rw [st]; simp)).1
      have hA1 := prodN_pos _ hpA
      have hB1 := prodN_pos _ hpB
      have hcs : cntN (s.set x fr.length) = prodN (s.take x) * (fr.length * prodN (s.drop (x + 1))) := by rw [hcp, st, prodN_split]
      have m1 : prodN (s.take x) ≤ prodN (s.take x) * (fr.length * prodN (s.drop (x + 1))) := Nat.le_mul_of_pos_right _ (Nat.mul_pos hF hB1)
      have m2 : prodN (s.drop (x + 1)) ≤ prodN (s.take x) * (fr.length * prodN (s.drop (x + 1))) := by
        rw [← Nat.mul_assoc]; exact Nat.le_mul_of_pos_left _ (Nat.mul_pos hA1 hF)
      have eA := prodS_full (s.take x) 1 hpA (by omega)
      have eB := prodS_full (s.drop (x + 1)) 1 hpB (by omega)
      rw [ha, Nat.one_mul] at eA
      rw [hbh, Nat.one_mul] at eB
      have eA' : ah = prodN (s.take x) := by omega
      have eB' : bh = prodN (s.drop (x + 1)) := by omega
      have off : OffOk a (s.getD x 0) bh ah fr := fun i hi k hk h0 => by
        have hkl := hf k hk
        have hkL : k.toNat < s.getD x 0 := by omega
        have hsp : ∀ y ∈ s, 1 ≤ y := fun y hy => by
          rw [sp1] at hy
          rcases List.mem_append.1 hy with hy | hy
          · exact hpA y hy
          · rcases List.mem_cons.1 hy with rfl | hy
            · omega
            · exact hpB y hy
        have hsc := cnt_prod hb.ok hsp
        rw [hb.len, hsc]
        conv => rhs; rw [sp1]
        rw [prodN_split, ← eA', ← eB']
        have h1 : (i * s.getD x 0 + k.toNat) * bh + bh = (i * s.getD x 0 + k.toNat + 1) * bh := by rw [Nat.add_mul (i * s.getD x 0 + k.toNat) 1, Nat.one_mul]
        have h2 : i * s.getD x 0 + k.toNat + 1 ≤ (i + 1) * s.getD x 0 := by rw [Nat.add_mul, Nat.one_mul]; omega
        have h3 : (i + 1) * s.getD x 0 ≤ ah * s.getD x 0 := Nat.mul_le_mul_right _ hi
        rw [h1, ← Nat.mul_assoc]
        exact Nat.mul_le_mul_right _ (Nat.le_trans h2 h3)
      refine ⟨off, by rw [eA', eB', hcs], ?_⟩
      rw [rows_eq off hF (by omega), eA', eB', hcs]
  obtain ⟨off, hprod, hrows⟩ := facts
  have hcl2 : cntN (s.set x fr.length) ≤ 2048 := by omega
  refine wp_call haround (wp_call (array_Fill_sp a) ?_)
  simp only [getD_c0, toInt_int, hcn]
  refine wp_dec (by omega) (wp_dec (by omega) (wp_dec (by simp only [bigN]; omega) ?_))
  have lens : ∀ i, i ≤ ah → ((List.range i).flatMap (rowP a (s.getD x 0) bh fr)).length = i * (fr.length * bh) := fun i hi => by
    rw [flat_len (m := fr.length * bh) (fun j hj => rowP_len off (by have := List.mem_range.1 hj; omega)), List.length_range]
  have gL : ((iN s).map D.int).getD x D.nil = D.int ((s.getD x 0 : Nat) : Int) := by
    rw [iN_D, getD_map (List.getElem?_eq_getElem hx), List.getD_eq_getElem?_getD, List.getElem?_eq_getElem hx]; rfl
  have key := loop_up (P := Tryz.prog) (md := md) ah (fun m i (_ : Unit) => pick_rows_l9 4096 m (dI (iN s)) (x : Int) (dI fr) (dI (iN (s.set x fr.length))) (bh : Int) (((List.range i).flatMap (rowP a (s.getD x 0) bh fr)).map dC) (ah : Int) (i : Int) (dA n) (dA a) 0 (dC (fillC a))) (fun _ _ => [dA (.mk (a.s ||| totA n) (iN (s.set x fr.length)) ((List.range ah).flatMap (rowP a (s.getD x 0) bh fr))), .int 0]) (fun _ _ => True)
    (fun m t _ => by
      simp only [pick_rows_l9_succ, dA_0]
      refine wp_ndec (by omega) (wp_call (array_Total_sp n hn) ?_)
      simp only [getD_c0, toInt_dB, dInt_dB]
      refine wp_call (label_Join_sp a.s _) (wp_ret ?_)
      simp only [getD_c0, toInt_dB, dInt_dB]
      rw [dA_eq]; rfl)
    (fun m i t hi _ ih => by
      have ih := ih () trivial
      rw [List.range_succ, List.flatMap_append, List.flatMap_cons, List.flatMap_nil, List.append_nil] at ih
      simp only [pick_rows_l9_succ, els_dI, List.length_map]
      refine wp_dec (by omega) ?_
      have hli := lens i (by omega)
      have hli1 := lens (i + 1) (by omega)
      have hle1 : (i + 1) * (fr.length * bh) ≤ ah * (fr.length * bh) := Nat.mul_le_mul_right _ hi
      rw [Nat.succ_mul] at hle1
      have key2 := loop_list (P := Tryz.prog) (md := md) fr (fun q k (cs : List Cell) => pick_rows_l12 4096 m q (dI (iN s)) (x : Int) (dI fr) (dI (iN (s.set x fr.length))) (bh : Int) (cs.map dC) (i : Int) (ah : Int) (i : Int) (dI fr) (fr.length : Int) (k : Int) (dA n) (dA a) 0 (dC (fillC a))) (fun _ _ => [dA (.mk (a.s ||| totA n) (iN (s.set x fr.length)) ((List.range ah).flatMap (rowP a (s.getD x 0) bh fr))), .int 0]) (fun rest cs => cs ++ rest.flatMap (piece a (s.getD x 0) bh i) = (List.range i).flatMap (rowP a (s.getD x 0) bh fr) ++ rowP a (s.getD x 0) bh fr i)
        (fun q k cs hk hI => by
          rw [List.flatMap_nil, List.append_nil] at hI
          simp only [pick_rows_l12_succ, wrap_succ (show i < 9223372036854775807 by omega)]
          rw [hI]
          exact wp_ndec (by omega) ih)
        (fun q k cs z rest hd hI ih' => by
          obtain ⟨h1, h2, h3⟩ := drop_cons hd
          have hz := List.mem_of_getElem? h2
          rw [List.flatMap_cons, ← List.append_assoc] at hI
          have ih' := ih' (cs ++ piece a (s.getD x 0) bh i z) hI
          have hpl := piece_len (a := a) (L := s.getD x 0) (bh := bh) (i := i) (k := z) (fun h0 => off i hi z hz h0)
          have htl : cs.length + bh ≤ 2048 := by
            have := congrArg List.length hI
            simp only [List.length_append, hli, rowP_len off hi, hpl] at this
            omega
          rw [List.map_append] at ih'
          simp only [pick_rows_l12_succ, els_dI, List.length_map, Int.toNat_natCast, getD_map h2, toInt_int, wrap_succ (show k < 9223372036854775807 by omega), gL]
          refine wp_dec (by omega) (wp_dec (by omega) (wp_dec (by omega) (wp_decs (fun g => ?_) (fun g => ?_))))
          · have e : piece a (s.getD x 0) bh i z = List.replicate bh (fillC a) := by unfold piece; rw [if_pos g]
            rw [e, List.map_replicate] at ih'
            refine wp_call (repeatC_sp bh (fillC a) (by omega)) (wp_dec (by simp only [getD_c0, els_sl, List.length_replicate, bigN]; omega) ?_)
            exact ih'
          · obtain ⟨Z, rfl⟩ : ∃ Z : Nat, z = (Z : Int) := ⟨z.toNat, by omega⟩
            have ho := off i hi _ hz (by omega)
            have e : piece a (s.getD x 0) bh i (Z : Int) = (a.cells.take ((i * s.getD x 0 + Z) * bh + bh)).drop ((i * s.getD x 0 + Z) * bh) := by unfold piece; rw [if_neg g, Int.toNat_natCast]
            rw [e, List.map_drop, List.map_take] at ih'
            rw [Int.toNat_natCast] at ho
            have hil : i * s.getD x 0 ≤ 2048 * 2048 := Nat.mul_le_mul (by omega) hL
            have hZ := hf _ hz
            have w1 : IntKind.wrap .i64 ((i : Int) * ((s.getD x 0 : Nat) : Int)) = ((i * s.getD x 0 : Nat) : Int) := by rw [← Int.natCast_mul, wrap64 (by omega) (by omega)]
            have w2 : IntKind.wrap .i64 (((i * s.getD x 0 : Nat) : Int) + (Z : Int)) = ((i * s.getD x 0 + Z : Nat) : Int) := by rw [wrap64 (by omega) (by omega)]; rfl
            have w3 : IntKind.wrap .i64 (((i * s.getD x 0 + Z : Nat) : Int) * (bh : Int)) = (((i * s.getD x 0 + Z) * bh : Nat) : Int) := by rw [← Int.natCast_mul, wrap64 (by omega) (by omega)]
            have w4 : IntKind.wrap .i64 ((((i * s.getD x 0 + Z) * bh : Nat) : Int) + (bh : Int)) = (((i * s.getD x 0 + Z) * bh + bh : Nat) : Int) := by rw [wrap64 (by omega) (by omega)]; rfl
            simp only [w1, w2, w3, w4, Int.toNat_natCast, dA_2, els_sl, List.length_map]
            have hdl : (((a.cells.map dC).take ((i * s.getD x 0 + Z) * bh + bh)).drop ((i * s.getD x 0 + Z) * bh)).length = bh := by rw [List.length_drop, List.length_take, List.length_map]; omega
            simp only [hdl]
            refine wp_dec (by omega) (wp_dec (by rw [iN_len]; omega) (wp_dec (by omega) (wp_dec (by omega) (wp_dec (by omega) (wp_dec (by simp only [bigN]; omega) ?_)))))
            exact ih')
        4096 0 ((List.range i).flatMap (rowP a (s.getD x 0) bh fr)) (by omega) (by omega) (by rw [List.drop_zero]; rfl)
      exact key2)
    4096 0 () (by omega) (by omega) trivial
  rw [hrows] at key
  exact key
end Go.Proofs.YtbgcadcpeabpgaaGreat
set_option maxRecDepth 100000
namespace Go.Proofs.YtbgcadcpeabpgaaGreat
/-- An array's shape, one axis at the least; which one is meant. -/
def aN (a : Arr) : List Nat := if a.shape = [] then [1] else a.shape.map Int.toNat
def axX (a : Arr) (first : Bool) : Nat := if a.shape = [] then 0 else if first then 0 else a.shape.length - 1
theorem iN_aN {a : Arr} (h : ∀ x ∈ a.shape, 0 ≤ x) : iN (aN a) = if a.shape = [] then [1] else a.shape := by
  unfold aN
  by_cases h0 : a.shape = []
  · rw [if_pos h0, if_pos h0]; rfl
  · rw [if_neg h0, if_neg h0]
    obtain ⟨m, hm⟩ := iN_of h
    rw [hm]
    unfold iN
    rw [List.map_map, List.map_map]
    exact List.map_congr_left (fun x _ => by simp)
theorem axX_lt (a : Arr) (first : Bool) : axX a first < (aN a).length := by
  unfold axX aN
  split
  · simp
  · rename_i h
    have := List.length_pos_iff.2 h
    split <;> simp <;> omega
theorem aN_boxed {d : Nat} {a : Arr} (h : rightA d a = true) : Boxed a (aN a) := by
  have hc := (rightA_cells h).1
  have hi := iN_aN (a := a) (fun x hx => ((rightA_len h).2.2 x hx).1)
  by_cases h0 : a.shape = []
  · rw [if_pos h0] at hi
    rw [h0] at hc
    have e : countS ([] : List Int) = (1, 0) := by decide
    rw [e] at hc
    have e1 : countS ([1] : List Int) = (1, 0) := by decide
    refine ⟨by rw [hi, e1], ?_⟩
    unfold cntN
    rw [hi, e1]
    have := congrArg Prod.fst hc
    simp only at this
    show a.cells.length = 1
    omega
  · rw [if_neg h0] at hi
    refine ⟨by rw [hi, hc], ?_⟩
    unfold cntN
    rw [hi, hc]; simp
theorem aN_len {d : Nat} {a : Arr} (h : rightA d a = true) : (aN a).length ≤ 6 := (cntN_cases (aN_boxed h).ok).1
theorem aN_le {d : Nat} {a : Arr} (h : rightA d a = true) {x : Nat} (hx : x < (aN a).length) : (aN a).getD x 0 ≤ 2048 := by
  have hm : (aN a).getD x 0 ∈ aN a := by rw [List.getD_eq_getElem?_getD, List.getElem?_eq_getElem hx]; exact List.getElem_mem hx
  have := (countS_len (aN_boxed h).ok).2 (((aN a).getD x 0 : Nat) : Int) (List.mem_map.2 ⟨_, hm, rfl⟩)
  omega
theorem at_iN {s : List Nat} {x : Nat} (hx : x < s.length) : ((iN s).map D.int).getD x D.nil = D.int ((s.getD x 0 : Nat) : Int) := by
  rw [iN_D, getD_map (List.getElem?_eq_getElem hx), List.getD_eq_getElem?_getD, List.getElem?_eq_getElem hx]; rfl
theorem clone_int_sp (l : List Int) (h : l.length ≤ 1000) : Sp 82 [dI l] [dI l] := by
  refine sound_ 0 (slices_Clone_int_int_tree _ _) (wp_amb (fun h => wp_ret ?_) (wp_dec (by simp only [els_dI, List.length_map, List.length_nil, bigN]; omega) (wp_ret (by simp [dI]))))
  have : l = [] := by simpa using h
  subst this; rfl
theorem pick_axes_sp {d : Nat} (a : Arr) (first : Bool) (h : rightA d a = true) : Sp 43 [dA a, .bool first] [dI (iN (aN a)), .int ((axX a first : Nat) : Int)] := by
  have hl := (rightA_len h).2.1
  have hi := iN_aN (a := a) (fun x hx => ((rightA_len h).2.2 x hx).1)
  refine sound_ 0 (pick_axes_tree _ _ _) ?_
  simp only [dA_1, els_dI, List.length_map, toBool_bool, int_beq]
  rw [hi]
  unfold axX
  refine wp_decs (fun g => wp_ret ?_) (fun g => ?_)
  · have : a.shape = [] := List.length_eq_zero_iff.1 (by omega)
    rw [if_pos this, if_pos this]; rfl
  · have hne : a.shape ≠ [] := fun hh => g (by rw [hh]; rfl)
    rw [if_neg hne, if_neg hne]
    refine wp_br (fun e => wp_call (clone_int_sp a.shape (by omega)) (wp_ret ?_)) (fun e => wp_call (clone_int_sp a.shape (by omega)) (wp_ret ?_))
    · rw [if_pos e]; rfl
    · have hpos := List.length_pos_iff.2 hne
      rw [if_neg (by rw [e]; decide), wrap64 (by omega) (by omega), show ((a.shape.length - 1 : Nat) : Int) = (a.shape.length : Int) - 1 by omega]; rfl
theorem ref15_axis_sp {d : Nat} (a : Arr) (first : Bool) (h : rightA d a = true) : Sp 46 [dA a, .bool first] [dA (.mk a.s (iN (aN a)) a.cells), .int ((axX a first : Nat) : Int)] := by
  have hl := (rightA_len h).2.1
  have hi := iN_aN (a := a) (fun x hx => ((rightA_len h).2.2 x hx).1)
  refine sound_ 0 (ref15_axis_tree _ _ _) ?_
  simp only [dA_0, dA_1, dA_2, els_dI, List.length_map, toBool_bool, int_beq, toInt_dB, List.length_cons, List.length_nil]
  rw [hi]
  unfold axX
  refine wp_decs (fun g => ?_) (fun g => ?_)
  · have : a.shape = [] := List.length_eq_zero_iff.1 (by omega)
    rw [if_pos this, if_pos this]
    refine wp_br (fun e => wp_ret ?_) (fun e => wp_ret ?_)
    · rw [dA_eq]; rfl
    · rw [dA_eq]; rfl
  · have hne : a.shape ≠ [] := fun hh => g (by rw [hh]; rfl)
    have hpos := List.length_pos_iff.2 hne
    rw [if_neg hne, if_neg hne, ← Arr.eta a]
    refine wp_br (fun e => wp_ret ?_) (fun e => wp_ret ?_)
    · rw [if_pos e]; rfl
    · rw [if_neg (by rw [e]; decide), wrap64 (by omega) (by omega), show ((a.shape.length - 1 : Nat) : Int) = (a.shape.length : Int) - 1 by omega]
/-- Which places, as often as numbers say. -/
def frS (one : Bool) : List Int → Nat → List Int → Option (List Int)
  | [], _, acc => some acc
  | k :: ks, i, acc => if 2048 - (acc.length : Int) < k then none else frS one ks (i + 1) (acc ++ List.replicate k.toNat (if one then 0 else (i : Int)))
theorem frS_ok {one : Bool} {L : Nat} : ∀ {l : List Int} {i : Nat} {acc r : List Int}, frS one l i acc = some r → acc.length ≤ 2048 → (∀ k ∈ acc, 0 ≤ k ∧ k < (L : Int)) → (one = true → 1 ≤ L) → (one = false → i + l.length ≤ L) → r.length ≤ 2048 ∧ ∀ k ∈ r, 0 ≤ k ∧ k < (L : Int)
  | [], i, acc, r, h, h1, h2, _, _ => by simp [frS] at h; subst h; exact ⟨h1, h2⟩
  | k :: ks, i, acc, r, h, h1, h2, h3, h4 => by
    rw [frS] at h
    split at h
    · cases h
    · rename_i hk
      refine frS_ok h (by rw [List.length_append, List.length_replicate]; omega) (fun z hz => ?_) h3 (fun ho => by have := h4 ho; simp only [List.length_cons] at this; omega)
      rcases List.mem_append.1 hz with hz | hz
      · exact h2 z hz
      · have := List.eq_of_mem_replicate hz
        subst this
        cases one with
        | true => have := h3 rfl; simp; omega
        | false => have := h4 rfl; simp only [List.length_cons] at this; simp; omega
/-- The numbers, one for each place along the axis. -/
def lS (n : Arr) (L : Nat) : List Int := if n.shape = [] then List.replicate L ((intsA n).1.headD 0) else (intsA n).1
def replS (n a : Arr) (first : Bool) : Arr × Int :=
  if (intsA n).2 ≠ 0 then (.none, (intsA n).2)
  else if ∃ k ∈ (intsA n).1, k < 0 then (.none, 3)
  else if (aN a).getD (axX a first) 0 ≠ 1 ∧ (lS n ((aN a).getD (axX a first) 0)).length ≠ (aN a).getD (axX a first) 0 then (.none, 4)
  else match frS ((aN a).getD (axX a first) 0 == 1) (lS n ((aN a).getD (axX a first) 0)) 0 [] with
    | none => (.none, 7)
    | some fr => rowS a (aN a) (axX a first) fr (totA n)
theorem intsA_len2 (a : Arr) : (intsA a).1.length ≤ a.cells.length := by
  unfold intsA
  split
  · simp
  · split
    · rename_i l hl; have := (intsCs_inR hl).1; simp only; omega
    · simp
theorem intsA_inR2 (a : Arr) : ∀ x ∈ (intsA a).1, inR x := by
  unfold intsA
  split
  · intro x hx; cases hx
  · split
    · rename_i l hl; exact (intsCs_inR hl).2
    · intro x hx; cases hx
theorem neg_sp (l : List Int) (hl : l.length ≤ 2048) : Sp 41 [dI l, D.fn 42 [] []] [.bool (decide (∃ k ∈ l, k < 0))] := by
  have hn : ∀ k : Int, Sp 42 [.int k] [.bool (decide (k < 0))] := fun k => sound_ 0 (pick_Replicate_2_tree _ _) (wp_ret rfl)
  have hi : Sp 81 [dI l, D.fn 42 [] []] [.int (idxD (fun x => decide (x < 0)) 0 l)] := by
    refine sound_ 4096 (slices_IndexFunc_int_int_tree_pick_Replicate_2 _ _) ?_
    have key := loop_list (P := Tryz.prog) (md := md) l (fun m k (_ : Unit) => slices_IndexFunc_int_int_l2 4096 m (dI l) (D.fn 42 [] []) (l.length : Int) (k : Int)) (fun rest _ => [.int (idxD (fun x => decide (x < 0)) (l.length - rest.length) rest)]) (fun _ _ => True)
      (fun m k t hk _ => by
        simp only [slices_IndexFunc_int_int_l2_succ_pick_Replicate_2]
        exact wp_ndec (by omega) (wp_ret rfl))
      (fun m k t x rest hd _ ih => by
        obtain ⟨h1, h2, h3⟩ := drop_cons hd
        have hle := congrArg List.length hd
        rw [List.length_drop, List.length_cons] at hle
        have ih := ih () trivial
        rw [show l.length - rest.length = k + 1 by omega] at ih
        simp only [slices_IndexFunc_int_int_l2_succ_pick_Replicate_2, els_dI, List.length_map, Int.toNat_natCast, getD_map h2, toInt_int, fnId_fn, fnCts_fn, fnDs_fn, List.append_nil, wrap_succ (show k < 9223372036854775807 by omega)]
        refine wp_dec (by omega) (wp_dec (by omega) (wp_dec (by omega) (wp_call (hn x) ?_)))
        rw [show l.length - (x :: rest).length = k by rw [List.length_cons]; omega]
        simp only [getD_c0, toBool_bool, idxD]
        refine wp_br (fun g => wp_ret (by rw [if_pos g])) (fun g => ?_)
        rw [if_neg (by rw [g]; decide)]
        exact ih)
      4096 0 () (by omega) (by omega) trivial
    simpa using key
  have hp : ∀ (m : List Int) (k : Nat), (0 ≤ idxD (fun x => decide (x < 0)) k m) ↔ (∃ z ∈ m, z < 0) := by
    intro m
    induction m with
    | nil => intro k; simp [idxD]
    | cons z zs ih =>
      intro k
      simp only [idxD]
      by_cases g : z < 0
      · rw [if_pos (decide_eq_true g)]
        exact ⟨fun _ => ⟨z, by simp, g⟩, fun _ => by omega⟩
      · rw [if_neg (by rw [decide_eq_false g]; decide), ih (k + 1)]
        simp [g]
  refine sound_ 0 (slices_ContainsFunc_int_int_tree_pick_Replicate_2 _ _) (wp_call hi (wp_ret ?_))
  exact congrArg (fun b => [D.bool b]) (decide_eq_decide.2 (hp l 0))
theorem repl_loop {d : Nat} (n a : Arr) (first : Bool) (hn : Fits n) (ha : rightA d a = true) (l : List Int) (hl : l.length ≤ 2048) (hpos : ∀ k ∈ l, 0 ≤ k) (hbig : ∀ k ∈ l, k ≤ 9223372036854775807) (hL : (aN a).getD (axX a first) 0 ≠ 1 → l.length = (aN a).getD (axX a first) 0) :
    Tw (pick_Replicate_l18 4096 4096 (dI (iN (aN a))) ((axX a first : Nat) : Int) (((aN a).getD (axX a first) 0 : Nat) : Int) [] (dI l) (l.length : Int) 0 (dA n) (dA a) 0 0) (match frS ((aN a).getD (axX a first) 0 == 1) l 0 [] with
      | none => [dA .none, .int 7]
      | some fr => [dA (rowS a (aN a) (axX a first) fr (totA n)).1, .int (rowS a (aN a) (axX a first) fr (totA n)).2]) := by
  have hx := axX_lt a first
  have key := loop_list (P := Tryz.prog) (md := md) l (fun m k (acc : List Int) => pick_Replicate_l18 4096 m (dI (iN (aN a))) ((axX a first : Nat) : Int) (((aN a).getD (axX a first) 0 : Nat) : Int) (acc.map D.int) (dI l) (l.length : Int) (k : Int) (dA n) (dA a) 0 0) (fun rest acc => match frS ((aN a).getD (axX a first) 0 == 1) rest (l.length - rest.length) acc with
      | none => [dA .none, .int 7]
      | some fr => [dA (rowS a (aN a) (axX a first) fr (totA n)).1, .int (rowS a (aN a) (axX a first) fr (totA n)).2]) (fun rest acc => acc.length ≤ 2048 ∧ ∀ k ∈ acc, 0 ≤ k ∧ k < (((aN a).getD (axX a first) 0 : Nat) : Int))
    (fun m k acc hk hI => by
      simp only [pick_Replicate_l18_succ]
      refine wp_ndec (by omega) (wp_call (pick_rows_sp n a (aN a) (axX a first) acc hn (aN_boxed ha) hx (fun z hz => .inr (hI.2 z hz)) hI.1) (wp_ret ?_))
      rfl)
    (fun m k acc z rest hd hI ih => by
      obtain ⟨h1, h2, h3⟩ := drop_cons hd
      have hle := congrArg List.length hd
      rw [List.length_drop, List.length_cons] at hle
      have hz := hpos z (List.mem_of_getElem? h2)
      have hzb := hbig z (List.mem_of_getElem? h2)
      have ek : l.length - (z :: rest).length = k := by rw [List.length_cons]; omega
      have ek2 : l.length - rest.length = k + 1 := by omega
      have w1 : IntKind.wrap .i64 (2048 - (acc.length : Int)) = 2048 - (acc.length : Int) := wrap64 (by omega) (by omega)
      simp only [pick_Replicate_l18_succ, els_dI, List.length_map, Int.toNat_natCast, getD_map h2, toInt_int, w1, ek, frS, dA_none, int_beq]
      refine wp_dec (by omega) (wp_dec (by omega) (wp_dec (by omega) (wp_decs (fun g => wp_ret (by rw [if_pos (by first | (rw [w1] at g; exact g) | exact g)])) (fun g => ?_))))
      have g : ¬ (2048 - (acc.length : Int) < z) := by first | (rw [w1] at g; exact g) | exact g
      simp only [if_neg g]
      obtain ⟨Z, rfl⟩ : ∃ Z : Nat, z = (Z : Int) := ⟨z.toNat, by omega⟩
      have inner : ∀ (c : Int), 0 ≤ c ∧ c < (((aN a).getD (axX a first) 0 : Nat) : Int) → frS ((aN a).getD (axX a first) 0 == 1) rest (k + 1) (acc ++ List.replicate Z (if ((aN a).getD (axX a first) 0 == 1) = true then 0 else (k : Int))) = frS ((aN a).getD (axX a first) 0 == 1) rest (k + 1) (acc ++ List.replicate Z c) → Tw (pick_Replicate_l25 4096 m 4096 (dI (iN (aN a))) ((axX a first : Nat) : Int) (((aN a).getD (axX a first) 0 : Nat) : Int) (acc.map D.int) c (dI l) (l.length : Int) (k : Int) (Z : Int) 0 (dA n) (dA a) 0 0) (match frS ((aN a).getD (axX a first) 0 == 1) rest (k + 1) (acc ++ List.replicate (Z : Int).toNat (if ((aN a).getD (axX a first) 0 == 1) = true then 0 else (k : Int))) with
          | none => [dA .none, .int 7]
          | some fr => [dA (rowS a (aN a) (axX a first) fr (totA n)).1, .int (rowS a (aN a) (axX a first) fr (totA n)).2]) := by
        intro c hc heq
        rw [Int.toNat_natCast, heq]
        have ih := ih (acc ++ List.replicate Z c) ⟨by rw [List.length_append, List.length_replicate]; omega, fun y hy => by
          rcases List.mem_append.1 hy with hy | hy
          · exact hI.2 y hy
          · rw [List.eq_of_mem_replicate hy]; exact hc⟩
        rw [ek2] at ih
        have key3 := loop_up (P := Tryz.prog) (md := md) Z (fun q j (_ : Unit) => pick_Replicate_l25 4096 m q (dI (iN (aN a))) ((axX a first : Nat) : Int) (((aN a).getD (axX a first) 0 : Nat) : Int) ((acc ++ List.replicate j c).map D.int) c (dI l) (l.length : Int) (k : Int) (Z : Int) (j : Int) (dA n) (dA a) 0 0) (fun _ _ => (match frS ((aN a).getD (axX a first) 0 == 1) rest (k + 1) (acc ++ List.replicate Z c) with
          | none => [dA .none, .int 7]
          | some fr => [dA (rowS a (aN a) (axX a first) fr (totA n)).1, .int (rowS a (aN a) (axX a first) fr (totA n)).2])) (fun _ _ => True)
          (fun q t _ => by
            simp only [pick_Replicate_l25_succ, wrap_succ (show k < 9223372036854775807 by omega)]
            exact wp_ndec (by omega) ih)
          (fun q j t hj _ ih3 => by
            have ih3 := ih3 () trivial
            rw [List.replicate_succ', ← List.append_assoc, List.map_append] at ih3
            simp only [pick_Replicate_l25_succ, List.length_map, List.length_append, List.length_replicate, List.length_cons, List.length_nil, wrap_succ (show j < 9223372036854775807 by omega)]
            exact wp_dec (by omega) (wp_dec (by simp only [bigN]; omega) ih3))
          4096 0 () (by omega) (by omega) trivial
        simpa using key3
      refine wp_decs (fun g1 => ?_) (fun g1 => ?_)
      · have e1 : (aN a).getD (axX a first) 0 = 1 := by omega
        exact inner 0 ⟨by omega, by omega⟩ (by rw [e1]; rfl)
      · have e1 : ((aN a).getD (axX a first) 0 == 1) = false := beq_eq_false_iff_ne.2 (by omega)
        have := hL (by omega)
        exact inner (k : Int) ⟨by omega, by omega⟩ (by rw [e1]; rfl))
    4096 0 [] (by omega) (by omega) ⟨by simp, by simp⟩
  simpa using key
theorem pick_Replicate_sp (n a : Arr) (first : Bool) (hn : rightA 8 n = true) (ha : rightA 8 a = true) : Sp 12 [dA n, dA a, .bool first] [dA (replS n a first).1, .int (replS n a first).2] := by
  have ln := (rightA_len hn).1
  have hx := axX_lt a first
  have hLe := aN_le ha hx
  have hin := intsA_inR2 n
  have hil := intsA_len2 n
  refine sound_ 4096 (pick_Replicate_tree _ _ _ _) (wp_call (array_Ints_sp n ln (rightA_top hn)) ?_)
  unfold replS lS
  have hone : n.shape = [] → (intsA n).2 = 0 → ∃ k, (intsA n).1 = [k] := fun hs h0 => by
    have hc := (rightA_cells hn).1
    rw [hs, show countS ([] : List Int) = (1, 0) by decide] at hc
    have hc1 := congrArg Prod.fst hc
    have : n.cells.length = 1 := by simp only at hc1; omega
    unfold intsA at h0 ⊢
    rw [if_neg (by rw [hs]; simp)] at h0 ⊢
    split at h0
    · rename_i l hl
      have := (intsCs_inR hl).1
      exact len_one (by simp only; omega)
    · cases h0
  generalize hp : intsA n = p at *
  obtain ⟨l, e⟩ := p
  simp only [getD_c0, getD_c1, toInt_int, int_bne, dA_none] at hin hil hone ⊢
  refine wp_decs (fun h => wp_ret (by rw [if_pos h])) (fun h => ?_)
  rw [if_neg h]
  have h0 : e = 0 := Classical.not_not.1 h
  subst h0
  refine wp_call (neg_sp l (by omega)) ?_
  simp only [getD_c0, toBool_bool]
  refine wp_decs (fun h => wp_ret (by rw [if_pos h])) (fun h => ?_)
  rw [if_neg h]
  have hpos : ∀ k ∈ l, 0 ≤ k := fun k hk => by
    rcases Int.lt_or_le k 0 with g | g
    · exact absurd ⟨k, hk, g⟩ h
    · exact g
  refine wp_call (pick_axes_sp a first ha) ?_
  have sh : (((n.shape.length : Nat) : Int) = 0) ↔ n.shape = [] := ⟨fun g => List.length_eq_zero_iff.1 (by omega), fun g => by rw [g]; rfl⟩
  simp only [getD_c0, getD_c1, toInt_int, els_dI, List.length_map, Int.toNat_natCast, at_iN hx, iN_len, dA_1, int_beq, not_dec, sh]
  refine wp_dec (by omega) (wp_dec (by omega) ?_)
  have fin : (n.shape = [] ∨ (aN a).getD (axX a first) 0 = 1 ∨ l.length = (aN a).getD (axX a first) 0) → Tw (.br (decide (2048 < (((aN a).getD (axX a first) 0 : Nat) : Int))) (.ret [dA .none, .int 7]) (.br (decide (n.shape = [])) (.call 44 [] [dI l, .int (((aN a).getD (axX a first) 0 : Nat) : Int)] fun yy4 => pick_Replicate_l18 4096 4096 (dI (iN (aN a))) ((axX a first : Nat) : Int) (((aN a).getD (axX a first) 0 : Nat) : Int) [] (yy4.getD 0 D.nil) (((yy4.getD 0 D.nil).els).length : Int) 0 (dA n) (dA a) 0 0) (pick_Replicate_l18 4096 4096 (dI (iN (aN a))) ((axX a first : Nat) : Int) (((aN a).getD (axX a first) 0 : Nat) : Int) [] (dI l) (l.length : Int) 0 (dA n) (dA a) 0 0))) [dA (if (aN a).getD (axX a first) 0 ≠ 1 ∧ (if n.shape = [] then List.replicate ((aN a).getD (axX a first) 0) (l.headD 0) else l).length ≠ (aN a).getD (axX a first) 0 then (Arr.none, (4 : Int)) else match frS ((aN a).getD (axX a first) 0 == 1) (if n.shape = [] then List.replicate ((aN a).getD (axX a first) 0) (l.headD 0) else l) 0 [] with
      | none => (.none, 7)
      | some fr => rowS a (aN a) (axX a first) fr (totA n)).1, .int (if (aN a).getD (axX a first) 0 ≠ 1 ∧ (if n.shape = [] then List.replicate ((aN a).getD (axX a first) 0) (l.headD 0) else l).length ≠ (aN a).getD (axX a first) 0 then (Arr.none, (4 : Int)) else match frS ((aN a).getD (axX a first) 0 == 1) (if n.shape = [] then List.replicate ((aN a).getD (axX a first) 0) (l.headD 0) else l) 0 [] with
      | none => (.none, 7)
      | some fr => rowS a (aN a) (axX a first) fr (totA n)).2] := by
    intro hc
    refine wp_ndec (by omega) (wp_decs (fun hs => ?_) (fun hs => ?_))
    · obtain ⟨k, rfl⟩ := hone hs rfl
      have hk := hpos k (by simp)
      simp only [if_pos hs, List.headD_cons]
      refine wp_call (repeat_sp _ k (by omega) (hin k (by simp))) ?_
      simp only [getD_c0, els_dI, List.length_map]
      rw [if_neg (by simp)]
      have := repl_loop n a first (rightA_sml hn).fits ha (List.replicate ((aN a).getD (axX a first) 0) k) (by rw [List.length_replicate]; omega) (fun z hz => by rw [List.eq_of_mem_replicate hz]; exact hk) (fun z hz => by rw [List.eq_of_mem_replicate hz]; exact (hin k (by simp)).2) (fun _ => by rw [List.length_replicate])
      refine Tree.wp_mono this (fun ys hy => hy.trans ?_)
      cases frS ((aN a).getD (axX a first) 0 == 1) (List.replicate ((aN a).getD (axX a first) 0) k) 0 [] <;> rfl
    · simp only [if_neg hs]
      rw [if_neg (by intro hh; rcases hc with g | g | g; exact hs g; exact hh.1 g; exact hh.2 g)]
      have := repl_loop n a first (rightA_sml hn).fits ha l (by omega) hpos (fun z hz => (hin z hz).2) (fun hne => by rcases hc with g | g | g; exact absurd g hs; exact absurd g hne; exact g)
      refine Tree.wp_mono this (fun ys hy => hy.trans ?_)
      cases frS ((aN a).getD (axX a first) 0 == 1) l 0 [] <;> rfl
  refine wp_decs (fun hs => wp_decs (fun h1 => wp_decs (fun h2 => wp_ret ?_) (fun h2 => fin (.inr (.inr (by omega))))) (fun h1 => fin (.inr (.inl (by omega))))) (fun hs => fin (.inl (Classical.not_not.1 hs)))
  simp only [if_neg hs]
  rw [if_pos ⟨by omega, by omega⟩]
end Go.Proofs.YtbgcadcpeabpgaaGreat
set_option maxRecDepth 100000
namespace Go.Proofs.YtbgcadcpeabpgaaGreat
theorem fill_same (a : Arr) (s : Lab) (sh : List Int) : fillC (.mk s sh a.cells) = fillC a := by unfold fillC; rfl
theorem ref15_repl_loop {d : Nat} (n a : Arr) (first : Bool) (hn : Fits n) (ha : rightA d a = true) (l : List Int) (hl : l.length ≤ 2048) (hpos : ∀ k ∈ l, 0 ≤ k) (hbig : ∀ k ∈ l, k ≤ 9223372036854775807) (hL : (aN a).getD (axX a first) 0 ≠ 1 → l.length = (aN a).getD (axX a first) 0) :
    Tw (ref15_Replicate_l22 4096 4096 (dI l) ((axX a first : Nat) : Int) (((aN a).getD (axX a first) 0 : Nat) : Int) [] 0 (dA n) 0 (dA (.mk a.s (iN (aN a)) a.cells))) (match frS ((aN a).getD (axX a first) 0 == 1) l 0 [] with
      | none => [dA .none, .int 7]
      | some fr => [dA (rowS a (aN a) (axX a first) fr (totA n)).1, .int (rowS a (aN a) (axX a first) fr (totA n)).2]) := by
  have hx := axX_lt a first
  have hFill := ref08_Fill_sp (.mk a.s (iN (aN a)) a.cells)
  rw [fill_same] at hFill
  have key := loop_list (P := Tryz.prog) (md := md) l (fun m k (acc : List Int) => ref15_Replicate_l22 4096 m (dI l) ((axX a first : Nat) : Int) (((aN a).getD (axX a first) 0 : Nat) : Int) (acc.map D.int) (k : Int) (dA n) 0 (dA (.mk a.s (iN (aN a)) a.cells))) (fun rest acc => match frS ((aN a).getD (axX a first) 0 == 1) rest (l.length - rest.length) acc with
      | none => [dA .none, .int 7]
      | some fr => [dA (rowS a (aN a) (axX a first) fr (totA n)).1, .int (rowS a (aN a) (axX a first) fr (totA n)).2]) (fun rest acc => acc.length ≤ 2048 ∧ ∀ k ∈ acc, 0 ≤ k ∧ k < (((aN a).getD (axX a first) 0 : Nat) : Int))
    (fun m k acc hk hI => by
      simp only [ref15_Replicate_l22_succ, els_dI, List.length_map]
      refine wp_ndec (by omega) (wp_call (ref08_Total_sp n hn) ?_)
      simp only [getD_c0, toInt_dB, dInt_dB]
      refine wp_call (chosen_sp a (aN a) (axX a first) acc (totA n) (aN_boxed ha) hx (fun z hz => .inr (hI.2 z hz)) hI.1 hFill) (wp_ret ?_)
      rfl)
    (fun m k acc z rest hd hI ih => by
      obtain ⟨h1, h2, h3⟩ := drop_cons hd
      have hle := congrArg List.length hd
      rw [List.length_drop, List.length_cons] at hle
      have hz := hpos z (List.mem_of_getElem? h2)
      have hzb := hbig z (List.mem_of_getElem? h2)
      have ek : l.length - (z :: rest).length = k := by rw [List.length_cons]; omega
      have ek2 : l.length - rest.length = k + 1 := by omega
      have w1 : IntKind.wrap .i64 (2048 - (acc.length : Int)) = 2048 - (acc.length : Int) := wrap64 (by omega) (by omega)
      simp only [ref15_Replicate_l22_succ, els_dI, List.length_map, Int.toNat_natCast, getD_map h2, toInt_int, w1, ek, frS, dA_none]
      refine wp_dec (by omega) (wp_dec (by omega) (wp_dec (by omega) (wp_decs (fun g => wp_ret (by rw [if_pos (by first | (rw [w1] at g; exact g) | exact g)])) (fun g => ?_))))
      have g : ¬ (2048 - (acc.length : Int) < z) := by first | (rw [w1] at g; exact g) | exact g
      simp only [if_neg g]
      obtain ⟨Z, rfl⟩ : ∃ Z : Nat, z = (Z : Int) := ⟨z.toNat, by omega⟩
      have inner : ∀ (c : Int), 0 ≤ c ∧ c < (((aN a).getD (axX a first) 0 : Nat) : Int) → c = (if ((aN a).getD (axX a first) 0 == 1) = true then 0 else (k : Int)) → Tw (ref15_Replicate_l27 4096 m 4096 (dI l) ((axX a first : Nat) : Int) (((aN a).getD (axX a first) 0 : Nat) : Int) (acc.map D.int) (k : Int) 0 (dA n) 0 (dA (.mk a.s (iN (aN a)) a.cells))) (match frS ((aN a).getD (axX a first) 0 == 1) rest (k + 1) (acc ++ List.replicate (Z : Int).toNat (if ((aN a).getD (axX a first) 0 == 1) = true then 0 else (k : Int))) with
          | none => [dA .none, .int 7]
          | some fr => [dA (rowS a (aN a) (axX a first) fr (totA n)).1, .int (rowS a (aN a) (axX a first) fr (totA n)).2]) := by
        intro c hc heq
        rw [Int.toNat_natCast, ← heq]
        have ih := ih (acc ++ List.replicate Z c) ⟨by rw [List.length_append, List.length_replicate]; omega, fun y hy => by
          rcases List.mem_append.1 hy with hy | hy
          · exact hI.2 y hy
          · rw [List.eq_of_mem_replicate hy]; exact hc⟩
        rw [ek2] at ih
        have key3 := loop_up (P := Tryz.prog) (md := md) Z (fun q j (_ : Unit) => ref15_Replicate_l27 4096 m q (dI l) ((axX a first : Nat) : Int) (((aN a).getD (axX a first) 0 : Nat) : Int) ((acc ++ List.replicate j c).map D.int) (k : Int) (j : Int) (dA n) 0 (dA (.mk a.s (iN (aN a)) a.cells))) (fun _ _ => (match frS ((aN a).getD (axX a first) 0 == 1) rest (k + 1) (acc ++ List.replicate Z c) with
          | none => [dA .none, .int 7]
          | some fr => [dA (rowS a (aN a) (axX a first) fr (totA n)).1, .int (rowS a (aN a) (axX a first) fr (totA n)).2])) (fun _ _ => True)
          (fun q t _ => by
            simp only [ref15_Replicate_l27_succ, els_dI, List.length_map, Int.toNat_natCast, getD_map h2, toInt_int, wrap_succ (show k < 9223372036854775807 by omega)]
            exact wp_dec (by omega) (wp_dec (by omega) (wp_ndec (by omega) ih)))
          (fun q j t hj _ ih3 => by
            have ih3 := ih3 () trivial
            rw [List.replicate_succ', ← List.append_assoc, List.map_append] at ih3
            simp only [ref15_Replicate_l27_succ, els_dI, List.length_map, Int.toNat_natCast, getD_map h2, toInt_int, List.length_append, List.length_replicate, List.length_cons, List.length_nil, wrap_succ (show j < 9223372036854775807 by omega), int_beq]
            refine wp_dec (by omega) (wp_dec (by omega) (wp_dec (by omega) (wp_decs (fun g1 => wp_dec (by simp only [bigN]; omega) ?_) (fun g1 => wp_dec (by simp only [bigN]; omega) ?_))))
            · have e1 : (aN a).getD (axX a first) 0 = 1 := by omega
              have hc0 : c = 0 := by rw [heq, e1]; rfl
              rw [hc0] at ih3 ⊢
              exact ih3
            · have e1 : ((aN a).getD (axX a first) 0 == 1) = false := beq_eq_false_iff_ne.2 (by omega)
              have hc0 : c = (k : Int) := by rw [heq, e1]; rfl
              rw [hc0] at ih3 ⊢
              exact ih3)
          4096 0 () (by omega) (by omega) trivial
        simpa using key3
      by_cases g1 : (aN a).getD (axX a first) 0 = 1
      · exact inner 0 ⟨by omega, by omega⟩ (by rw [g1]; rfl)
      · have e1 : ((aN a).getD (axX a first) 0 == 1) = false := beq_eq_false_iff_ne.2 g1
        have := hL g1
        exact inner (k : Int) ⟨by omega, by omega⟩ (by rw [e1]; rfl))
    4096 0 [] (by omega) (by omega) ⟨by simp, by simp⟩
  simpa using key
theorem ref15_Replicate_sp (n a : Arr) (first : Bool) (hn : rightA 8 n = true) (ha : rightA 8 a = true) : Sp 13 [dA n, dA a, .bool first] [dA (replS n a first).1, .int (replS n a first).2] := by
  have ln := (rightA_len hn).1
  have hx := axX_lt a first
  have hLe := aN_le ha hx
  have hin := intsA_inR2 n
  have hil := intsA_len2 n
  refine sound_ 4096 (ref15_Replicate_tree _ _ _ _) (wp_call (ref08_Ints_sp n ln (rightA_top hn)) ?_)
  unfold replS lS
  have hone : n.shape = [] → (intsA n).2 = 0 → ∃ k, (intsA n).1 = [k] := fun hs h0 => by
    have hc := (rightA_cells hn).1
    rw [hs, show countS ([] : List Int) = (1, 0) by decide] at hc
    have hc1 := congrArg Prod.fst hc
    have : n.cells.length = 1 := by simp only at hc1; omega
    unfold intsA at h0 ⊢
    rw [if_neg (by rw [hs]; simp)] at h0 ⊢
    split at h0
    · rename_i l hl
      have := (intsCs_inR hl).1
      exact len_one (by simp only; omega)
    · cases h0
  generalize hp : intsA n = p at *
  obtain ⟨l, e⟩ := p
  simp only [getD_c0, getD_c1, toInt_int, int_bne, dA_none, toBool_bool] at hin hil hone ⊢
  refine wp_decs (fun h => wp_ret (by rw [if_pos h])) (fun h => ?_)
  rw [if_neg h]
  have h0 : e = 0 := Classical.not_not.1 h
  subst h0
  have sh : (((n.shape.length : Nat) : Int) = 0) ↔ n.shape = [] := ⟨fun g => List.length_eq_zero_iff.1 (by omega), fun g => by rw [g]; rfl⟩
  -- behind the numbers' test
  have rest_ : ∀ (hpos : ∀ k ∈ l, 0 ≤ k) (m : Nat) (k : Nat), k = l.length → Tw (ref15_Replicate_l5 4096 (m + 1) first (dI l) (k : Int) (dA n) (dA a) 0) [dA (if (aN a).getD (axX a first) 0 ≠ 1 ∧ (if n.shape = [] then List.replicate ((aN a).getD (axX a first) 0) (l.headD 0) else l).length ≠ (aN a).getD (axX a first) 0 then (Arr.none, (4 : Int)) else match frS ((aN a).getD (axX a first) 0 == 1) (if n.shape = [] then List.replicate ((aN a).getD (axX a first) 0) (l.headD 0) else l) 0 [] with
      | none => (.none, 7)
      | some fr => rowS a (aN a) (axX a first) fr (totA n)).1, .int (if (aN a).getD (axX a first) 0 ≠ 1 ∧ (if n.shape = [] then List.replicate ((aN a).getD (axX a first) 0) (l.headD 0) else l).length ≠ (aN a).getD (axX a first) 0 then (Arr.none, (4 : Int)) else match frS ((aN a).getD (axX a first) 0 == 1) (if n.shape = [] then List.replicate ((aN a).getD (axX a first) 0) (l.headD 0) else l) 0 [] with
      | none => (.none, 7)
      | some fr => rowS a (aN a) (axX a first) fr (totA n)).2] := by
    intro hpos m k hk
    simp only [ref15_Replicate_l5_succ, els_dI, List.length_map, dA_none]
    refine wp_ndec (by omega) (wp_call (ref15_axis_sp a first ha) ?_)
    simp only [getD_c0, getD_c1, toInt_int, dA_1, Arr.shape_mk, els_dI, List.length_map, Int.toNat_natCast, at_iN hx, iN_len, int_beq, int_bne, sh]
    refine wp_dec (by omega) (wp_dec (by omega) (wp_decs (fun hs => ?_) (fun hs => ?_)))
    · obtain ⟨z, rfl⟩ := hone hs rfl
      have hz := hpos z (by simp)
      simp only [if_pos hs, List.headD_cons]
      rw [if_neg (by simp)]
      simp only [List.map_cons, List.map_nil, List.length_cons, List.length_nil, Int.toNat_zero, getD_c0, toInt_int]
      refine wp_dec (by first | omega | trivial) (wp_dec (by first | omega | trivial | decide) ?_)
      have fin := ref15_repl_loop n a first (rightA_sml hn).fits ha (List.replicate ((aN a).getD (axX a first) 0) z) (by rw [List.length_replicate]; omega) (fun y hy => by rw [List.eq_of_mem_replicate hy]; exact hz) (fun y hy => by rw [List.eq_of_mem_replicate hy]; exact (hin z (by simp)).2) (fun _ => by rw [List.length_replicate])
      have key := loop_up (P := Tryz.prog) (md := md) ((aN a).getD (axX a first) 0) (fun q j (_ : Unit) => ref15_Replicate_l15 4096 q ((List.replicate j z).map D.int) ((axX a first : Nat) : Int) (((aN a).getD (axX a first) 0 : Nat) : Int) z (j : Int) (dA n) 0 (dA (.mk a.s (iN (aN a)) a.cells))) (fun _ _ => (match frS ((aN a).getD (axX a first) 0 == 1) (List.replicate ((aN a).getD (axX a first) 0) z) 0 [] with
          | none => [dA .none, .int 7]
          | some fr => [dA (rowS a (aN a) (axX a first) fr (totA n)).1, .int (rowS a (aN a) (axX a first) fr (totA n)).2])) (fun _ _ => True)
        (fun q t _ => by
          simp only [ref15_Replicate_l15_succ, List.length_map, List.length_replicate, int_bne, dsl_dI]
          exact wp_ndec (by omega) (wp_decs (fun _ => wp_ndec (by simp) fin) (fun _ => fin)))
        (fun q j t hj _ ih => by
          have ih := ih () trivial
          rw [List.replicate_succ', List.map_append] at ih
          simp only [ref15_Replicate_l15_succ, List.length_map, List.length_replicate, List.length_cons, List.length_nil, wrap_succ (show j < 9223372036854775807 by omega)]
          exact wp_dec (by omega) (wp_dec (by simp only [bigN]; omega) ih))
        4096 0 () (by omega) (by omega) trivial
      refine Tree.wp_mono key (fun ys hy => hy.trans ?_)
      cases frS ((aN a).getD (axX a first) 0 == 1) (List.replicate ((aN a).getD (axX a first) 0) z) 0 [] <;> rfl
    · simp only [if_neg hs]
      have fin : ((aN a).getD (axX a first) 0 ≠ 1 → l.length = (aN a).getD (axX a first) 0) → Tw (ref15_Replicate_l22 4096 4096 (dI l) ((axX a first : Nat) : Int) (((aN a).getD (axX a first) 0 : Nat) : Int) [] 0 (dA n) 0 (dA (.mk a.s (iN (aN a)) a.cells))) [dA (if (aN a).getD (axX a first) 0 ≠ 1 ∧ l.length ≠ (aN a).getD (axX a first) 0 then (Arr.none, (4 : Int)) else match frS ((aN a).getD (axX a first) 0 == 1) l 0 [] with
          | none => (.none, 7)
          | some fr => rowS a (aN a) (axX a first) fr (totA n)).1, .int (if (aN a).getD (axX a first) 0 ≠ 1 ∧ l.length ≠ (aN a).getD (axX a first) 0 then (Arr.none, (4 : Int)) else match frS ((aN a).getD (axX a first) 0 == 1) l 0 [] with
          | none => (.none, 7)
          | some fr => rowS a (aN a) (axX a first) fr (totA n)).2] := by
        intro hc
        rw [if_neg (fun hh => hh.2 (hc hh.1))]
        refine Tree.wp_mono (ref15_repl_loop n a first (rightA_sml hn).fits ha l (by omega) hpos (fun z hz => (hin z hz).2) hc) (fun ys hy => hy.trans ?_)
        cases frS ((aN a).getD (axX a first) 0 == 1) l 0 [] <;> rfl
      refine wp_decs (fun g => wp_decs (fun g2 => wp_ret ?_) (fun g2 => fin (fun _ => by omega))) (fun g => fin (fun hne => absurd hne (by omega)))
      rw [if_pos ⟨by omega, by omega⟩]
  have key := loop_list (P := Tryz.prog) (md := md) l (fun m k (_ : Unit) => ref15_Replicate_l5 4096 m first (dI l) (k : Int) (dA n) (dA a) 0) (fun rest _ => if ∃ z ∈ rest, z < 0 then [dA .none, .int 3] else [dA (if (aN a).getD (axX a first) 0 ≠ 1 ∧ (if n.shape = [] then List.replicate ((aN a).getD (axX a first) 0) (l.headD 0) else l).length ≠ (aN a).getD (axX a first) 0 then (Arr.none, (4 : Int)) else match frS ((aN a).getD (axX a first) 0 == 1) (if n.shape = [] then List.replicate ((aN a).getD (axX a first) 0) (l.headD 0) else l) 0 [] with
      | none => (.none, 7)
      | some fr => rowS a (aN a) (axX a first) fr (totA n)).1, .int (if (aN a).getD (axX a first) 0 ≠ 1 ∧ (if n.shape = [] then List.replicate ((aN a).getD (axX a first) 0) (l.headD 0) else l).length ≠ (aN a).getD (axX a first) 0 then (Arr.none, (4 : Int)) else match frS ((aN a).getD (axX a first) 0 == 1) (if n.shape = [] then List.replicate ((aN a).getD (axX a first) 0) (l.headD 0) else l) 0 [] with
      | none => (.none, 7)
      | some fr => rowS a (aN a) (axX a first) fr (totA n)).2]) (fun rest _ => ∃ pre, l = pre ++ rest ∧ ∀ z ∈ pre, 0 ≤ z)
    (fun m k t hk hI => by
      obtain ⟨pre, hp1, hp2⟩ := hI
      rw [List.append_nil] at hp1
      rw [if_neg (by simp)]
      exact rest_ (fun z hz => hp2 z (by rw [← hp1]; exact hz)) m k hk)
    (fun m k t z rest hd hI ih => by
      obtain ⟨h1, h2, h3⟩ := drop_cons hd
      obtain ⟨pre, hp1, hp2⟩ := hI
      simp only [ref15_Replicate_l5_succ, els_dI, List.length_map, Int.toNat_natCast, getD_map h2, toInt_int, dA_none, wrap_succ (show k < 9223372036854775807 by omega)]
      refine wp_dec (by omega) (wp_dec (by omega) (wp_dec (by omega) (wp_decs (fun g => wp_ret ?_) (fun g => ?_))))
      · rw [if_pos ⟨z, by simp, g⟩]
      · have ih := ih () ⟨pre ++ [z], by rw [hp1]; simp, fun y hy => by
          rcases List.mem_append.1 hy with hy | hy
          · exact hp2 y hy
          · have : y = z := by simpa using hy
            omega⟩
        refine Tree.wp_mono ih (fun ys hy => hy.trans ?_)
        by_cases q : ∃ y ∈ rest, y < 0
        · have q' : ∃ y ∈ z :: rest, y < 0 := by obtain ⟨y, hy, hy2⟩ := q; exact ⟨y, by simp [hy], hy2⟩
          simp only [if_pos q, if_pos q']
        · have q' : ¬ ∃ y ∈ z :: rest, y < 0 := by
            rintro ⟨y, hy, hy2⟩
            rcases List.mem_cons.1 hy with rfl | hy
            · exact g hy2
            · exact q ⟨y, hy, hy2⟩
          simp only [if_neg q, if_neg q'])
    4096 0 () (by omega) (by omega) ⟨[], rfl, by simp⟩
  refine Tree.wp_mono key (fun ys hy => hy.trans ?_)
  rw [List.drop_zero]
  split <;> rfl
end Go.Proofs.YtbgcadcpeabpgaaGreat
set_option maxRecDepth 100000
namespace Go.Proofs.YtbgcadcpeabpgaaGreat
def fromL : List Int → Nat → List Int
  | [], _ => []
  | k :: ks, o => if k = 1 then (o : Int) :: fromL ks (o + 1) else -1 :: fromL ks o
def cntL : List Int → Nat
  | [] => 0
  | k :: ks => if k = 1 then cntL ks + 1 else cntL ks
def flat0 (z : Int) : Int := if 0 < z then 0 else z
def frE (L : Nat) (l : List Int) : List Int := if L = 1 then (fromL l 0).map flat0 else fromL l 0
def Bits (l : List Int) : Prop := ∀ k ∈ l, k = 0 ∨ k = 1
theorem fromL_len : ∀ (l : List Int) (o : Nat), (fromL l o).length = l.length
  | [], _ => rfl
  | k :: ks, o => by
    rw [fromL]
    split
    · rw [List.length_cons, fromL_len ks, List.length_cons]
    · rw [List.length_cons, fromL_len ks, List.length_cons]
theorem fromL_in : ∀ (l : List Int) (o : Nat), ∀ z ∈ fromL l o, z = -1 ∨ ((o : Int) ≤ z ∧ z < ((o + cntL l : Nat) : Int))
  | [], _, z, h => by simp [fromL] at h
  | k :: ks, o, z, h => by
    rw [fromL] at h
    rw [cntL]
    split at h
    · rename_i hk
      rw [if_pos hk]
      rcases List.mem_cons.1 h with rfl | h
      · right; omega
      · rcases fromL_in ks (o + 1) z h with h | h
        · exact .inl h
        · right; omega
    · rename_i hk
      rw [if_neg hk]
      rcases List.mem_cons.1 h with rfl | h
      · exact .inl rfl
      · exact fromL_in ks o z h
theorem frE_len (L : Nat) (l : List Int) : (frE L l).length = l.length := by
  unfold frE; split
  · rw [List.length_map, fromL_len]
  · rw [fromL_len]
theorem frE_good {L : Nat} {l : List Int} (h : L ≠ 1 → cntL l = L) : GoodF L (frE L l) := by
  intro z hz
  unfold frE at hz
  split at hz
  · rename_i h1
    obtain ⟨y, hy, rfl⟩ := List.mem_map.1 hz
    unfold flat0
    rcases fromL_in l 0 y hy with h | h
    · subst h; left; decide
    · right; split <;> omega
  · rename_i h1
    have := h h1
    rcases fromL_in l 0 z hz with h | h
    · left; omega
    · right; omega
instance (l : List Int) : Decidable (Bits l) := by unfold Bits; infer_instance
noncomputable def expS (n a : Arr) (first : Bool) : Arr × Int :=
  if (intsA n).2 ≠ 0 then (.none, (intsA n).2)
  else if ¬ Bits (intsA n).1 then (.none, 3)
  else if (aN a).getD (axX a first) 0 ≠ 1 ∧ cntL (intsA n).1 ≠ (aN a).getD (axX a first) 0 then (.none, 4)
  else rowS a (aN a) (axX a first) (frE ((aN a).getD (axX a first) 0) (intsA n).1) (totA n)
theorem bits_sp (l : List Int) (hl : l.length ≤ 2048) : Sp 52 [dI l] [.bool (decide (Bits l))] := by
  refine sound_ 4096 (pick_bits_tree _ _) ?_
  simp only [els_dI, List.length_map]
  have key := loop_list (P := Tryz.prog) (md := md) l (fun m k (_ : Unit) => pick_bits_l2 4096 m (dI l) (l.length : Int) (k : Int)) (fun rest _ => [.bool (decide (Bits rest))]) (fun _ _ => True)
    (fun m k t hk _ => by
      simp only [pick_bits_l2_succ]
      exact wp_ndec (by omega) (wp_ret (by simp [Bits])))
    (fun m k t z rest hd _ ih => by
      obtain ⟨h1, h2, h3⟩ := drop_cons hd
      have ih := ih () trivial
      have go : z = 0 ∨ z = 1 → Tw (pick_bits_l2 4096 m (dI l) (l.length : Int) ((k + 1 : Nat) : Int)) [.bool (decide (Bits (z :: rest)))] := fun hz => by
        rw [show decide (Bits (z :: rest)) = decide (Bits rest) from decide_eq_decide.2 ⟨fun h y hy => h y (by simp [hy]), fun h y hy => by
          rcases List.mem_cons.1 hy with rfl | hy
          · exact hz
          · exact h y hy⟩]
        exact ih
      simp only [pick_bits_l2_succ, els_dI, List.length_map, Int.toNat_natCast, getD_map h2, toInt_int, int_bne, wrap_succ (show k < 9223372036854775807 by omega)]
      refine wp_dec (by omega) (wp_dec (by omega) (wp_dec (by omega) (wp_decs (fun g => wp_decs (fun g2 => wp_ret ?_) (fun g2 => go (by omega))) (fun g => go (by omega)))))
      rw [decide_eq_false (fun h => by have := h z (by simp); omega)])
    4096 0 () (by omega) (by omega) trivial
  simpa using key
theorem exp_rows {d : Nat} (n a : Arr) (first : Bool) (hn : Fits n) (ha : rightA d a = true) (fr : List Int) (hf : GoodF ((aN a).getD (axX a first) 0) fr) (hl : fr.length ≤ 2048) : Tw (.call 45 [] [dA n, dA a, dI (iN (aN a)), .int ((axX a first : Nat) : Int), D.sl (fr.map D.int)] fun yy => .ret [yy.getD 0 D.nil, .int ((yy.getD 1 D.nil).toInt)]) [dA (rowS a (aN a) (axX a first) fr (totA n)).1, .int (rowS a (aN a) (axX a first) fr (totA n)).2] :=
  wp_call (pick_rows_sp n a (aN a) (axX a first) fr hn (aN_boxed ha) (axX_lt a first) hf hl) (wp_ret rfl)
theorem pick_Expand_sp (n a : Arr) (first : Bool) (hn : rightA 8 n = true) (ha : rightA 8 a = true) : Sp 16 [dA n, dA a, .bool first] [dA (expS n a first).1, .int (expS n a first).2] := by
  have ln := (rightA_len hn).1
  have hx := axX_lt a first
  have hLe := aN_le ha hx
  have hil := intsA_len2 n
  refine sound_ 4096 (pick_Expand_tree _ _ _ _) (wp_call (array_Ints_sp n ln (rightA_top hn)) ?_)
  unfold expS
  generalize hp : intsA n = p at *
  obtain ⟨l, e⟩ := p
  simp only [getD_c0, getD_c1, toInt_int, int_bne, dA_none] at hil ⊢
  refine wp_decs (fun h => wp_ret (by rw [if_pos h])) (fun h => ?_)
  rw [if_neg h]
  have h0 : e = 0 := Classical.not_not.1 h
  subst h0
  refine wp_call (bits_sp l (by omega)) ?_
  simp only [getD_c0, toBool_bool]
  refine wp_br (fun g => wp_ret ?_) (fun g => ?_)
  · have : ¬ Bits l := fun hb => by rw [decide_eq_true hb] at g; cases g
    rw [if_pos this]
  have hb : Bits l := by
    by_cases hb : Bits l
    · exact hb
    · rw [decide_eq_false hb] at g; cases g
  rw [if_neg (fun hh => hh hb)]
  refine wp_call (pick_axes_sp a first ha) ?_
  simp only [getD_c0, getD_c1, toInt_int, els_dI, List.length_map, Int.toNat_natCast]
  refine wp_dec (by omega) (wp_dec (by omega) (wp_dec (by simp only [bigN]; omega) ?_))
  have fits := (rightA_sml hn).fits
  -- behind the numbers
  have fin : ∀ (o : Nat), o = cntL l → Tw (.br (decide (0 ≤ ((axX a first : Nat) : Int))) (.br (decide (((axX a first : Nat) : Int) < ((iN (aN a)).length : Int))) (.br (decide ((((iN (aN a)).map D.int).getD (axX a first) D.nil).toInt = 1)) (pick_Expand_l20 4096 4096 (dI (iN (aN a))) ((axX a first : Nat) : Int) ((fromL l 0).map D.int) (((fromL l 0).map D.int).length : Int) 0 (dA n) (dA a) 0 0) (.br (decide (0 ≤ ((axX a first : Nat) : Int))) (.br (decide (((axX a first : Nat) : Int) < ((iN (aN a)).length : Int))) (.br (decide ((o : Int) ≠ (((iN (aN a)).map D.int).getD (axX a first) D.nil).toInt)) (.ret [dA .none, .int 4]) (.call 45 [] [dA n, dA a, dI (iN (aN a)), .int ((axX a first : Nat) : Int), D.sl ((fromL l 0).map D.int)] fun yy => .ret [yy.getD 0 D.nil, .int ((yy.getD 1 D.nil).toInt)])) .fail) .fail)) .fail) .fail) [dA (if (aN a).getD (axX a first) 0 ≠ 1 ∧ cntL l ≠ (aN a).getD (axX a first) 0 then (Arr.none, (4 : Int)) else rowS a (aN a) (axX a first) (frE ((aN a).getD (axX a first) 0) l) (totA n)).1, .int (if (aN a).getD (axX a first) 0 ≠ 1 ∧ cntL l ≠ (aN a).getD (axX a first) 0 then (Arr.none, (4 : Int)) else rowS a (aN a) (axX a first) (frE ((aN a).getD (axX a first) 0) l) (totA n)).2] := by
    rintro o rfl
    simp only [at_iN hx, iN_len, toInt_int]
    refine wp_dec (by omega) (wp_dec (by omega) (wp_decs (fun g1 => ?_) (fun g1 => ?_)))
    · have e1 : (aN a).getD (axX a first) 0 = 1 := by omega
      rw [if_neg (fun hh => hh.1 e1)]
      have hfr : frE ((aN a).getD (axX a first) 0) l = (fromL l 0).map flat0 := by unfold frE; rw [if_pos e1]
      have er := exp_rows n a first fits ha ((fromL l 0).map flat0) (by rw [← hfr]; exact frE_good (fun hh => absurd e1 hh)) (by rw [List.length_map, fromL_len]; omega)
      rw [hfr]
      have fl := fromL_len l 0
      generalize fromL l 0 = fr at *
      have key := loop_up (P := Tryz.prog) (md := md) fr.length (fun m i (_ : Unit) => pick_Expand_l20 4096 m (dI (iN (aN a))) ((axX a first : Nat) : Int) (((fr.take i).map flat0 ++ fr.drop i).map D.int) (fr.length : Int) (i : Int) (dA n) (dA a) 0 0) (fun _ _ => [dA (rowS a (aN a) (axX a first) (fr.map flat0) (totA n)).1, .int (rowS a (aN a) (axX a first) (fr.map flat0) (totA n)).2]) (fun _ _ => True)
        (fun m t _ => by
          simp only [pick_Expand_l20_succ]
          rw [List.take_of_length_le (Nat.le_refl _), List.drop_of_length_le (Nat.le_refl _), List.append_nil]
          exact wp_ndec (by omega) er)
        (fun m i t hi _ ih => by
          have ih := ih () trivial
          have e4 : fr.drop i = fr[i] :: fr.drop (i + 1) := List.drop_eq_getElem_cons hi
          have e5 : fr.take (i + 1) = fr.take i ++ [fr[i]] := by rw [List.take_add_one, List.getElem?_eq_getElem hi]; rfl
          rw [e5, show (fr.take i ++ [fr[i]]).map flat0 ++ fr.drop (i + 1) = (fr.take i).map flat0 ++ (flat0 fr[i] :: fr.drop (i + 1)) by rw [List.map_append, List.append_assoc]; rfl] at ih
          rw [e4]
          generalize fr[i] = z at *
          have t1 : ((fr.take i).map flat0).length = i := by rw [List.length_map, List.length_take]; omega
          have t2 : (fr.drop (i + 1)).length = fr.length - (i + 1) := by rw [List.length_drop]
          have hg : (((fr.take i).map flat0 ++ z :: fr.drop (i + 1)).map D.int).getD i D.nil = D.int z := by
            rw [List.getD_eq_getElem?_getD, List.getElem?_map, List.getElem?_append_right (by omega), t1, Nat.sub_self]; rfl
          have hst : (((fr.take i).map flat0 ++ z :: fr.drop (i + 1)).map D.int).set i (D.int (flat0 z)) = ((fr.take i).map flat0 ++ (flat0 z :: fr.drop (i + 1))).map D.int := by
            rw [← List.map_set, List.set_append_right _ _ (by omega), t1, Nat.sub_self]; rfl
          have ll : ((fr.take i).map flat0 ++ z :: fr.drop (i + 1)).length = fr.length := by rw [List.length_append, t1, List.length_cons, t2]; omega
          simp only [pick_Expand_l20_succ, List.length_map, ll, Int.toNat_natCast, hg, toInt_int, wrap_succ (show i < 9223372036854775807 by omega)]
          refine wp_dec (by omega) (wp_dec (by omega) (wp_dec (by omega) (wp_dec (by omega) (wp_dec (by omega) ?_))))
          rw [show D.int (if 0 < z then 0 else z) = D.int (flat0 z) from rfl, hst]
          exact ih)
        4096 0 () (by omega) (by omega) trivial
      simpa using key
    · have e1 : (aN a).getD (axX a first) 0 ≠ 1 := by omega
      refine wp_dec (by omega) (wp_dec (by omega) (wp_decs (fun g2 => wp_ret ?_) (fun g2 => ?_)))
      · rw [if_pos ⟨e1, by omega⟩]
      · have e2 : cntL l = (aN a).getD (axX a first) 0 := by omega
        rw [if_neg (fun hh => hh.2 e2)]
        have hfr : frE ((aN a).getD (axX a first) 0) l = fromL l 0 := by unfold frE; rw [if_neg e1]
        rw [hfr]
        exact exp_rows n a first fits ha (fromL l 0) (by rw [← hfr]; exact frE_good (fun _ => e2)) (by rw [fromL_len]; omega)
  have key := loop_list (P := Tryz.prog) (md := md) l (fun m k (s : List Int × Nat) => pick_Expand_l11 4096 m (dI (iN (aN a))) ((axX a first : Nat) : Int) (s.1.map D.int ++ List.replicate (l.length - s.1.length) (D.int 0)) (s.2 : Int) (dI l) (l.length : Int) (k : Int) (dA n) (dA a) 0 0) (fun _ _ => [dA (if (aN a).getD (axX a first) 0 ≠ 1 ∧ cntL l ≠ (aN a).getD (axX a first) 0 then (Arr.none, (4 : Int)) else rowS a (aN a) (axX a first) (frE ((aN a).getD (axX a first) 0) l) (totA n)).1, .int (if (aN a).getD (axX a first) 0 ≠ 1 ∧ cntL l ≠ (aN a).getD (axX a first) 0 then (Arr.none, (4 : Int)) else rowS a (aN a) (axX a first) (frE ((aN a).getD (axX a first) 0) l) (totA n)).2]) (fun rest s => s.1.length + rest.length = l.length ∧ fromL l 0 = s.1 ++ fromL rest s.2 ∧ cntL l = s.2 + cntL rest)
    (fun m k s hk hI => by
      obtain ⟨i1, i2, i3⟩ := hI
      simp only [fromL, List.append_nil, List.length_nil, cntL, Nat.add_zero] at i1 i2 i3
      simp only [pick_Expand_l11_succ, i1, Nat.sub_self, List.replicate_zero, List.append_nil, els_dI, List.length_map, Int.toNat_natCast, int_beq, int_bne, dA_none]
      have f := fin s.2 i3.symm
      rw [i2] at f
      simp only [List.length_map, i1] at f
      exact wp_ndec (by omega) f)
    (fun m k s z rest hd hI ih => by
      obtain ⟨h1, h2, h3⟩ := drop_cons hd
      obtain ⟨i1, i2, i3⟩ := hI
      have hle := congrArg List.length hd
      rw [List.length_drop, List.length_cons] at hle
      rw [List.length_cons] at i1
      have hk : k = s.1.length := by omega
      simp only [fromL] at i2
      simp only [cntL] at i3
      have so : s.2 ≤ 2048 := by
        have : ∀ q : List Int, cntL q ≤ q.length := fun q => by
          induction q with
          | nil => exact Nat.le_refl _
          | cons y ys ihq => simp only [cntL, List.length_cons]; split <;> omega
        have := this l
        split at i3 <;> omega
      have en := fun v : Int => set_next (f := D.int) (z := D.int 0) s.1 v (l.length - (s.1.length + 1))
      rw [show l.length - (s.1.length + 1) + 1 = l.length - s.1.length by omega] at en
      have ll : (s.1.map D.int ++ List.replicate (l.length - s.1.length) (D.int 0)).length = l.length := by rw [List.length_append, List.length_map, List.length_replicate]; omega
      have w1 : IntKind.wrap .i64 ((s.2 : Int) + 1) = ((s.2 + 1 : Nat) : Int) := by rw [wrap64 (by omega) (by omega)]; rfl
      simp only [pick_Expand_l11_succ, els_dI, List.length_map, Int.toNat_natCast, getD_map h2, toInt_int, int_beq, ll, List.length_set, List.set_set, w1, wrap_succ (show k < 9223372036854775807 by omega)]
      refine wp_dec (by omega) (wp_dec (by omega) (wp_dec (by omega) (wp_dec (by omega) (wp_dec (by omega) (wp_decs (fun g => wp_dec (by omega) (wp_dec (by omega) ?_)) (fun g => ?_))))))
      · rw [if_pos g] at i2 i3
        have ih := ih (s.1 ++ [(s.2 : Int)], s.2 + 1) ⟨by rw [List.length_append, List.length_cons, List.length_nil]; omega, by rw [i2]; simp, by omega⟩
        rw [hk, en]
        simp only [List.length_append, List.length_cons, List.length_nil, hk] at ih
        exact ih
      · rw [if_neg g] at i2 i3
        have ih := ih (s.1 ++ [-1], s.2) ⟨by rw [List.length_append, List.length_cons, List.length_nil]; omega, by rw [i2]; simp, i3⟩
        rw [hk, en]
        simp only [List.length_append, List.length_cons, List.length_nil, hk] at ih
        exact ih)
    4096 0 ([], 0) (by omega) (by omega) ⟨by simp, by simp, by simp⟩
  simpa using key
end Go.Proofs.YtbgcadcpeabpgaaGreat
set_option maxRecDepth 100000
namespace Go.Proofs.YtbgcadcpeabpgaaGreat
/-- What is chosen along an axis. -/
structure Ax where
  all : Bool
  at_ : Arr
def dX (x : Ax) : D := .agg [.bool x.all, dA x.at_]
theorem dX_0 (x : Ax) : (dX x).fld 0 = .bool x.all := rfl
theorem dX_1 (x : Ax) : (dX x).fld 1 = dA x.at_ := rfl
def subS (long : Int) : List Int → Option (List Int)
  | [] => some []
  | k :: ks => if k < 1 then none else if long < k then none else (subS long ks).map (fun r => (k - 1) :: r)
theorem subS_len {long : Int} : ∀ {l r : List Int}, subS long l = some r → r.length = l.length ∧ ∀ k ∈ r, 0 ≤ k ∧ k < long
  | [], r, h => by simp [subS] at h; subst h; simp
  | k :: ks, r, h => by
    rw [subS] at h
    split at h
    · cases h
    split at h
    · cases h
    cases hs : subS long ks with
    | none => rw [hs] at h; cases h
    | some q =>
      rw [hs] at h
      simp only [Option.map_some, Option.some.injEq] at h
      subst h
      obtain ⟨h1, h2⟩ := subS_len hs
      refine ⟨by simp [h1], fun j hj => ?_⟩
      rcases List.mem_cons.1 hj with rfl | hj
      · omega
      · exact h2 j hj
theorem subS_all {long : Int} : ∀ {l : List Int}, (∀ k ∈ l, 1 ≤ k ∧ k ≤ long) → subS long l = some (l.map (· - 1))
  | [], _ => rfl
  | k :: ks, h => by
    have := h k (by simp)
    rw [subS, if_neg (by omega), if_neg (by omega), subS_all (fun j hj => h j (by simp [hj]))]; rfl
def partS (x : Ax) (long : Int) : List Int × Int := if x.all then (if 2048 < long then ([], 7) else ((List.range long.toNat).map (fun (i : Nat) => (i : Int)), 0)) else if (intsA (vectA x.at_.cells)).2 ≠ 0 then ([], (intsA (vectA x.at_.cells)).2) else (match subS long (intsA (vectA x.at_.cells)).1 with
  | some r => (r, 0)
  | none => ([], 6))
def totX (l : List Ax) (s : Lab) : Lab := l.foldl (fun r x => if x.all then r else r ||| totA x.at_) s
structure FineX (x : Ax) : Prop where
  sml : Sml 9 x.at_
  len : x.at_.cells.length ≤ 2048
  top : ∀ c ∈ x.at_.cells, c.n.top.length ≤ 32
theorem intsA_len (a : Arr) : (intsA a).1.length ≤ a.cells.length := by
  unfold intsA
  split
  · simp
  · split
    · rename_i l hl; have := (intsCs_inR hl).1; simp only; omega
    · simp
theorem intsA_inR (a : Arr) : ∀ x ∈ (intsA a).1, inR x := by
  unfold intsA
  split
  · intro x hx; cases hx
  · split
    · rename_i l hl; exact (intsCs_inR hl).2
    · intro x hx; cases hx
theorem part_sp (x : Ax) (L : Nat) (hx : FineX x) (hL : L ≤ 2048) : Sp 57 [dX x, .int (L : Int)] [dI (partS x L).1, .int (partS x L).2] := by
  refine sound_ 4096 (pick_Axis_part_tree _ _ _) ?_
  unfold partS
  simp only [dX_0, dX_1, dA_2, toBool_bool, toInt_int, Int.toNat_natCast, List.length_replicate]
  refine wp_br (fun h => ?_) (fun h => ?_)
  · rw [if_pos h, if_neg (by omega)]
    refine wp_ndec (by omega) (wp_dec (by omega) (wp_dec (by omega) (wp_dec (by simp only [bigN]; omega) ?_)))
    have key := loop_up (P := Tryz.prog) (md := md) L (fun m k (_ : Unit) => pick_Axis_part_l6 4096 m ((List.range k).map (fun (i : Nat) => D.int (i : Int)) ++ List.replicate (L - k) (D.int 0)) (L : Int) (k : Int)) (fun _ _ => [dI ((List.range L).map (fun (i : Nat) => (i : Int))), .int 0]) (fun _ _ => True)
      (fun m s _ => by
        simp only [pick_Axis_part_l6_succ]
        refine wp_ndec (by omega) (wp_ret ?_)
        simp [dI])
      (fun m k s hk _ ih => by
        have ih := ih () trivial
        simp only [pick_Axis_part_l6_succ, List.length_append, List.length_map, List.length_range, List.length_replicate, Int.toNat_natCast, wrap_succ (show k < 9223372036854775807 by omega)]
        refine wp_dec (by omega) (wp_dec (by omega) (wp_dec (by omega) ?_))
        have e := set_next (f := fun (i : Nat) => D.int (i : Int)) (z := D.int 0) (List.range k) k (L - (k + 1))
        rw [List.length_range, ← List.range_succ, show L - (k + 1) + 1 = L - k by omega] at e
        rw [e]
        exact ih)
      4096 0 () (by omega) (by omega) trivial
    simpa using key
  · have hlen := intsA_len (vectA x.at_.cells)
    rw [if_neg (by rw [h]; decide)]
    refine wp_call (array_Vector_sp (d := 8) x.at_.cells (hx.sml.cell) (by have := hx.len; omega)) (wp_call (array_Ints_sp _ hx.len hx.top) ?_)
    have hlen : (intsA (vectA x.at_.cells)).1.length ≤ 2048 := Nat.le_trans hlen hx.len
    have hin := intsA_inR (vectA x.at_.cells)
    generalize intsA (vectA x.at_.cells) = p at *
    obtain ⟨ks, e⟩ := p
    simp only [getD_c0, getD_c1, toInt_int, int_bne, els_dI, List.length_map, Int.toNat_natCast] at hlen hin ⊢
    refine wp_decs (fun h => wp_ret (by rw [if_pos h]; rfl)) (fun h => ?_)
    rw [if_neg h]
    refine wp_dec (by omega) (wp_dec (by omega) (wp_dec (by simp only [bigN]; omega) ?_))
    have key := loop_list (P := Tryz.prog) (md := md) ks (fun m k (pre : List Int) => pick_Axis_part_l16 4096 m (L : Int) (pre.map D.int ++ List.replicate (ks.length - pre.length) (D.int 0)) (dI ks) (ks.length : Int) (k : Int)) (fun rest pre => match subS L rest with
        | some r => [dI (pre ++ r), .int 0]
        | none => [dI [], .int 6]) (fun rest pre => pre.length + rest.length = ks.length)
      (fun m k pre hk hI => by
        simp only [pick_Axis_part_l16_succ, List.length_nil] at hI ⊢
        refine wp_ndec (by omega) (wp_ret ?_)
        rw [show ks.length - pre.length = 0 by omega]
        simp [subS, dI])
      (fun m k pre x rest hd hI ih => by
        obtain ⟨h1, h2, h3⟩ := drop_cons hd
        have hle := congrArg List.length hd
        rw [List.length_drop, List.length_cons] at hle
        rw [List.length_cons] at hI
        have hk : k = pre.length := by omega
        have hir := hin x (List.mem_of_getElem? h2)
        simp only [pick_Axis_part_l16_succ, els_dI, List.length_map, Int.toNat_natCast, getD_map h2, toInt_int, wrap_succ (show k < 9223372036854775807 by omega), List.length_append, List.length_replicate, subS]
        refine wp_dec (by omega) (wp_dec (by omega) (wp_dec (by omega) (wp_decs (fun g => wp_ret (by rw [if_pos g]; rfl)) (fun g => ?_))))
        simp only [if_neg g]
        refine wp_decs (fun g2 => wp_ret (by rw [if_pos g2]; rfl)) (fun g2 => ?_)
        simp only [if_neg g2]
        have w : IntKind.wrap .i64 (x - 1) = x - 1 := wrap64 (by omega) (by omega)
        refine wp_dec (by omega) (wp_dec (by omega) ?_)
        have e := set_next (f := D.int) (z := D.int 0) pre (x - 1) (ks.length - (pre.length + 1))
        rw [show ks.length - (pre.length + 1) + 1 = ks.length - pre.length by omega] at e
        rw [w, hk, e]
        have := ih (pre ++ [x - 1]) (by simp; omega)
        rw [List.length_append, List.length_cons, List.length_nil, hk] at this
        refine Tree.wp_mono this (fun ys hy => hy.trans ?_)
        cases subS L rest with
        | none => rfl
        | some r => simp)
      4096 0 [] (by omega) (by omega) (by simp)
    simp only [List.map_nil, List.nil_append, List.length_nil, Nat.sub_zero] at key
    refine Tree.wp_mono key (fun ys hy => hy.trans ?_)
    rw [List.drop_zero]
    cases subS L ks with
    | none => rfl
    | some r => simp
theorem pick_Total_sp (l : List Ax) (hl : ∀ x ∈ l, FineX x) (hlen : l.length ≤ 100) : Sp 25 [.sl (l.map dX)] [dB (totX l 0)] := by
  refine sound_ 4096 (pick_Total_tree _ _) ?_
  simp only [els_sl, List.length_map]
  have key := loop_list (P := Tryz.prog) (md := md) l (fun m k (s : Lab) => pick_Total_l3 4096 m (s.toNat : Int) (.sl (l.map dX)) (l.length : Int) (k : Int)) (fun rest s => [dB (totX rest s)]) (fun _ _ => True)
    (fun m k s hk _ => by
      simp only [pick_Total_l3_succ]
      exact wp_ndec (by omega) (wp_ret (by rw [dInt_dB]; rfl)))
    (fun m k s x rest hd _ ih => by
      obtain ⟨h1, h2, h3⟩ := drop_cons hd
      simp only [pick_Total_l3_succ, els_sl, List.length_map, Int.toNat_natCast, getD_map h2, dX_0, dX_1, toBool_bool, wrap_succ (show k < 9223372036854775807 by omega)]
      refine wp_dec (by omega) (wp_dec (by omega) (wp_dec (by omega) (wp_br (fun g => ?_) (fun g => ?_))))
      · have g : x.all = false := by simpa using g
        refine wp_call (array_Total_sp _ (hl x (List.mem_of_getElem? h2)).sml.fits) ?_
        simp only [getD_c0, toInt_dB, dInt_dB]
        refine wp_call (label_Join_sp s _) ?_
        simp only [getD_c0, toInt_dB]
        have := ih (s ||| totA x.at_) trivial
        rw [show totX (x :: rest) s = totX rest (s ||| totA x.at_) by simp [totX, g]]
        exact this
      · have g : x.all = true := by simpa using g
        rw [show totX (x :: rest) s = totX rest s by simp [totX, g]]
        exact ih s trivial)
    4096 0 0 (by omega) (by omega) trivial
  exact key
/-- Of a list, by the places that a list of numbers says. -/
theorem pick_Places1_sp (a x : Arr) (ks : List Int) (ha : a.shape = [(a.cells.length : Int)]) (la : a.cells.length ≤ 2048) (hx : FineX ⟨false, x⟩) (hs : countS x.shape = ((x.cells.length : Int), 0)) (hi : intsA (vectA x.cells) = (ks, 0)) (hk : ∀ k ∈ ks, 1 ≤ k ∧ k ≤ (a.cells.length : Int)) : Sp 22 [dA a, .sl [dX ⟨false, x⟩]] [dI (ks.map (· - 1)), dI x.shape, .int 0] := by
  have hkl : ks.length ≤ 2048 := by have := intsA_len (vectA x.cells); rw [hi] at this; exact Nat.le_trans this hx.len
  have hsl := (countS_len (l := x.shape) (by rw [hs])).1
  refine sound_ 4096 (pick_Places_tree _ _ _) ?_
  simp only [dA_1, ha, els_sl, els_dI, List.map_cons, List.map_nil, List.length_cons, List.length_nil]
  refine wp_ff (by decide) (wp_ff (by decide) ?_)
  have hp := part_sp ⟨false, x⟩ a.cells.length hx la
  have e0 : partS ⟨false, x⟩ (a.cells.length : Int) = (ks.map (· - 1), 0) := by
    unfold partS
    simp only [hi]
    rw [subS_all hk]; rfl
  rw [e0] at hp
  have last : ∀ q6 : Nat, Tw (pick_Places_l6 4096 (q6 + 1) (.sl [dX ⟨false, x⟩]) ((0 + 1 : Nat) : Int) ((0 + 1 : Nat) : Int) (dA a) ((ks.map (· - 1)).map D.int) (x.shape.map D.int) 0) [dI (ks.map (· - 1)), dI x.shape, .int 0] := by
    intro q6
    simp only [pick_Places_l6_succ]
    refine wp_ndec (by omega) (wp_call (shape_Count_sp x.shape) ?_)
    rw [hs]
    exact wp_ff rfl (wp_ret rfl)
  have inner : ∀ q6 q16 : Nat, Tw (pick_Places_l19 4096 (q6 + 1) (q16 + 1) 4096 (a.cells.length : Int) (dI (ks.map (· - 1))) [] 0 (.sl [dX ⟨false, x⟩]) ((0 + 1 : Nat) : Int) 0 (.sl [D.int 0]) ((0 + 1 : Nat) : Int) 0 (dI (ks.map (· - 1))) (ks.length : Int) 0 (dA a) (.sl [D.int 0]) [] 0 (dX ⟨false, x⟩)) [dI (ks.map (· - 1)), dI x.shape, .int 0] := by
    intro q6 q16
    have key := loop_list (P := Tryz.prog) (md := md) (ks.map (· - 1)) (fun m k (out : List Int) => pick_Places_l19 4096 (q6 + 1) (q16 + 1) m (a.cells.length : Int) (dI (ks.map (· - 1))) (out.map D.int) 0 (.sl [dX ⟨false, x⟩]) ((0 + 1 : Nat) : Int) 0 (.sl [D.int 0]) ((0 + 1 : Nat) : Int) 0 (dI (ks.map (· - 1))) (ks.length : Int) (k : Int) (dA a) (.sl [D.int 0]) [] 0 (dX ⟨false, x⟩)) (fun _ _ => [dI (ks.map (· - 1)), dI x.shape, .int 0]) (fun rest out => ks.map (· - 1) = out ++ rest)
      (fun m k out hk hI => by
        rw [List.append_nil] at hI
        rw [List.length_map] at hk
        rw [pick_Places_l19_succ]
        refine wp_ndec (by omega) ?_
        rw [pick_Places_l16_succ]
        refine wp_ndec (by decide) ?_
        simp only [dX_0, dX_1, dA_1, toBool_bool, els_dI, List.length_nil, List.length_map, List.nil_append]
        refine wp_ff rfl (wp_dec (by simp only [bigN]; omega) ?_)
        rw [← hI]
        exact last q6)
      (fun m k out z rest hd hI ih => by
        obtain ⟨h1, h2, h3⟩ := drop_cons hd
        rw [List.length_map] at h1
        have hol : out.length ≤ ks.length := by have := congrArg List.length hI; simp at this; omega
        have hz : 0 ≤ z ∧ z < (a.cells.length : Int) := by
          obtain ⟨y, hy, rfl⟩ := List.mem_map.1 (List.mem_of_getElem? h2)
          have := hk y hy
          show 0 ≤ y - 1 ∧ y - 1 < _
          omega
        have w : IntKind.wrap .i64 (IntKind.wrap .i64 (0 * (a.cells.length : Int)) + z) = z := by rw [Int.zero_mul, show IntKind.wrap .i64 0 = 0 by decide, Int.zero_add, wrap64 (by omega) (by omega)]
        simp only [pick_Places_l19_succ, els_dI, List.length_map, Int.toNat_natCast, getD_map h2, toInt_int, wrap_succ (show k < 9223372036854775807 by omega), w, List.length_cons, List.length_nil]
        refine wp_dec (by omega) (wp_dec (by omega) (wp_dec (by omega) (wp_dec (by simp only [bigN]; omega) ?_)))
        have := ih (out ++ [z]) (by rw [hI]; simp)
        rw [List.map_append] at this
        exact this)
      4096 0 [] (by simp; omega) (by omega) (by simp)
    exact key
  rw [pick_Places_l6_succ 4096 4095]
  simp only [dA_1, ha, els_dI, els_sl, List.map_cons, List.map_nil, List.length_cons, List.length_nil, Int.toNat_zero, getD_c0, toInt_int]
  refine wp_dec (by decide) (wp_dec (by decide) (wp_dec (by decide) (wp_dec (by decide) (wp_dec (by decide) (wp_call hp ?_)))))
  simp only [getD_c0, getD_c1, toInt_int, els_dI, List.length_map]
  have w2 : IntKind.wrap .i64 (((0 + 1 : Nat) : Int) * (ks.length : Int)) = (ks.length : Int) := by
    rw [show ((0 + 1 : Nat) : Int) * (ks.length : Int) = (ks.length : Int) by omega, wrap64 (by omega) (by omega)]
  rw [w2]
  refine wp_ff rfl (wp_ndec (by omega) (wp_dec (by decide) (wp_dec (by omega) (wp_dec (by simp only [bigN]; omega) ?_))))
  rw [pick_Places_l16_succ 4096 4095 4095]
  simp only [List.replicate_zero, List.length_cons, List.length_nil, Int.toNat_zero, getD_c0, toInt_int, els_sl, els_dI, List.length_map]
  exact wp_dec (by decide) (wp_dec (by decide) (wp_dec (by decide) (inner 4094 4094)))
theorem pick_At1_sp (a x : Arr) (ks : List Int) (ha : a.shape = [(a.cells.length : Int)]) (la : a.cells.length ≤ 2048) (hx : FineX ⟨false, x⟩) (hs : countS x.shape = ((x.cells.length : Int), 0)) (hi : intsA (vectA x.cells) = (ks, 0)) (hk : ∀ k ∈ ks, 1 ≤ k ∧ k ≤ (a.cells.length : Int)) : Sp 19 [dA a, .sl [dX ⟨false, x⟩]] [dA (.mk (a.s ||| totA x) x.shape (ks.map (fun k => a.cells.getD (k - 1).toNat Cell.none))), .int 0] := by
  have hkl : ks.length ≤ 2048 := by have := intsA_len (vectA x.cells); rw [hi] at this; exact Nat.le_trans this hx.len
  refine sound_ 4096 (pick_At_tree _ _ _) (wp_call (pick_Places1_sp a x ks ha la hx hs hi hk) (wp_ff rfl ?_))
  simp only [getD_c0, getD_c1, els_dI, List.length_map, Int.toNat_natCast, dC_none']
  refine wp_dec (by omega) (wp_dec (by omega) (wp_dec (by simp only [bigN]; omega) ?_))
  have key := loop_list (P := Tryz.prog) (md := md) ks (fun m k (cs : List Cell) => pick_At_l7 4096 m (.sl [dX ⟨false, x⟩]) (dI x.shape) (cs.map dC ++ List.replicate (ks.length - cs.length) (dC Cell.none)) (dI (ks.map (· - 1))) (ks.length : Int) (k : Int) (dA a) 0 0) (fun rest cs => [dA (.mk (a.s ||| totA x) x.shape (cs ++ rest.map (fun k => a.cells.getD (k - 1).toNat Cell.none))), .int 0]) (fun rest cs => cs.length + rest.length = ks.length)
    (fun m k cs hk hI => by
      simp only [pick_At_l7_succ, List.length_nil, dA_0, toInt_dB, dInt_dB] at hI ⊢
      refine wp_ndec (by omega) (wp_call (pick_Total_sp [⟨false, x⟩] (fun y hy => by simp at hy; subst hy; exact hx) (by simp)) ?_)
      simp only [getD_c0, toInt_dB, dInt_dB]
      refine wp_call (label_Join_sp a.s _) (wp_ret ?_)
      rw [show ks.length - cs.length = 0 by omega, dA_eq]
      simp [totX]
      rw [dB, BitVec.toNat_or])
    (fun m k cs z rest hd hI ih => by
      obtain ⟨h1, h2, h3⟩ := drop_cons hd
      have hle := congrArg List.length hd
      rw [List.length_drop, List.length_cons] at hle
      rw [List.length_cons] at hI
      have hkc : k = cs.length := by omega
      have hz := hk z (List.mem_of_getElem? h2)
      have g2 : (ks.map (· - 1))[k]? = some (z - 1) := by rw [List.getElem?_map, h2]; rfl
      have hzl : (z - 1).toNat < a.cells.length := by omega
      have gc : (a.cells.map dC).getD (z - 1).toNat D.nil = dC (a.cells.getD (z - 1).toNat Cell.none) := by
        rw [getD_map (List.getElem?_eq_getElem hzl), List.getD_eq_getElem?_getD, List.getElem?_eq_getElem hzl]; rfl
      simp only [pick_At_l7_succ, els_dI, dA_2, els_sl, List.length_map, Int.toNat_natCast, getD_map g2, toInt_int, gc, wrap_succ (show k < 9223372036854775807 by omega), List.length_append, List.length_replicate]
      refine wp_dec (by omega) (wp_dec (by omega) (wp_dec (by omega) (wp_dec (by omega) (wp_dec (by omega) (wp_dec (by omega) (wp_dec (by omega) ?_))))))
      have e := set_next (f := dC) (z := dC Cell.none) cs (a.cells.getD (z - 1).toNat Cell.none) (ks.length - (cs.length + 1))
      rw [show ks.length - (cs.length + 1) + 1 = ks.length - cs.length by omega] at e
      rw [hkc, e]
      have := ih (cs ++ [a.cells.getD (z - 1).toNat Cell.none]) (by simp; omega)
      rw [List.length_append, List.length_cons, List.length_nil, hkc] at this
      refine Tree.wp_mono this (fun ys hy => hy.trans ?_)
      simp)
    4096 0 [] (by omega) (by omega) (by simp)
  simpa using key
end Go.Proofs.YtbgcadcpeabpgaaGreat
set_option maxRecDepth 100000
namespace Go.Proofs.YtbgcadcpeabpgaaGreat
/-! scrim/scrimlaw15.PickReplicates -/
def law15_PickReplicates_orc : List (Nat × Orc) := []
theorem law15_PickReplicates_tree (n : Nat) (nn0 : D) (a1 : D) (first2 : D) : evFun Tryz.prog md law15_PickReplicates_orc n 3 [] [nn0, a1, first2] =
 .call 9 [] [nn0] fun yy1 =>
 .br (!((yy1.getD 0 D.nil).toBool)) (.call 11 [] [] fun yy2 =>
 .ret [D.bool ((yy2.getD 0 D.nil).toBool)])
 (.call 9 [] [a1] fun yy3 =>
 .br (!((yy3.getD 0 D.nil).toBool)) (.call 11 [] [] fun yy4 =>
 .ret [D.bool ((yy4.getD 0 D.nil).toBool)])
 (.call 10 [] [nn0] fun yy5 =>
 .br ((yy5.getD 0 D.nil).toBool) (.call 11 [] [] fun yy6 =>
 .ret [D.bool ((yy6.getD 0 D.nil).toBool)])
 (.call 12 [] [nn0, a1, D.bool first2.toBool] fun yy7 =>
 .call 13 [] [nn0, a1, D.bool first2.toBool] fun yy8 =>
 .call 14 [] [yy7.getD 0 D.nil, D.int ((yy7.getD 1 D.nil).toInt), yy8.getD 0 D.nil, D.int ((yy8.getD 1 D.nil).toInt)] fun yy9 =>
 .br ((yy9.getD 0 D.nil).toBool) (.br (((yy7.getD 1 D.nil).toInt) != 0) (.call 11 [] [] fun yy10 =>
 .ret [D.bool ((yy10.getD 0 D.nil).toBool)])
 (.call 15 [] [yy7.getD 0 D.nil, D.int 8] fun yy11 =>
 .br ((yy11.getD 0 D.nil).toBool) (.call 11 [] [] fun yy12 =>
 .ret [D.bool ((yy12.getD 0 D.nil).toBool)])
 (.ret [D.bool false])))
 (.ret [D.bool false])))) := by kernel_rfl

/-! scrim/scrimlaw15.PickExpands -/
def law15_PickExpands_orc : List (Nat × Orc) := []
theorem law15_PickExpands_tree (n : Nat) (nn0 : D) (a1 : D) (first2 : D) : evFun Tryz.prog md law15_PickExpands_orc n 4 [] [nn0, a1, first2] =
 .call 9 [] [nn0] fun yy1 =>
 .br (!((yy1.getD 0 D.nil).toBool)) (.call 11 [] [] fun yy2 =>
 .ret [D.bool ((yy2.getD 0 D.nil).toBool)])
 (.call 9 [] [a1] fun yy3 =>
 .br (!((yy3.getD 0 D.nil).toBool)) (.call 11 [] [] fun yy4 =>
 .ret [D.bool ((yy4.getD 0 D.nil).toBool)])
 (.call 16 [] [nn0, a1, D.bool first2.toBool] fun yy5 =>
 .call 17 [] [nn0, a1, D.bool first2.toBool] fun yy6 =>
 .call 14 [] [yy5.getD 0 D.nil, D.int ((yy5.getD 1 D.nil).toInt), yy6.getD 0 D.nil, D.int ((yy6.getD 1 D.nil).toInt)] fun yy7 =>
 .br ((yy7.getD 0 D.nil).toBool) (.br (((yy5.getD 1 D.nil).toInt) != 0) (.call 11 [] [] fun yy8 =>
 .ret [D.bool ((yy8.getD 0 D.nil).toBool)])
 (.call 15 [] [yy5.getD 0 D.nil, D.int 8] fun yy9 =>
 .br ((yy9.getD 0 D.nil).toBool) (.call 11 [] [] fun yy10 =>
 .ret [D.bool ((yy10.getD 0 D.nil).toBool)])
 (.ret [D.bool false])))
 (.ret [D.bool false]))) := by kernel_rfl

/-! scrim/scrimlaw15.PickWhere -/
def law15_PickWhere_orc : List (Nat × Orc) := []
theorem law15_PickWhere_tree (n : Nat) (nn0 : D) (a1 : D) : evFun Tryz.prog md law15_PickWhere_orc n 7 [] [nn0, a1] =
 .call 9 [] [nn0] fun yy1 =>
 .br (!((yy1.getD 0 D.nil).toBool)) (.call 11 [] [] fun yy2 =>
 .ret [D.bool ((yy2.getD 0 D.nil).toBool)])
 (.call 9 [] [a1] fun yy3 =>
 .br (!((yy3.getD 0 D.nil).toBool)) (.call 11 [] [] fun yy4 =>
 .ret [D.bool ((yy4.getD 0 D.nil).toBool)])
 (.call 28 [] [nn0] fun yy5 =>
 .call 29 [] [nn0] fun yy6 =>
 .call 14 [] [yy5.getD 0 D.nil, D.int ((yy5.getD 1 D.nil).toInt), yy6.getD 0 D.nil, D.int ((yy6.getD 1 D.nil).toInt)] fun yy7 =>
 .br (!((yy7.getD 0 D.nil).toBool)) (.ret [D.bool false])
 (.br (((yy5.getD 1 D.nil).toInt) != 0) (.call 11 [] [] fun yy8 =>
 .ret [D.bool ((yy8.getD 0 D.nil).toBool)])
 (.br ((((a1.fld 1).els).length : Int) != 1) (.call 11 [] [] fun yy9 =>
 .ret [D.bool ((yy9.getD 0 D.nil).toBool)])
 (.br ((((a1.fld 2).els).length : Int) != (((nn0.fld 2).els).length : Int)) (.call 11 [] [] fun yy10 =>
 .ret [D.bool ((yy10.getD 0 D.nil).toBool)])
 (.br ((((a1.fld 2).els).length : Int) == 1) (.call 11 [] [] fun yy11 =>
 .ret [D.bool ((yy11.getD 0 D.nil).toBool)])
 (.call 12 [] [nn0, a1, D.bool false] fun yy12 =>
 .call 19 [] [a1, D.sl [D.agg [D.bool false, yy5.getD 0 D.nil]]] fun yy13 =>
 .br (((yy12.getD 1 D.nil).toInt) == 0) (.br (((yy13.getD 1 D.nil).toInt) == 0) (.call 30 [] [yy12.getD 0 D.nil, yy13.getD 0 D.nil] fun yy14 =>
 .br ((yy14.getD 0 D.nil).toBool) (.call 11 [] [] fun yy15 =>
 .ret [D.bool ((yy15.getD 0 D.nil).toBool)])
 (.ret [D.bool false]))
 (.ret [D.bool false]))
 (.ret [D.bool false])))))))) := by kernel_rfl

/-! scrim/scrimlaw15.light -/
def law15_light_orc : List (Nat × Orc) := []
theorem law15_light_tree (n : Nat) (a0 : D) : evFun Tryz.prog md law15_light_orc n 9 [] [a0] =
 .call 36 [] [a0] fun yy1 =>
 .br ((yy1.getD 0 D.nil).toBool) (.ret [D.bool (decide ((((a0.fld 2).els).length : Int) ≤ 100))])
 (.ret [D.bool false]) := by kernel_rfl

/-! scrim/scrimlaw15.heavy -/
def law15_heavy_orc : List (Nat × Orc) := [(3, ⟨[(3, some 23), (5, none)], [], []⟩)]
def law15_heavy_ps : List Nat := [26]
def law15_heavy_rs : List ResultVar := [.tmp 2]
def law15_heavy_ts : List Nat := [4]
noncomputable def law15_heavy_l3 (n m3 : Nat) (l3 : D) (i5 : Int) : Tree :=
  evLoop Tryz.prog md (ev Tryz.prog md n law15_heavy_orc (cAt (bodyOf Tryz.prog 10) [1, 1, 0, 1, 0, 0])) (orcAt law15_heavy_orc 3) m3 ⟨[.undef, .undef, .undef, .d 23 l3, .undef, .i .i64 i5, .undef, .undef, .undef, .undef, .undef, .undef, .undef, .undef, .undef, .undef, .undef, .undef, .undef, .undef, .undef, .undef, .undef, .undef, .undef, .undef, .undef, .undef, .undef], [], [], [], []⟩
   (blockK 0 (seqK (joinE Tryz.prog md (joinAt law15_heavy_orc (cAt (bodyOf Tryz.prog 10) [1, 1, 1])) (ev Tryz.prog md n law15_heavy_orc (cAt (bodyOf Tryz.prog 10) [1, 1, 1]))) (retK Tryz.prog md (md 10) law15_heavy_ps law15_heavy_rs law15_heavy_ts)))
theorem law15_heavy_l3_succ (n m3 : Nat) (l3 : D) (i5 : Int) : law15_heavy_l3 n (m3 + 1) l3 i5 =
 .br (decide (i5 < (l3.els.length : Int))) (.br (decide (0 ≤ i5)) (.br (decide (i5 < (l3.els.length : Int))) (.br (decide (20 < ((l3.els.getD (Int.toNat i5) D.nil).toInt))) (.br (decide (0 ≤ i5)) (.br (decide (i5 < (l3.els.length : Int))) (.br (decide (((l3.els.getD (Int.toNat i5) D.nil).toInt) ≤ 2048)) (.ret [D.bool true])
 (law15_heavy_l3 n m3 l3 (IntKind.wrap .i64 (i5 + 1)))) .fail) .fail)
 (law15_heavy_l3 n m3 l3 (IntKind.wrap .i64 (i5 + 1)))) .fail) .fail)
 (.ret [D.bool false]) := by kernel_rfl
theorem law15_heavy_tree (n : Nat) (nn0 : D) : evFun Tryz.prog md law15_heavy_orc n 10 [] [nn0] =
 .call 34 [] [nn0] fun yy1 =>
 law15_heavy_l3 n n (yy1.getD 0 D.nil) 0 := by kernel_rfl

/-! scrim/scrimlaw15.awake -/
def law15_awake_orc : List (Nat × Orc) := []
theorem law15_awake_tree (n : Nat)  : evFun Tryz.prog md law15_awake_orc n 11 [] [] =
 .call 37 [] [D.sl [D.int 2, D.int 0, D.int 1], D.int 0] fun yy1 =>
 .call 37 [] [D.sl [D.int 5, D.int 6, D.int 7], D.int 0] fun yy2 =>
 .call 12 [] [yy1.getD 0 D.nil, yy2.getD 0 D.nil, D.bool false] fun yy3 =>
 .call 37 [] [D.sl [D.int 1, D.int 0, D.int 1], D.int 0] fun yy4 =>
 .call 37 [] [D.sl [D.int 5, D.int 6], D.int 0] fun yy5 =>
 .call 16 [] [yy4.getD 0 D.nil, yy5.getD 0 D.nil, D.bool false] fun yy6 =>
 .call 37 [] [D.sl [D.int 5, D.int 6, D.int 7], D.int 0] fun yy7 =>
 .call 37 [] [D.sl [D.int 3, D.int 1], D.int 0] fun yy8 =>
 .call 19 [] [yy7.getD 0 D.nil, D.sl [D.agg [D.bool false, yy8.getD 0 D.nil]]] fun yy9 =>
 .br (((yy3.getD 1 D.nil).toInt) == 0) (.br (((yy6.getD 1 D.nil).toInt) == 0) (.br (((yy9.getD 1 D.nil).toInt) == 0) (.call 37 [] [D.sl [D.int 5, D.int 5, D.int 7], D.int 0] fun yy10 =>
 .call 38 [] [yy3.getD 0 D.nil, yy10.getD 0 D.nil] fun yy11 =>
 .br ((yy11.getD 0 D.nil).toBool) (.call 37 [] [D.sl [D.int 5, D.int 0, D.int 6], D.int 0] fun yy12 =>
 .call 38 [] [yy6.getD 0 D.nil, yy12.getD 0 D.nil] fun yy13 =>
 .br ((yy13.getD 0 D.nil).toBool) (.call 37 [] [D.sl [D.int 7, D.int 5], D.int 0] fun yy14 =>
 .call 38 [] [yy9.getD 0 D.nil, yy14.getD 0 D.nil] fun yy15 =>
 .ret [D.bool ((yy15.getD 0 D.nil).toBool)])
 (.ret [D.bool false]))
 (.ret [D.bool false]))
 (.ret [D.bool false]))
 (.ret [D.bool false]))
 (.ret [D.bool false]) := by kernel_rfl

end Go.Proofs.YtbgcadcpeabpgaaGreat
set_option maxRecDepth 100000
namespace Go.Proofs.YtbgcadcpeabpgaaGreat
theorem rightC_lab15 {d : Nat} {c : Cell} (l : Lab) (h : rightC d c = true) : rightC d ⟨l, c.kind, c.n, c.c, c.inn⟩ = true := by cases d <;> exact h
theorem rightC_fill15 {d : Nat} (a : Arr) : rightC d (fillC a) = true := by
  unfold fillC
  split
  · exact rightC_int d inR0
  · split
    · have : ∀ k r (l : Lab), cellR k r (⟨l, 1, .zero, 32, []⟩ : Cell) = true := fun k r l => rfl
      cases d <;> exact this _ _ _
    · exact rightC_lab15 _ (rightC_int d inR0)
theorem row_right {d : Nat} {a : Arr} {s : List Nat} {x : Nat} {fr : List Int} {more : Lab} (ha : rightA d a = true) (hb : Boxed a s) (hx : x < s.length) (hf : GoodF (s.getD x 0) fr) (h0 : (rowS a s x fr more).2 = 0) : rightA d (rowS a s x fr more).1 = true := by
  unfold rowS at h0 ⊢
  split at h0
  · rename_i h; exact absurd h0 h
  · rename_i h
    rw [if_neg h]
    have hok := Classical.not_not.1 h
    have hcl := countS_le (iN (s.set x fr.length))
    refine rightA_of ?_ (fun c hc => ?_)
    · simp only [Arr.shape_mk, Arr.cells_mk, List.length_map, List.length_range]
      exact Prod.ext (by simp only; unfold cntN; omega) hok
    · simp only [Arr.cells_mk, List.mem_map, List.mem_range] at hc
      obtain ⟨j, hj, rfl⟩ := hc
      obtain ⟨hpos, hcp, _⟩ := pos_of_cnt hok (by omega)
      obtain ⟨sp1, sp2⟩ := split_at hx
      have st := set_split (F := fr.length) hx
      have hj2 : j < prodN (s.take x ++ fr.length :: s.drop (x + 1)) := by rw [← st, ← hcp]; exact hj
      have hFp : 0 < fr.length := by
        have := hpos fr.length (by rw [st]; simp)
        omega
      have hmlt := Nat.mod_lt (j / prodN (s.drop (x + 1))) hFp
      have hk := hf _ (getD_mem hmlt)
      unfold pickJ
      split
      · exact rightC_fill15 a
      · rename_i g
        have hKL : (fr.getD (j / prodN (s.drop (x + 1)) % fr.length) 0).toNat < s.getD x 0 := by omega
        obtain ⟨_, _, q3⟩ := place_old hj2 hKL
        rw [← sp1] at q3
        have hsp : ∀ y ∈ s, 1 ≤ y := fun y hy => by
          rw [sp1] at hy
          rcases List.mem_append.1 hy with hy | hy
          · exact hpos y (by rw [st]; simp [hy])
          · rcases List.mem_cons.1 hy with rfl | hy
            · omega
            · exact hpos y (by rw [st]; simp [hy])
        have hsc := cnt_prod hb.ok hsp
        rw [← hsc, ← hb.len] at q3
        rw [List.getD_eq_getElem?_getD, List.getElem?_eq_getElem q3]
        exact (rightA_cells ha).2 _ (List.getElem_mem q3)
theorem row_none {a : Arr} {s : List Nat} {x : Nat} {fr : List Int} {more : Lab} (h : (rowS a s x fr more).2 ≠ 0) : (rowS a s x fr more).1 = .none := by
  unfold rowS at h ⊢
  split
  · rfl
  · rename_i g; rw [if_neg g] at h; exact absurd rfl h
theorem lS_len {n : Arr} {L : Nat} : (lS n L).length = if n.shape = [] then L else (intsA n).1.length := by unfold lS; split <;> simp
theorem repl_good {d : Nat} {n a : Arr} {first : Bool} (ha : rightA d a = true) : ((replS n a first).2 = 0 → rightA d (replS n a first).1 = true) ∧ ((replS n a first).2 ≠ 0 → (replS n a first).1 = .none) := by
  have hx := axX_lt a first
  unfold replS
  split
  · rename_i h; exact ⟨fun h0 => absurd h0 h, fun _ => rfl⟩
  split
  · exact ⟨fun h0 => (by cases h0), fun _ => rfl⟩
  split
  · exact ⟨fun h0 => (by cases h0), fun _ => rfl⟩
  rename_i h1 h2 h3
  cases hfr : frS ((aN a).getD (axX a first) 0 == 1) (lS n ((aN a).getD (axX a first) 0)) 0 [] with
  | none => exact ⟨fun h0 => (by cases h0), fun _ => rfl⟩
  | some fr =>
    have hg := frS_ok (L := (aN a).getD (axX a first) 0) hfr (by simp) (by simp) (fun ho => by have := beq_iff_eq.1 ho; omega) (fun ho => by
      have hne := beq_eq_false_iff_ne.1 ho
      have : (lS n ((aN a).getD (axX a first) 0)).length = (aN a).getD (axX a first) 0 := Classical.not_not.1 (fun hh => h3 ⟨hne, hh⟩)
      omega)
    exact ⟨fun h0 => row_right ha (aN_boxed ha) hx (fun k hk => .inr (hg.2 k hk)) h0, fun h0 => row_none h0⟩
def light15 (a : Arr) : Bool := goodA a && decide ((a.cells.length : Int) ≤ 100)
theorem light15_good {a : Arr} (h : light15 a = true) : rightA 8 a = true ∧ a.cells.length ≤ 100 := by
  unfold light15 at h
  simp only [Bool.and_eq_true, decide_eq_true_eq] at h
  exact ⟨goodA_right h.1, by omega⟩
theorem law15_light_sp (a : Arr) (ha : Fits a) : Sp 9 [dA a] [.bool (light15 a)] := by
  refine sound_ 0 (law15_light_tree _ _) (wp_call (ref08_Good_sp a ha) ?_)
  unfold light15
  simp only [dA_0, dA_1, dA_2, dC_0, dC_1, dC_2, dC_3, dC_4, dN_0, dN_1, dN_2, els_sl, els_dI, els_dL, List.length_map, Int.toNat_natCast, toInt_int, toInt_dB, toBool_bool, getD_c0, getD_c1, int_beq, int_bne, not_dec, dInt_dB, Int.toNat_zero]
  refine wp_br (fun h => wp_ret (by rw [h]; rfl)) (fun h => wp_ret (by rw [h]; rfl))
def heavy15 (l : List Int) : Bool := l.any (fun k => decide (20 < k ∧ k ≤ 2048))
theorem law15_heavy_sp (n : Arr) (hn : rightA 8 n = true) : Sp 10 [dA n] [.bool (heavy15 (intsA n).1)] := by
  have ln := (rightA_len hn).1
  have hil := intsA_len2 n
  refine sound_ 4096 (law15_heavy_tree _ _) (wp_call (ref08_Ints_sp n ln (rightA_top hn)) ?_)
  generalize (intsA n).1 = l at *
  simp only [getD_c0]
  have key := loop_list (P := Tryz.prog) (md := md) l (fun m k (_ : Unit) => law15_heavy_l3 4096 m (dI l) (k : Int)) (fun rest _ => [.bool (heavy15 rest)]) (fun _ _ => True)
    (fun m k t hk _ => by
      simp only [law15_heavy_l3_succ, els_dI, List.length_map]
      exact wp_ndec (by omega) (wp_ret rfl))
    (fun m k t z rest hd _ ih => by
      obtain ⟨h1, h2, h3⟩ := drop_cons hd
      have ih := ih () trivial
      have go : ¬ (20 < z ∧ z ≤ 2048) → Tw (law15_heavy_l3 4096 m (dI l) ((k + 1 : Nat) : Int)) [.bool (heavy15 (z :: rest))] := fun hz => by
        rw [show heavy15 (z :: rest) = heavy15 rest by simp only [heavy15, List.any_cons, decide_eq_false hz, Bool.false_or]]
        exact ih
      simp only [law15_heavy_l3_succ, els_dI, List.length_map, Int.toNat_natCast, getD_map h2, toInt_int, wrap_succ (show k < 9223372036854775807 by omega)]
      refine wp_dec (by omega) (wp_dec (by omega) (wp_dec (by omega) (wp_decs (fun g => wp_dec (by omega) (wp_dec (by omega) (wp_decs (fun g2 => wp_ret ?_) (fun g2 => go (by omega))))) (fun g => go (by omega)))))
      simp only [heavy15, List.any_cons, decide_eq_true (show 20 < z ∧ z ≤ 2048 from ⟨g, g2⟩), Bool.true_or])
    4096 0 () (by omega) (by omega) trivial
  exact key
theorem vec_right15 (l : List Int) (h : l.all (fun x => decide (-100000 ≤ x ∧ x ≤ 100000)) = true) (hc : countS [(l.length : Int)] = ((l.length : Int), 0)) : rightA 8 (vecA l 0) = true := rightA_of (by simp only [vecA, Arr.shape_mk, Arr.cells_mk, List.length_map]; exact hc) (fun c hcc => by
  simp only [vecA, Arr.cells_mk, List.mem_map] at hcc
  obtain ⟨x, hx, rfl⟩ := hcc
  exact rightC_int 8 (aw_in l h x hx))
theorem ints15 (l : List Int) (h : ∀ x ∈ l, inR x) (s : Lab) : intsA (vecA l s) = (l, 0) := by
  unfold intsA
  rw [if_neg (by simp [vecA])]
  simp only [vecA, Arr.cells_mk, intsCs_vec h]
theorem same15_sp (l m : List Int) (h : l.all (fun x => decide (-100000 ≤ x ∧ x ≤ 100000)) = true) (hl : l.length ≤ 100) (e : vecA l 0 = vecA m 0) : Sp 38 [dA (vecA l 0), dA (vecA m 0)] [.bool true] := by
  have := ref08_Same_sp (vecA l 0) (fits_vec (by omega) (aw_in l h)) (vecA m 0)
  rw [show eqA (vecA l 0) (vecA m 0) = true from eqA_iff.2 e] at this
  exact this
theorem law15_awake_sp : Sp 11 [] [.bool true] := by
  have t0 : ∀ l : List Int, totA (vecA l 0) = 0 := fun l => totA_vec l 0
  have r1 := pick_Replicate_sp (vecA [2, 0, 1] 0) (vecA [5, 6, 7] 0) false (vec_right15 _ (by decide) (by decide)) (vec_right15 _ (by decide) (by decide))
  have r2 := pick_Expand_sp (vecA [1, 0, 1] 0) (vecA [5, 6] 0) false (vec_right15 _ (by decide) (by decide)) (vec_right15 _ (by decide) (by decide))
  have e1 : replS (vecA [2, 0, 1] 0) (vecA [5, 6, 7] 0) false = (vecA [5, 5, 7] 0, 0) := by
    unfold replS lS
    rw [ints15 _ (aw_in [2, 0, 1] (by decide)), t0]
    rfl
  have e2 : expS (vecA [1, 0, 1] 0) (vecA [5, 6] 0) false = (vecA [5, 0, 6] 0, 0) := by
    unfold expS
    rw [ints15 _ (aw_in [1, 0, 1] (by decide)), t0, if_neg (by decide), if_neg (by decide), if_neg (by decide)]
    rfl
  rw [e1] at r1
  rw [e2] at r2
  have hi : intsA (vectA (vecA [3, 1] 0).cells) = ([3, 1], 0) := by
    unfold intsA
    rw [if_neg (by simp [vectA])]
    simp only [vectA, vecA, Arr.cells_mk, intsCs_vec (aw_in [3, 1] (by decide))]
  have hrx := vec_right15 [3, 1] (by decide) (by decide)
  have r3 := pick_At1_sp (vecA [5, 6, 7] 0) (vecA [3, 1] 0) [3, 1] rfl (by decide) ⟨rightA_sml hrx, by decide, rightA_top hrx⟩ (by decide) hi (by decide)
  rw [t0] at r3
  refine sound_ 0 (law15_awake_tree _) ?_
  refine wp_call (ref11_Vector_sp [2, 0, 1] 0 (by decide) (aw_in _ (by decide))) (wp_call (ref11_Vector_sp [5, 6, 7] 0 (by decide) (aw_in _ (by decide))) (wp_call r1 (wp_call (ref11_Vector_sp [1, 0, 1] 0 (by decide) (aw_in _ (by decide))) (wp_call (ref11_Vector_sp [5, 6] 0 (by decide) (aw_in _ (by decide))) (wp_call r2 (wp_call (ref11_Vector_sp [5, 6, 7] 0 (by decide) (aw_in _ (by decide))) (wp_call (ref11_Vector_sp [3, 1] 0 (by decide) (aw_in _ (by decide))) (wp_call r3 (wp_tt rfl (wp_tt rfl (wp_tt rfl ?_)))))))))))
  refine wp_call (ref11_Vector_sp [5, 5, 7] 0 (by decide) (aw_in _ (by decide))) (wp_call (same15_sp [5, 5, 7] _ (by decide) (by decide) rfl) (wp_tt rfl ?_))
  refine wp_call (ref11_Vector_sp [5, 0, 6] 0 (by decide) (aw_in _ (by decide))) (wp_call (same15_sp [5, 0, 6] _ (by decide) (by decide) rfl) (wp_tt rfl ?_))
  exact wp_call (ref11_Vector_sp [7, 5] 0 (by decide) (aw_in _ (by decide))) (wp_call (same15_sp [7, 5] _ (by decide) (by decide) rfl) (wp_ret rfl))
theorem awake15 : Tw (.call 11 [] [] fun y => .ret [D.bool ((y.getD 0 D.nil).toBool)]) [.bool true] := wp_call law15_awake_sp (wp_ret rfl)
theorem pickReplicates_sp (n a : Arr) (first : Bool) (hn : Fits n) (ha : Fits a) : Sp 3 [dA n, dA a, .bool first] [.bool true] := by
  refine sound_ 0 (law15_PickReplicates_tree _ _ _ _) (wp_call (law15_light_sp n hn) (wp_br (fun _ => awake15) (fun e1 => wp_call (law15_light_sp a ha) (wp_br (fun _ => awake15) (fun e2 => ?_)))))
  obtain ⟨g1, l1⟩ := light15_good (a := n) (by simpa using e1)
  obtain ⟨g2, l2⟩ := light15_good (a := a) (by simpa using e2)
  refine wp_call (law15_heavy_sp n g1) (wp_br (fun _ => awake15) (fun _ => ?_))
  have hg := repl_good (n := n) (first := first) g2
  have p1 := pick_Replicate_sp n a first g1 g2
  have p2 := ref15_Replicate_sp n a first g1 g2
  generalize replS n a first = r at *
  have fr : Fits r.1 := by
    by_cases h : r.2 = 0
    · exact (rightA_sml (hg.1 h)).fits
    · rw [hg.2 h]; exact fits_none
  have ss := ref10_Same_sp r.1 r.1 r.2 r.2 fr
  rw [eqA_self, decide_eq_true rfl] at ss
  have rr := ref08_Right_sp r.1 fr
  refine wp_call p1 (wp_call p2 (wp_call ss (wp_tt rfl ?_)))
  simp only [getD_c0, getD_c1, toInt_int, int_bne]
  refine wp_decs (fun _ => awake15) (fun h => ?_)
  rw [hg.1 (Classical.not_not.1 h)] at rr
  exact wp_call rr (wp_tt rfl awake15)
end Go.Proofs.YtbgcadcpeabpgaaGreat
set_option maxRecDepth 100000
namespace Go.Proofs.YtbgcadcpeabpgaaGreat
theorem flat_shift : ∀ (l : List Int) (o p : Nat), (fromL l o).map flat0 = (fromL l p).map flat0
  | [], _, _ => rfl
  | k :: ks, o, p => by
    have e : ∀ q : Nat, flat0 (q : Int) = 0 := fun q => by unfold flat0; split <;> omega
    rw [fromL, fromL]
    split
    · rw [List.map_cons, List.map_cons, e, e, flat_shift ks (o + 1) (p + 1)]
    · rw [List.map_cons, List.map_cons, flat_shift ks o p]
def tailE (L : Nat) (l : List Int) (o : Nat) : List Int := if L = 1 then (fromL l o).map flat0 else fromL l o
theorem tailE_nil (L o : Nat) : tailE L [] o = [] := by unfold tailE; split <;> rfl
theorem tailE_zero (L o : Nat) (ks : List Int) : tailE L (0 :: ks) o = -1 :: tailE L ks o := by
  unfold tailE; split
  · rw [fromL, if_neg (by decide), List.map_cons]; rfl
  · rw [fromL, if_neg (by decide)]
theorem tailE_one1 (o : Nat) (ks : List Int) : tailE 1 (1 :: ks) o = 0 :: tailE 1 ks o := by
  unfold tailE
  rw [if_pos rfl, if_pos rfl, fromL, if_pos rfl, List.map_cons, flat_shift ks (o + 1) o]
  congr 1
  unfold flat0; split <;> omega
theorem tailE_one {L : Nat} (h : L ≠ 1) (o : Nat) (ks : List Int) : tailE L (1 :: ks) o = (o : Int) :: tailE L ks (o + 1) := by
  unfold tailE
  rw [if_neg h, if_neg h, fromL, if_pos rfl]
theorem ref15_Expand_sp (n a : Arr) (first : Bool) (hn : rightA 8 n = true) (ha : rightA 8 a = true) : Sp 17 [dA n, dA a, .bool first] [dA (expS n a first).1, .int (expS n a first).2] := by
  have ln := (rightA_len hn).1
  have hx := axX_lt a first
  have hLe := aN_le ha hx
  have hil := intsA_len2 n
  have hFill := ref08_Fill_sp (.mk a.s (iN (aN a)) a.cells)
  rw [fill_same] at hFill
  refine sound_ 4096 (ref15_Expand_tree _ _ _ _) (wp_call (ref08_Ints_sp n ln (rightA_top hn)) ?_)
  unfold expS
  generalize hp : intsA n = p at *
  obtain ⟨l, e⟩ := p
  simp only [getD_c0, getD_c1, toInt_int, int_bne, dA_none, toBool_bool] at hil ⊢
  refine wp_decs (fun h => wp_ret (by rw [if_pos h])) (fun h => ?_)
  rw [if_neg h]
  have h0 : e = 0 := Classical.not_not.1 h
  subst h0
  refine wp_call (ref15_axis_sp a first ha) ?_
  simp only [getD_c0, getD_c1, toInt_int, dA_1, Arr.shape_mk, els_dI, List.length_map, Int.toNat_natCast, at_iN hx, iN_len]
  refine wp_dec (by omega) (wp_dec (by omega) ?_)
  have fits := (rightA_sml hn).fits
  generalize hLd : (aN a).getD (axX a first) 0 = L at *
  have cho : (L ≠ 1 → cntL l = L) → Tw (.call 48 [] [dA n] fun y3 => .call 47 [] [dA (.mk a.s (iN (aN a)) a.cells), .int ((axX a first : Nat) : Int), D.sl ((frE L l).map D.int), D.int ((y3.getD 0 D.nil).toInt)] fun y4 => .ret [y4.getD 0 D.nil, .int ((y4.getD 1 D.nil).toInt)]) [dA (if L ≠ 1 ∧ cntL l ≠ L then (Arr.none, (4 : Int)) else rowS a (aN a) (axX a first) (frE L l) (totA n)).1, .int (if L ≠ 1 ∧ cntL l ≠ L then (Arr.none, (4 : Int)) else rowS a (aN a) (axX a first) (frE L l) (totA n)).2] := by
    intro hc
    rw [if_neg (fun hh => hh.2 (hc hh.1))]
    refine wp_call (ref08_Total_sp n fits) ?_
    simp only [getD_c0, toInt_dB, dInt_dB]
    exact wp_call (chosen_sp a (aN a) (axX a first) (frE L l) (totA n) (aN_boxed ha) hx (by rw [hLd]; exact frE_good hc) (by rw [frE_len]; omega) hFill) (wp_ret rfl)
  have key := loop_list (P := Tryz.prog) (md := md) l (fun m k (s : List Int × Nat) => ref15_Expand_l9 4096 m (dI l) ((axX a first : Nat) : Int) (L : Int) (s.2 : Int) (s.1.map D.int) (k : Int) (dA n) 0 (dA (.mk a.s (iN (aN a)) a.cells))) (fun rest _ => if ¬ Bits rest then [dA .none, .int 3] else [dA (if L ≠ 1 ∧ cntL l ≠ L then (Arr.none, (4 : Int)) else rowS a (aN a) (axX a first) (frE L l) (totA n)).1, .int (if L ≠ 1 ∧ cntL l ≠ L then (Arr.none, (4 : Int)) else rowS a (aN a) (axX a first) (frE L l) (totA n)).2]) (fun rest s => s.1.length + rest.length = l.length ∧ frE L l = s.1 ++ tailE L rest s.2 ∧ (L ≠ 1 → cntL l = s.2 + cntL rest) ∧ s.2 ≤ s.1.length)
    (fun m k s hk hI => by
      obtain ⟨i1, i2, i3, _⟩ := hI
      rw [tailE_nil, List.append_nil] at i2
      simp only [cntL, Nat.add_zero] at i3
      have hb : ¬ ¬ Bits ([] : List Int) := fun hh => hh (fun y hy => by cases hy)
      simp only [if_neg hb]
      simp only [ref15_Expand_l9_succ, els_dI, List.length_map, int_bne, dA_none]
      rw [← i2]
      refine wp_ndec (by omega) (wp_decs (fun g1 => wp_decs (fun g2 => wp_ret ?_) (fun g2 => ?_)) (fun g1 => ?_))
      · have := i3 (by omega)
        rw [if_pos ⟨by omega, by omega⟩]
      · exact cho (fun hne => by have := i3 hne; omega)
      · exact cho (fun hne => absurd hne (by omega)))
    (fun m k s z rest hd hI ih => by
      obtain ⟨h1, h2, h3⟩ := drop_cons hd
      obtain ⟨i1, i2, i3, i4⟩ := hI
      rw [List.length_cons] at i1
      have w1 : IntKind.wrap .i64 ((s.2 : Int) + 1) = ((s.2 + 1 : Nat) : Int) := by rw [wrap64 (by omega) (by omega)]; rfl
      have bits_c : (z = 0 ∨ z = 1) → (Bits (z :: rest) ↔ Bits rest) := fun hz => ⟨fun hh y hy => hh y (by simp [hy]), fun hh y hy => by
        rcases List.mem_cons.1 hy with rfl | hy
        · exact hz
        · exact hh y hy⟩
      have nxt : (z = 0 ∨ z = 1) → ∀ (acc : List Int) (o : Nat), acc.length = s.1.length + 1 → frE L l = acc ++ tailE L rest o → (L ≠ 1 → cntL l = o + cntL rest) → o ≤ acc.length → Tw (ref15_Expand_l9 4096 m (dI l) ((axX a first : Nat) : Int) (L : Int) (o : Int) (acc.map D.int) ((k + 1 : Nat) : Int) (dA n) 0 (dA (.mk a.s (iN (aN a)) a.cells))) (if ¬ Bits (z :: rest) then [dA .none, .int 3] else [dA (if L ≠ 1 ∧ cntL l ≠ L then (Arr.none, (4 : Int)) else rowS a (aN a) (axX a first) (frE L l) (totA n)).1, .int (if L ≠ 1 ∧ cntL l ≠ L then (Arr.none, (4 : Int)) else rowS a (aN a) (axX a first) (frE L l) (totA n)).2]) := fun hz acc o a1 a2 a3 a4 => by
        have ih := ih (acc, o) ⟨by simp only; omega, a2, a3, a4⟩
        refine Tree.wp_mono ih (fun ys hy => hy.trans ?_)
        by_cases q : Bits rest
        · have q' := (bits_c hz).2 q
          simp only [if_neg (fun hh : ¬ Bits rest => hh q), if_neg (fun hh : ¬ Bits (z :: rest) => hh q')]
        · have q' : ¬ Bits (z :: rest) := fun hh => q ((bits_c hz).1 hh)
          simp only [if_pos q, if_pos q']
      simp only [ref15_Expand_l9_succ, els_dI, List.length_map, Int.toNat_natCast, getD_map h2, toInt_int, int_bne, int_beq, dA_none, List.length_cons, List.length_nil, w1, wrap_succ (show k < 9223372036854775807 by omega)]
      have big : s.1.length + (0 + 1) ≤ bigN := by simp only [bigN]; omega
      refine wp_dec (by omega) (wp_dec (by omega) (wp_dec (by omega) (wp_decs (fun g => wp_dec (by omega) (wp_dec (by omega) (wp_decs (fun g2 => wp_ret ?_) (fun g2 => wp_dec (by omega) (wp_dec (by omega) (wp_ndec g ?_)))))) (fun g => wp_dec (by omega) (wp_dec (by omega) (wp_dec (Classical.not_not.1 g) (wp_dec big ?_)))))))
      · have : ¬ Bits (z :: rest) := fun hh => by have := hh z (by simp); omega
        rw [if_pos this]
      · have hz : z = 1 := Classical.not_not.1 g2
        subst hz
        refine wp_decs (fun g3 => wp_dec big ?_) (fun g3 => wp_dec big ?_)
        · have hL1 : L = 1 := by omega
          have := nxt (.inr rfl) (s.1 ++ [0]) s.2 (by simp) (by rw [i2, hL1, tailE_one1]; simp) (fun hne => absurd hL1 hne) (by simp; omega)
          rw [List.map_append] at this
          exact this
        · have hL1 : L ≠ 1 := by omega
          have hc := i3 hL1
          rw [cntL, if_pos rfl] at hc
          have := nxt (.inr rfl) (s.1 ++ [(s.2 : Int)]) (s.2 + 1) (by simp) (by rw [i2, tailE_one hL1]; simp) (fun _ => by omega) (by simp; omega)
          rw [List.map_append] at this
          exact this
      · have hz : z = 0 := Classical.not_not.1 g
        subst hz
        have := nxt (.inl rfl) (s.1 ++ [-1]) s.2 (by simp) (by rw [i2, tailE_zero]; simp) (fun hne => by have hc := i3 hne; rw [cntL, if_neg (by decide)] at hc; exact hc) (by simp; omega)
        rw [List.map_append] at this
        exact this)
    4096 0 ([], 0) (by omega) (by omega) ⟨by simp, by unfold frE tailE; simp, fun _ => by simp, by simp⟩
  refine Tree.wp_mono key (fun ys hy => hy.trans ?_)
  rw [List.drop_zero]
  by_cases q : Bits l
  · simp only [if_neg (fun hh : ¬ Bits l => hh q)]
  · simp only [if_pos q]
theorem exp_good {d : Nat} {n a : Arr} {first : Bool} (ha : rightA d a = true) : ((expS n a first).2 = 0 → rightA d (expS n a first).1 = true) ∧ ((expS n a first).2 ≠ 0 → (expS n a first).1 = .none) := by
  have hx := axX_lt a first
  unfold expS
  split
  · rename_i h; exact ⟨fun h0 => absurd h0 h, fun _ => rfl⟩
  split
  · exact ⟨fun h0 => (by cases h0), fun _ => rfl⟩
  split
  · exact ⟨fun h0 => (by cases h0), fun _ => rfl⟩
  rename_i h1 h2 h3
  exact ⟨fun h0 => row_right ha (aN_boxed ha) hx (frE_good (fun hne => Classical.not_not.1 (fun hh => h3 ⟨hne, hh⟩))) h0, fun h0 => row_none h0⟩
theorem pickExpands_sp (n a : Arr) (first : Bool) (hn : Fits n) (ha : Fits a) : Sp 4 [dA n, dA a, .bool first] [.bool true] := by
  refine sound_ 0 (law15_PickExpands_tree _ _ _ _) (wp_call (law15_light_sp n hn) (wp_br (fun _ => awake15) (fun e1 => wp_call (law15_light_sp a ha) (wp_br (fun _ => awake15) (fun e2 => ?_)))))
  obtain ⟨g1, l1⟩ := light15_good (a := n) (by simpa using e1)
  obtain ⟨g2, l2⟩ := light15_good (a := a) (by simpa using e2)
  have hg := exp_good (n := n) (first := first) g2
  have p1 := pick_Expand_sp n a first g1 g2
  have p2 := ref15_Expand_sp n a first g1 g2
  generalize expS n a first = r at *
  have fr : Fits r.1 := by
    by_cases h : r.2 = 0
    · exact (rightA_sml (hg.1 h)).fits
    · rw [hg.2 h]; exact fits_none
  have ss := ref10_Same_sp r.1 r.1 r.2 r.2 fr
  rw [eqA_self, decide_eq_true rfl] at ss
  have rr := ref08_Right_sp r.1 fr
  refine wp_call p1 (wp_call p2 (wp_call ss (wp_tt rfl ?_)))
  simp only [getD_c0, getD_c1, toInt_int, int_bne]
  refine wp_decs (fun _ => awake15) (fun h => ?_)
  rw [hg.1 (Classical.not_not.1 h)] at rr
  exact wp_call rr (wp_tt rfl awake15)
end Go.Proofs.YtbgcadcpeabpgaaGreat
set_option maxRecDepth 100000
namespace Go.Proofs.YtbgcadcpeabpgaaGreat
/-- Where the ones stand. -/
def posL : List Int → Nat → List Nat
  | [], _ => []
  | k :: ks, i => if k = 1 then i :: posL ks (i + 1) else posL ks (i + 1)
theorem posL_in : ∀ (l : List Int) (i : Nat), (posL l i).length ≤ l.length ∧ ∀ p ∈ posL l i, i ≤ p ∧ p < i + l.length
  | [], _ => by simp [posL]
  | k :: ks, i => by
    obtain ⟨h1, h2⟩ := posL_in ks (i + 1)
    rw [posL, List.length_cons]
    split
    · refine ⟨by rw [List.length_cons]; omega, fun p hp => ?_⟩
      rcases List.mem_cons.1 hp with rfl | hp
      · omega
      · have := h2 p hp; omega
    · exact ⟨by omega, fun p hp => by have := h2 p hp; omega⟩
def ups (l : List Nat) : List Int := l.map (fun (i : Nat) => (i : Int) + 1)
noncomputable def whereS (n : Arr) : Arr × Int := if (intsA n).2 ≠ 0 then (.none, (intsA n).2) else if n.shape = [] then (.none, 5) else if ¬ Bits (intsA n).1 then (.none, 3) else (vecA (ups (posL (intsA n).1 0)) (totA n), 0)
theorem ups_in {l : List Int} (hl : l.length ≤ 2048) : ∀ k ∈ ups (posL l 0), 1 ≤ k ∧ k ≤ (l.length : Int) := fun k hk => by
  obtain ⟨i, hi, rfl⟩ := List.mem_map.1 hk
  have := (posL_in l 0).2 i hi
  omega
theorem ups_R {l : List Int} (hl : l.length ≤ 2048) : ∀ k ∈ ups (posL l 0), inR k := fun k hk => by have := ups_in hl k hk; exact inR_small (by omega) (by omega)
theorem pick_Where_sp (n : Arr) (hn : rightA 8 n = true) : Sp 28 [dA n] [dA (whereS n).1, .int (whereS n).2] := by
  have ln := (rightA_len hn).1
  have hil := intsA_len2 n
  have sh : (((n.shape.length : Nat) : Int) = 0) ↔ n.shape = [] := ⟨fun g => List.length_eq_zero_iff.1 (by omega), fun g => by rw [g]; rfl⟩
  refine sound_ 4096 (pick_Where_tree _ _) (wp_call (array_Ints_sp n ln (rightA_top hn)) ?_)
  unfold whereS
  generalize (intsA n) = p at *
  obtain ⟨l, e⟩ := p
  simp only [getD_c0, getD_c1, toInt_int, int_bne, int_beq, dA_none, dA_1, els_dI, List.length_map, sh] at hil ⊢
  refine wp_decs (fun h => wp_ret (by rw [if_pos h])) (fun h => ?_)
  rw [if_neg h]
  refine wp_decs (fun h => wp_ret (by rw [if_pos h])) (fun h => ?_)
  rw [if_neg h]
  refine wp_call (bits_sp l (by omega)) ?_
  simp only [getD_c0, toBool_bool]
  refine wp_br (fun g => wp_ret ?_) (fun g => ?_)
  · have : ¬ Bits l := fun hb => by rw [decide_eq_true hb] at g; cases g
    rw [if_pos this]
  have hb : Bits l := by
    by_cases hb : Bits l
    · exact hb
    · rw [decide_eq_false hb] at g; cases g
  rw [if_neg (fun hh => hh hb)]
  have hpl := posL_in l 0
  have key := loop_list (P := Tryz.prog) (md := md) l (fun m k (acc : List Nat) => pick_Where_l10 4096 m ((acc.map (fun (i : Nat) => intC ((i : Int) + 1))).map dC) (dI l) (l.length : Int) (k : Int) (dA n) 0) (fun _ _ => [dA (vecA (ups (posL l 0)) (totA n)), .int 0]) (fun rest acc => posL l 0 = acc ++ posL rest (l.length - rest.length))
    (fun m k acc hk hI => by
      simp only [posL, List.append_nil] at hI
      simp only [pick_Where_l10_succ]
      have hsm : ∀ c ∈ acc.map (fun (i : Nat) => intC ((i : Int) + 1)), SmlC 0 c := fun c hc => by
        obtain ⟨i, hi, rfl⟩ := List.mem_map.1 hc
        have := hpl.2 i (by rw [hI]; exact hi)
        exact smlC_int (inR_small (by omega) (by omega)) 0
      refine wp_ndec (by omega) (wp_call (array_Vector_sp _ hsm (by rw [List.length_map, ← hI]; omega)) (wp_call (array_Total_sp n (rightA_sml hn).fits) ?_))
      simp only [getD_c0, toInt_dB, dInt_dB]
      refine wp_call (array_Raise_sp _ (totA n)) (wp_ret ?_)
      rw [hI]
      simp [raiseA, vectA, vecA, ups]
      rfl)
    (fun m k acc z rest hd hI ih => by
      obtain ⟨h1, h2, h3⟩ := drop_cons hd
      have hle := congrArg List.length hd
      rw [List.length_drop, List.length_cons] at hle
      rw [show l.length - (z :: rest).length = k by rw [List.length_cons]; omega, posL] at hI
      rw [show l.length - rest.length = k + 1 by omega] at ih
      simp only [pick_Where_l10_succ, els_dI, List.length_map, Int.toNat_natCast, getD_map h2, toInt_int, int_beq, wrap_succ (show k < 9223372036854775807 by omega)]
      refine wp_dec (by omega) (wp_dec (by omega) (wp_dec (by omega) (wp_decs (fun g => ?_) (fun g => ?_))))
      · rw [if_pos g] at hI
        have hal : acc.length ≤ 2048 := by have := congrArg List.length hI; rw [List.length_append] at this; omega
        have := ih (acc ++ [k]) (by rw [hI]; simp)
        rw [List.map_append, List.map_append] at this
        refine wp_call (array_Int_sp _ (inR_small (by omega) (by omega))) (wp_dec (by simp only [List.length_cons, List.length_nil, bigN]; omega) ?_)
        exact this
      · rw [if_neg g] at hI
        exact ih acc hI)
    4096 0 [] (by omega) (by omega) (by simp)
  exact key
theorem ref15_Where_sp (n : Arr) (hn : rightA 8 n = true) : Sp 29 [dA n] [dA (whereS n).1, .int (whereS n).2] := by
  have ln := (rightA_len hn).1
  have hil := intsA_len2 n
  have sh : (((n.shape.length : Nat) : Int) = 0) ↔ n.shape = [] := ⟨fun g => List.length_eq_zero_iff.1 (by omega), fun g => by rw [g]; rfl⟩
  refine sound_ 4096 (ref15_Where_tree _ _) (wp_call (ref08_Ints_sp n ln (rightA_top hn)) ?_)
  unfold whereS
  generalize (intsA n) = p at *
  obtain ⟨l, e⟩ := p
  simp only [getD_c0, getD_c1, toInt_int, int_bne, int_beq, dA_none, dA_1, els_dI, List.length_map, sh] at hil ⊢
  refine wp_decs (fun h => wp_ret (by rw [if_pos h])) (fun h => ?_)
  rw [if_neg h]
  refine wp_decs (fun h => wp_ret (by rw [if_pos h])) (fun h => ?_)
  rw [if_neg h]
  have hpl := posL_in l 0
  have key := loop_list (P := Tryz.prog) (md := md) l (fun m k (acc : List Nat) => ref15_Where_l8 4096 m (dI l) ((ups acc).map D.int) (k : Int) (dA n) 0) (fun rest _ => if ¬ Bits rest then [dA .none, .int 3] else [dA (vecA (ups (posL l 0)) (totA n)), .int 0]) (fun rest acc => posL l 0 = acc ++ posL rest (l.length - rest.length))
    (fun m k acc hk hI => by
      simp only [posL, List.append_nil] at hI
      have hb : ¬ ¬ Bits ([] : List Int) := fun hh => hh (fun y hy => by cases hy)
      simp only [if_neg hb]
      simp only [ref15_Where_l8_succ, els_dI, List.length_map]
      refine wp_ndec (by omega) (wp_call (ref08_Total_sp n (rightA_sml hn).fits) ?_)
      simp only [getD_c0, toInt_dB, dInt_dB]
      rw [hI]
      refine wp_call (ref11_Vector_sp (ups acc) (totA n) (by simp only [ups, List.length_map]; rw [← hI]; omega) (by rw [← hI]; exact ups_R (by omega))) (wp_ret rfl))
    (fun m k acc z rest hd hI ih => by
      obtain ⟨h1, h2, h3⟩ := drop_cons hd
      have hle := congrArg List.length hd
      rw [List.length_drop, List.length_cons] at hle
      rw [show l.length - (z :: rest).length = k by rw [List.length_cons]; omega, posL] at hI
      rw [show l.length - rest.length = k + 1 by omega] at ih
      have nxt : (z = 0 ∨ z = 1) → ∀ acc2 : List Nat, posL l 0 = acc2 ++ posL rest (k + 1) → Tw (ref15_Where_l8 4096 m (dI l) ((ups acc2).map D.int) ((k + 1 : Nat) : Int) (dA n) 0) (if ¬ Bits (z :: rest) then [dA .none, .int 3] else [dA (vecA (ups (posL l 0)) (totA n)), .int 0]) := fun hz acc2 ha => by
        refine Tree.wp_mono (ih acc2 ha) (fun ys hy => hy.trans ?_)
        have bc : Bits (z :: rest) ↔ Bits rest := ⟨fun hh y hy => hh y (by simp [hy]), fun hh y hy => by
          rcases List.mem_cons.1 hy with rfl | hy
          · exact hz
          · exact hh y hy⟩
        by_cases q : Bits rest
        · simp only [if_neg (fun hh : ¬ Bits rest => hh q), if_neg (fun hh : ¬ Bits (z :: rest) => hh (bc.2 q))]
        · simp only [if_pos q, if_pos (fun hh : Bits (z :: rest) => q (bc.1 hh))]
      have hal : acc.length ≤ 2048 := by have := congrArg List.length hI; rw [List.length_append] at this; omega
      have ul : (ups acc).length = acc.length := by simp [ups]
      simp only [ref15_Where_l8_succ, els_dI, List.length_map, Int.toNat_natCast, getD_map h2, toInt_int, int_beq, int_bne, dA_none, wrap_succ (show k < 9223372036854775807 by omega), ul, List.length_cons, List.length_nil]
      refine wp_dec (by omega) (wp_dec (by omega) (wp_dec (by omega) (wp_decs (fun g => wp_dec (by omega) (wp_dec (by omega) (wp_decs (fun g2 => wp_ret ?_) (fun g2 => wp_dec (by omega) (wp_dec (by omega) (wp_dec (Classical.not_not.1 g2) (wp_dec (by simp only [bigN]; omega) ?_))))))) (fun g => wp_dec (by omega) (wp_dec (by omega) (wp_ndec (by omega) ?_))))))
      · have : ¬ Bits (z :: rest) := fun hh => by have := hh z (by simp); omega
        rw [if_pos this]
      · have hz : z = 1 := Classical.not_not.1 g2
        rw [if_pos hz] at hI
        have := nxt (.inr hz) (acc ++ [k]) (by rw [hI]; simp)
        rw [show (ups (acc ++ [k])).map D.int = (ups acc).map D.int ++ [D.int ((k + 1 : Nat) : Int)] by simp [ups]] at this
        exact this
      · rw [if_neg (by omega)] at hI
        exact nxt (.inl (Classical.not_not.1 g)) acc hI)
    4096 0 [] (by omega) (by omega) (by simp)
  refine Tree.wp_mono key (fun ys hy => hy.trans ?_)
  rw [List.drop_zero]
  by_cases q : Bits l
  · simp only [if_neg (fun hh : ¬ Bits l => hh q)]
  · simp only [if_pos q]
theorem frS_bits : ∀ (l : List Int) (i : Nat) (acc : List Int), Bits l → acc.length + l.length ≤ 2048 → frS false l i acc = some (acc ++ iN (posL l i))
  | [], i, acc, _, _ => by simp [frS, posL, iN]
  | k :: ks, i, acc, hb, hl => by
    rw [List.length_cons] at hl
    have hk := hb k (by simp)
    have hbs : Bits ks := fun y hy => hb y (by simp [hy])
    rw [frS, if_neg (by omega), posL]
    rcases hk with rfl | rfl
    · rw [if_neg (by decide)]
      have := frS_bits ks (i + 1) acc hbs (by omega)
      simpa using this
    · rw [if_pos rfl]
      have := frS_bits ks (i + 1) (acc ++ [(i : Int)]) hbs (by rw [List.length_append, List.length_cons, List.length_nil]; omega)
      simpa [iN] using this
theorem ints15v (l : List Int) (h : ∀ x ∈ l, inR x) (s : Lab) : intsA (vectA (vecA l s).cells) = (l, 0) := by
  unfold intsA
  rw [if_neg (by simp [vectA])]
  simp only [vectA, vecA, Arr.cells_mk, intsCs_vec h]
theorem intsA_full {n : Arr} (h : (intsA n).2 = 0) : (intsA n).1.length = n.cells.length := by
  unfold intsA at h ⊢
  split
  · rename_i g; rw [if_pos g] at h; cases h
  · rename_i g
    rw [if_neg g] at h
    split
    · rename_i l hl; exact (intsCs_inR hl).1
    · rename_i hl; rw [hl] at h; cases h
theorem pickWhere_sp (n a : Arr) (hn : Fits n) (ha : Fits a) : Sp 7 [dA n, dA a] [.bool true] := by
  refine sound_ 0 (law15_PickWhere_tree _ _ _) (wp_call (law15_light_sp n hn) (wp_br (fun _ => awake15) (fun e1 => wp_call (law15_light_sp a ha) (wp_br (fun _ => awake15) (fun e2 => ?_)))))
  obtain ⟨g1, l1⟩ := light15_good (a := n) (by simpa using e1)
  obtain ⟨g2, l2⟩ := light15_good (a := a) (by simpa using e2)
  have hil := intsA_len2 n
  have hsmall : ∀ s : Lab, Sml 9 (vecA (ups (posL (intsA n).1 0)) s) := fun s => by
    have hp := posL_in (intsA n).1 0
    refine Sml.of (by simp [vecA]) (by simp only [vecA, ups, Arr.cells_mk, List.length_map]; omega) (fun x hx => ?_) (fun c hc => ?_)
    · simp only [vecA, ups, Arr.shape_mk, List.mem_singleton, List.length_map] at hx
      subst hx; exact inR_small (by omega) (by omega)
    · simp only [vecA, Arr.cells_mk, List.mem_map] at hc
      obtain ⟨x, hx, rfl⟩ := hc
      exact smlC_int (ups_R (by omega) x hx) 8
  have fw : Fits (whereS n).1 := by
    unfold whereS
    split
    · exact fits_none
    split
    · exact fits_none
    split
    · exact fits_none
    · exact (hsmall _).fits
  have ss := ref10_Same_sp (whereS n).1 (whereS n).1 (whereS n).2 (whereS n).2 fw
  rw [eqA_self, decide_eq_true rfl] at ss
  refine wp_call (pick_Where_sp n g1) (wp_call (ref15_Where_sp n g1) (wp_call ss (wp_ff rfl ?_)))
  simp only [getD_c0, getD_c1, toInt_int, int_bne, int_beq, dA_1, dA_2, els_dI, els_sl, List.length_map]
  refine wp_decs (fun _ => awake15) (fun h => wp_decs (fun _ => awake15) (fun hs => wp_decs (fun _ => awake15) (fun hlen => wp_decs (fun _ => awake15) (fun hne => ?_))))
  have h0 := Classical.not_not.1 h
  have hs1 : a.shape.length = 1 := by omega
  have hcl : a.cells.length = n.cells.length := by omega
  -- what Where told
  have hw : (intsA n).2 = 0 ∧ n.shape ≠ [] ∧ Bits (intsA n).1 ∧ whereS n = (vecA (ups (posL (intsA n).1 0)) (totA n), 0) := by
    unfold whereS at h0 ⊢
    split at h0
    · rename_i q; exact absurd h0 q
    rename_i q1
    split at h0
    · cases h0
    rename_i q2
    split at h0
    · cases h0
    rename_i q3
    rw [if_neg q1, if_neg q2, if_neg q3]
    exact ⟨Classical.not_not.1 q1, q2, Classical.not_not.1 q3, rfl⟩
  obtain ⟨w0, w1, w2, w3⟩ := hw
  have hfull := intsA_full w0
  have hsh : a.shape = [(a.cells.length : Int)] := by
    obtain ⟨x, hx⟩ := len_one (l := a.shape) hs1
    have hcs := (rightA_cells g2).1
    have hr := (rightA_len g2).2.2 x (by rw [hx]; simp)
    rw [hx] at hcs ⊢
    obtain ⟨X, rfl⟩ : ∃ X : Nat, x = (X : Int) := ⟨x.toNat, by omega⟩
    rw [countS_cases1 (by omega)] at hcs
    have h1 := congrArg Prod.fst hcs
    rw [show (X : Int) = (a.cells.length : Int) from h1]
  have haN : aN a = [a.cells.length] := by unfold aN; rw [if_neg (by rw [hsh]; simp), hsh]; simp
  have hax : axX a false = 0 := by unfold axX; rw [if_neg (by rw [hsh]; simp), if_neg (by decide), hs1]
  have hpl := posL_in (intsA n).1 0
  have hF : (iN (posL (intsA n).1 0)).length ≤ 2048 := by rw [iN_len]; omega
  have hrepl : replS n a false = (.mk (a.s ||| totA n) [((posL (intsA n).1 0).length : Int)] ((posL (intsA n).1 0).map (fun i => a.cells.getD i Cell.none)), 0) := by
    unfold replS lS
    rw [haN, hax, if_neg (by rw [w0]; decide), if_neg (by rintro ⟨k, hk, hk2⟩; have := w2 k hk; omega)]
    simp only [List.getD_cons_zero, if_neg w1]
    rw [if_neg (by omega), show (a.cells.length == 1) = false from beq_eq_false_iff_ne.2 (by omega), frS_bits _ _ _ w2 (by simp; omega)]
    simp only [List.nil_append]
    unfold rowS
    have hset : iN ([a.cells.length].set 0 (iN (posL (intsA n).1 0)).length) = [((posL (intsA n).1 0).length : Int)] := by rw [iN_len]; rfl
    have hcnt : countS [((posL (intsA n).1 0).length : Int)] = (((posL (intsA n).1 0).length : Int), 0) := countS_cases1 (by omega)
    have hcN : cntN ([a.cells.length].set 0 (iN (posL (intsA n).1 0)).length) = (posL (intsA n).1 0).length := by unfold cntN; rw [hset, hcnt]; rfl
    rw [hset, hcnt, if_neg (by simp), hcN]
    congr 2
    apply List.ext_getElem
    · simp
    · intro j h1 h2
      simp only [List.length_map, List.length_range] at h1
      simp only [List.getElem_map, List.getElem_range]
      unfold pickJ
      simp only [List.drop_succ_cons, List.drop_zero, List.drop_nil, prodN, Nat.div_one, Nat.mul_one, Nat.mod_one, Nat.add_zero, iN_len, Nat.mod_eq_of_lt h1, Nat.div_eq_of_lt h1, Nat.zero_mul, Nat.zero_add]
      have hg : (iN (posL (intsA n).1 0)).getD j 0 = ((posL (intsA n).1 0)[j] : Int) := by
        unfold iN
        rw [List.getD_eq_getElem?_getD, List.getElem?_map, List.getElem?_eq_getElem h1]; rfl
      rw [hg, if_neg (by omega), Int.toNat_natCast]
  have p1 := pick_Replicate_sp n a false g1 g2
  rw [hrepl] at p1
  have hkin := ups_R (l := (intsA n).1) (by omega)
  have hi : intsA (vectA (vecA (ups (posL (intsA n).1 0)) (totA n)).cells) = (ups (posL (intsA n).1 0), 0) := ints15v _ hkin _
  have hcnt2 : countS (vecA (ups (posL (intsA n).1 0)) (totA n)).shape = (((vecA (ups (posL (intsA n).1 0)) (totA n)).cells.length : Int), 0) := by
    simp only [vecA, Arr.shape_mk, Arr.cells_mk, ups, List.length_map]
    exact countS_cases1 (by omega)
  have p2 := pick_At1_sp a (vecA (ups (posL (intsA n).1 0)) (totA n)) (ups (posL (intsA n).1 0)) hsh (by omega) ⟨hsmall _, by simp only [vecA, ups, Arr.cells_mk, List.length_map]; omega, fun c hc => by
    simp only [vecA, Arr.cells_mk, List.mem_map] at hc
    obtain ⟨x, hx, rfl⟩ := hc
    exact (rightN_len (rightN_ofZ (hkin x hx))).1⟩ hcnt2 hi (fun k hk => by have := ups_in (l := (intsA n).1) (by omega) k hk; omega)
  have eq2 : Arr.mk (a.s ||| totA (vecA (ups (posL (intsA n).1 0)) (totA n))) (vecA (ups (posL (intsA n).1 0)) (totA n)).shape ((ups (posL (intsA n).1 0)).map (fun k => a.cells.getD (k - 1).toNat Cell.none)) = Arr.mk (a.s ||| totA n) [((posL (intsA n).1 0).length : Int)] ((posL (intsA n).1 0).map (fun i => a.cells.getD i Cell.none)) := by
    rw [totA_vec]
    congr 1
    · simp [vecA, ups]
    · unfold ups
      rw [List.map_map]
      refine List.map_congr_left (fun i _ => ?_)
      simp only [Function.comp, Int.add_sub_cancel, Int.toNat_natCast]
  rw [eq2] at p2
  rw [w3]
  have hrg := (repl_good (n := n) (first := false) g2).1
  rw [hrepl] at hrg
  have sm := array_Same_sp (d := 9) (Arr.mk (a.s ||| totA n) [((posL (intsA n).1 0).length : Int)] ((posL (intsA n).1 0).map (fun i => a.cells.getD i Cell.none))) (Arr.mk (a.s ||| totA n) [((posL (intsA n).1 0).length : Int)] ((posL (intsA n).1 0).map (fun i => a.cells.getD i Cell.none))) (rightA_sml (hrg rfl))
  rw [eqA_self] at sm
  exact wp_call p1 (wp_call p2 (wp_tt rfl (wp_tt rfl (wp_call sm (wp_tt rfl awake15)))))
end Go.Proofs.YtbgcadcpeabpgaaGreat
set_option maxRecDepth 100000
namespace Go.Proofs.YtbgcadcpeabpgaaGreat
section
variable {o : Lab} {a b n m : Arr}
theorem fill_alike15 (h : a.cells.map (hidC o) = b.cells.map (hidC o)) : hidC o (fillC a) = hidC o (fillC b) := by
  unfold fillC
  match ha : a.cells, hb : b.cells with
  | [], [] => rfl
  | [], c :: cs => rw [ha, hb] at h; simp at h
  | c :: cs, [] => rw [ha, hb] at h; simp at h
  | c :: cs, d :: ds =>
    rw [ha, hb] at h
    simp only [List.map_cons, List.cons.injEq] at h
    show hidC o (if c.kind = 1 then _ else _) = hidC o (if d.kind = 1 then _ else _)
    rcases alikeC_cases h.1 with ⟨h1, h2⟩ | ⟨_, _, h3, h4, _⟩
    · refine alikeC_hid ?_ ?_
      · split <;> exact h1
      · split <;> exact h2
    · rw [h3, h4]
theorem map_getD15 {α β : Type} {f : α → β} {l m : List α} (h : l.map f = m.map f) (i : Nat) {z w : α} (hz : f z = f w) : f (l.getD i z) = f (m.getD i w) := by
  have hi : (l.map f)[i]? = (m.map f)[i]? := by rw [h]
  simp only [List.getElem?_map] at hi
  rw [List.getD_eq_getElem?_getD, List.getD_eq_getElem?_getD]
  cases h1 : l[i]? <;> cases h2 : m[i]? <;> rw [h1, h2] at hi <;> simp at hi ⊢
  · exact hz
  · exact hi
theorem two_alike15 {x y : Arr} (hx : x.s = a.s ||| totA n) (hy : y.s = b.s ||| totA m) (h' : hidA o n = hidA o m) (h : hidA o a = hidA o b) (hv : n = m → a.shape = b.shape → hidA o x = hidA o y) : hidA o x = hidA o y := by
  rcases alike_totals h' with rfl | ⟨h3, h4⟩
  · rcases alike_cases h with ⟨h1, h2⟩ | ⟨_, _, _, h4, _⟩
    · exact alike_hid (by rw [hx, flows_or, h1]; rfl) (by rw [hy, flows_or, h2]; rfl)
    · exact hv rfl h4
  · exact alike_hid (by rw [hx, flows_or, h3, Bool.and_false]) (by rw [hy, flows_or, h4, Bool.and_false])
theorem row_s {s : List Nat} {x : Nat} {fr : List Int} {t : Lab} (h : (rowS a s x fr t).2 = 0) : (rowS a s x fr t).1.s = a.s ||| t := by
  unfold rowS at h ⊢
  split at h
  · rename_i g; exact absurd h g
  · rename_i g; rw [if_neg g]; rfl
theorem row_alike {s : List Nat} {x : Nat} {fr : List Int} {t : Lab} (h : hidA o a = hidA o b) (e1 : (rowS a s x fr t).2 = 0) : hidA o (rowS a s x fr t).1 = hidA o (rowS b s x fr t).1 := by
  unfold rowS at e1 ⊢
  split at e1
  · rename_i g; exact absurd e1 g
  · rename_i g
    rw [if_neg g, if_neg g]
    rcases alike_cases h with ⟨h1, h2⟩ | ⟨_, _, h3, _, h5⟩
    · exact alike_hid (by show flows (a.s ||| t) o = false; rw [flows_or, h1]; rfl) (by show flows (b.s ||| t) o = false; rw [flows_or, h2]; rfl)
    · refine alike_vis (by show a.s ||| t = b.s ||| t; rw [h3]) rfl ?_
      simp only [Arr.cells_mk, List.map_map]
      refine List.map_congr_left (fun j _ => ?_)
      show hidC o (pickJ a _ _ fr j) = hidC o (pickJ b _ _ fr j)
      unfold pickJ
      split
      · exact fill_alike15 h5
      · exact map_getD15 h5 _ rfl
theorem aN_same (h : a.shape = b.shape) : aN a = aN b := by unfold aN; rw [h]
theorem axX_same (h : a.shape = b.shape) (f : Bool) : axX a f = axX b f := by unfold axX; rw [h]
theorem repl_s {f : Bool} (h : (replS n a f).2 = 0) : (replS n a f).1.s = a.s ||| totA n := by
  unfold replS at h ⊢
  split at h
  · rename_i g; exact absurd h g
  rename_i g1
  rw [if_neg g1]
  split at h
  · cases h
  rename_i g2
  rw [if_neg g2]
  split at h
  · cases h
  rename_i g3
  rw [if_neg g3]
  cases hf : frS ((aN a).getD (axX a f) 0 == 1) (lS n ((aN a).getD (axX a f) 0)) 0 [] with
  | none => rw [hf] at h; cases h
  | some fr => rw [hf] at h; exact row_s h
theorem repl_alike {f : Bool} (h' : hidA o n = hidA o m) (h : hidA o a = hidA o b) (e1 : (replS n a f).2 = 0) (e2 : (replS m b f).2 = 0) : hidA o (replS n a f).1 = hidA o (replS m b f).1 := by
  refine two_alike15 (repl_s e1) (repl_s e2) h' h (fun e hs => ?_)
  subst e
  unfold replS at e1 e2 ⊢
  rw [← aN_same hs, ← axX_same hs] at e2 ⊢
  split at e1
  · rename_i g; exact absurd e1 g
  rename_i g1
  rw [if_neg g1, if_neg g1]
  split at e1
  · cases e1
  rename_i g2
  rw [if_neg g2, if_neg g2]
  split at e1
  · cases e1
  rename_i g3
  rw [if_neg g3, if_neg g3]
  cases hf : frS ((aN a).getD (axX a f) 0 == 1) (lS n ((aN a).getD (axX a f) 0)) 0 [] with
  | none => rfl
  | some fr => rw [hf] at e1; exact row_alike h e1
theorem exp_s {f : Bool} (h : (expS n a f).2 = 0) : (expS n a f).1.s = a.s ||| totA n := by
  unfold expS at h ⊢
  split at h
  · rename_i g; exact absurd h g
  rename_i g1
  rw [if_neg g1]
  split at h
  · cases h
  rename_i g2
  rw [if_neg g2]
  split at h
  · cases h
  rename_i g3
  rw [if_neg g3]
  exact row_s h
theorem exp_alike {f : Bool} (h' : hidA o n = hidA o m) (h : hidA o a = hidA o b) (e1 : (expS n a f).2 = 0) (e2 : (expS m b f).2 = 0) : hidA o (expS n a f).1 = hidA o (expS m b f).1 := by
  refine two_alike15 (exp_s e1) (exp_s e2) h' h (fun e hs => ?_)
  subst e
  unfold expS at e1 e2 ⊢
  rw [← aN_same hs, ← axX_same hs] at e2 ⊢
  split at e1
  · rename_i g; exact absurd e1 g
  rename_i g1
  rw [if_neg g1, if_neg g1]
  split at e1
  · cases e1
  rename_i g2
  rw [if_neg g2, if_neg g2]
  split at e1
  · cases e1
  rename_i g3
  rw [if_neg g3, if_neg g3]
  exact row_alike h e1
theorem where_alike (h : hidA o n = hidA o m) (e1 : (whereS n).2 = 0) (e2 : (whereS m).2 = 0) : hidA o (whereS n).1 = hidA o (whereS m).1 := by
  have hs : ∀ {x : Arr}, (whereS x).2 = 0 → (whereS x).1.s = totA x := fun {x} h => by
    unfold whereS at h ⊢
    split at h
    · rename_i g; exact absurd h g
    rename_i g1
    rw [if_neg g1]
    split at h
    · cases h
    rename_i g2
    rw [if_neg g2]
    split at h
    · cases h
    rename_i g3
    rw [if_neg g3]; rfl
  rcases alike_totals h with e | ⟨h1, h2⟩
  · rw [e]
  · exact alike_hid (by rw [hs e1, h1]) (by rw [hs e2, h2])
end
end Go.Proofs.YtbgcadcpeabpgaaGreat
set_option maxRecDepth 100000
namespace Go.Proofs.YtbgcadcpeabpgaaGreat
theorem subS_some {long : Int} : ∀ {l r : List Int}, subS long l = some r → ∀ k ∈ l, 1 ≤ k ∧ k ≤ long
  | [], r, _ => by simp
  | k :: ks, r, h => by
    rw [subS] at h
    split at h
    · cases h
    split at h
    · cases h
    cases hs : subS long ks with
    | none => rw [hs] at h; cases h
    | some q =>
      intro z hz
      rcases List.mem_cons.1 hz with rfl | hz
      · omega
      · exact subS_some hs z hz
def at1S (a n : Arr) : Arr × Int :=
  if a.shape.length ≠ 1 then (.none, 5)
  else if (intsA (vectA n.cells)).2 ≠ 0 then (.none, (intsA (vectA n.cells)).2)
  else match subS (a.cells.length : Int) (intsA (vectA n.cells)).1 with
    | none => (.none, 6)
    | some _ => (.mk (a.s ||| totA n) n.shape ((intsA (vectA n.cells)).1.map (fun k => a.cells.getD (k - 1).toNat Cell.none)), 0)
theorem places_err (a n : Arr) (e : Int) (he : e ≠ 0) (h : (a.shape.length ≠ 1 ∧ e = 5) ∨ (a.shape = [(a.cells.length : Int)] ∧ a.cells.length ≤ 2048 ∧ FineX ⟨false, n⟩ ∧ (partS ⟨false, n⟩ (a.cells.length : Int)).2 = e)) : Sp 22 [dA a, .sl [dX ⟨false, n⟩]] [.sl [], .sl [], .int e] := by
  refine sound_ 4096 (pick_Places_tree _ _ _) ?_
  rcases h with ⟨h, rfl⟩ | ⟨hs, hl, hf, hp⟩
  · simp only [dA_1, els_sl, els_dI, List.length_map, List.length_cons, List.length_nil, int_bne]
    exact wp_ff (by decide) (wp_dec (by omega) (wp_ret rfl))
  · simp only [dA_1, hs, els_sl, els_dI, List.map_cons, List.map_nil, List.length_cons, List.length_nil]
    refine wp_ff (by decide) (wp_ff (by decide) ?_)
    have sp := part_sp ⟨false, n⟩ a.cells.length hf hl
    rw [hp] at sp
    rw [pick_Places_l6_succ 4096 4095]
    simp only [dA_1, hs, els_dI, els_sl, List.map_cons, List.map_nil, List.length_cons, List.length_nil, Int.toNat_zero, getD_c0, toInt_int]
    refine wp_dec (by decide) (wp_dec (by decide) (wp_dec (by decide) (wp_dec (by decide) (wp_dec (by decide) (wp_call sp ?_)))))
    simp only [getD_c0, getD_c1, toInt_int, int_bne]
    exact wp_dec he (wp_ret rfl)
theorem at_err (a n : Arr) (e : Int) (he : e ≠ 0) (h : Sp 22 [dA a, .sl [dX ⟨false, n⟩]] [.sl [], .sl [], .int e]) : Sp 19 [dA a, .sl [dX ⟨false, n⟩]] [dA .none, .int e] := by
  refine sound_ 0 (pick_At_tree _ _ _) (wp_call h ?_)
  have e2 : ([D.sl [], D.sl [], D.int e].getD 2 D.nil).toInt = e := rfl
  simp only [e2, int_bne, dA_none]
  exact wp_dec he (wp_ret rfl)
theorem pick_At1g_sp (a n : Arr) (ha : rightA 8 a = true) (hn : rightA 8 n = true) : Sp 19 [dA a, .sl [dX ⟨false, n⟩]] [dA (at1S a n).1, .int (at1S a n).2] := by
  have la := (rightA_len ha).1
  have ln := (rightA_len hn).1
  have hf : FineX ⟨false, n⟩ := ⟨rightA_sml hn, ln, rightA_top hn⟩
  unfold at1S
  split
  · rename_i h
    exact at_err a n 5 (by decide) (places_err a n 5 (by decide) (.inl ⟨h, rfl⟩))
  · rename_i h
    have hs1 : a.shape.length = 1 := Classical.not_not.1 h
    have hsh : a.shape = [(a.cells.length : Int)] := by
      obtain ⟨x, hx⟩ := len_one (l := a.shape) hs1
      have hcs := (rightA_cells ha).1
      have hr := (rightA_len ha).2.2 x (by rw [hx]; simp)
      rw [hx] at hcs ⊢
      obtain ⟨X, rfl⟩ : ∃ X : Nat, x = (X : Int) := ⟨x.toNat, by omega⟩
      rw [countS_cases1 (by omega)] at hcs
      have h1 := congrArg Prod.fst hcs
      rw [show (X : Int) = (a.cells.length : Int) from h1]
    split
    · rename_i h2
      exact at_err a n _ h2 (places_err a n _ h2 (.inr ⟨hsh, la, hf, by unfold partS; rw [if_neg (show ¬ (false = true) by decide), if_pos h2]⟩))
    · rename_i h2
      have h20 : (intsA (vectA n.cells)).2 = 0 := Classical.not_not.1 h2
      cases hq : subS (a.cells.length : Int) (intsA (vectA n.cells)).1 with
      | none => exact at_err a n 6 (by decide) (places_err a n 6 (by decide) (.inr ⟨hsh, la, hf, by unfold partS; rw [if_neg (show ¬ (false = true) by decide), if_neg h2, hq]⟩))
      | some r => exact pick_At1_sp a n (intsA (vectA n.cells)).1 hsh la hf (rightA_cells hn).1 (Prod.ext rfl h20) (subS_some hq)
theorem at1_none {a n : Arr} (h : (at1S a n).2 ≠ 0) : (at1S a n).1 = .none := by
  unfold at1S at h ⊢
  split
  · rfl
  · rename_i g1
    rw [if_neg g1] at h
    split
    · rfl
    · rename_i g2
      rw [if_neg g2] at h
      cases hq : subS (a.cells.length : Int) (intsA (vectA n.cells)).1 with
      | none => rfl
      | some r => rw [hq] at h; exact absurd rfl h
theorem at1_form {a n : Arr} (h : (at1S a n).2 = 0) : a.shape.length = 1 ∧ (∀ k ∈ (intsA (vectA n.cells)).1, 1 ≤ k ∧ k ≤ (a.cells.length : Int)) ∧ (at1S a n).1 = .mk (a.s ||| totA n) n.shape ((intsA (vectA n.cells)).1.map (fun k => a.cells.getD (k - 1).toNat Cell.none)) ∧ (intsA (vectA n.cells)).2 = 0 := by
  unfold at1S at h ⊢
  split at h
  · cases h
  rename_i g1
  split at h
  · rename_i g2; exact absurd h g2
  rename_i g2
  rw [if_neg g1, if_neg g2]
  cases hq : subS (a.cells.length : Int) (intsA (vectA n.cells)).1 with
  | none => rw [hq] at h; cases h
  | some r => exact ⟨Classical.not_not.1 g1, subS_some hq, rfl, Classical.not_not.1 g2⟩
theorem at1_sml {a n : Arr} (ha : rightA 8 a = true) (hn : rightA 8 n = true) (h : (at1S a n).2 = 0) : Sml 9 (at1S a n).1 := by
  obtain ⟨_, hk, e, _⟩ := at1_form h
  have ln := (rightA_len hn).1
  have hl := intsA_len2 (vectA n.cells)
  rw [e]
  have sn := rightA_sml hn
  refine Sml.of sn.1 (by simp only [Arr.cells_mk, List.length_map]; have : (vectA n.cells).cells.length = n.cells.length := rfl; omega) sn.2.2.1 (fun c hc => ?_)
  simp only [Arr.cells_mk, List.mem_map] at hc
  obtain ⟨k, hkm, rfl⟩ := hc
  have := hk k hkm
  have hlt : (k - 1).toNat < a.cells.length := by omega
  rw [List.getD_eq_getElem?_getD, List.getElem?_eq_getElem hlt]
  exact (rightA_sml ha).cell _ (List.getElem_mem hlt)
theorem at1_alike {o : Lab} {a b n m : Arr} (h' : hidA o n = hidA o m) (h : hidA o a = hidA o b) (e1 : (at1S a n).2 = 0) (e2 : (at1S b m).2 = 0) : hidA o (at1S a n).1 = hidA o (at1S b m).1 := by
  obtain ⟨_, k1, f1, _⟩ := at1_form e1
  obtain ⟨_, k2, f2, _⟩ := at1_form e2
  rw [f1, f2]
  refine two_alike15 rfl rfl h' h (fun e hs => ?_)
  subst e
  rcases alike_cases h with ⟨h1, h2⟩ | ⟨_, _, h3, _, h5⟩
  · exact alike_hid (by show flows (a.s ||| _) o = false; rw [flows_or, h1]; rfl) (by show flows (b.s ||| _) o = false; rw [flows_or, h2]; rfl)
  · refine alike_vis (by show a.s ||| _ = b.s ||| _; rw [h3]) rfl ?_
    simp only [Arr.cells_mk, List.map_map]
    exact List.map_congr_left (fun k _ => map_getD15 h5 _ rfl)
end Go.Proofs.YtbgcadcpeabpgaaGreat
set_option maxRecDepth 100000
namespace Go.Proofs.YtbgcadcpeabpgaaGreat
/-! scrim/scrimlaw15.PickBlind -/
def law15_PickBlind_orc : List (Nat × Orc) := [(1000003, ⟨[(4, none), (5, none), (6, none), (7, none), (8, none), (9, none)], [(6, true), (7, true), (8, true), (9, true)], []⟩), (1000007, ⟨[(4, none), (5, none), (6, none), (7, none), (8, none), (9, none)], [(6, true), (7, true), (8, true), (9, true)], []⟩), (1000015, ⟨[(5, none), (6, none), (7, none)], [(6, true), (7, true)], []⟩)]
def law15_PickBlind_ps : List Nat := [26, 26, 26, 26, 4, 22]
def law15_PickBlind_rs : List ResultVar := [.tmp 12]
def law15_PickBlind_ts : List Nat := [4]
noncomputable def law15_PickBlind_j15 (n : Nat) (o5 : Int) (nn6 : D) (mm7 : D) : Tree :=
  ev Tryz.prog md n law15_PickBlind_orc (cAt (bodyOf Tryz.prog 6) [1, 1, 1, 1, 1, 1, 1, 1, 1, 1, 1]) ⟨[.undef, .undef, .undef, .undef, .undef, .i .u64 o5, .ptr 6 [], .ptr 7 [], .undef, .undef, .undef, .undef, .undef, .undef, .undef, .undef, .undef, .undef, .undef, .undef, .undef, .undef, .undef, .undef, .undef, .undef, .undef, .undef, .undef, .undef, .undef, .undef, .undef, .undef, .undef, .undef, .undef, .undef, .undef, .undef, .undef, .undef, .undef, .undef, .undef, .undef, .undef, .undef, .undef, .undef, .undef, .undef, .undef, .undef, .undef, .undef, .undef, .undef, .undef, .undef, .undef, .undef, .undef, .undef, .undef, .undef, .undef, .undef, .undef, .undef, .undef, .undef, .undef, .undef, .undef, .undef, .undef, .undef, .undef, .undef, .undef, .undef, .undef, .undef, .undef, .undef, .undef, .undef, .undef, .undef, .undef, .undef, .undef, .undef, .undef, .undef, .undef, .undef, .undef, .undef, .undef, .undef, .undef, .undef, .undef, .undef, .undef, .undef, .undef, .undef, .undef, .undef, .undef, .undef, .undef, .undef, .undef, .undef, .undef, .undef, .undef, .undef, .undef, .undef, .undef, .undef, .undef, .undef, .undef, .undef, .undef, .undef, .undef, .undef, .undef, .undef, .undef, .undef, .undef, .undef, .undef, .undef, .undef, .undef, .undef, .undef, .undef, .undef, .undef, .undef, .undef, .undef, .undef, .undef, .undef, .undef, .undef, .undef, .undef, .undef, .undef, .undef, .undef, .undef, .undef, .undef, .undef, .undef, .undef, .undef, .undef, .undef, .undef, .undef, .undef, .undef, .undef, .undef], [(6, .var 26 (.d 26 nn6) true), (7, .var 26 (.d 26 mm7) true)], [6, 7], [], []⟩
   (retK Tryz.prog md (md 6) law15_PickBlind_ps law15_PickBlind_rs law15_PickBlind_ts)
noncomputable def law15_PickBlind_j7 (n : Nat) (first4 : Bool) (o5 : Int) (nn6 : D) (mm7 : D) (a8 : D) (b9 : D) : Tree :=
  ev Tryz.prog md n law15_PickBlind_orc (cAt (bodyOf Tryz.prog 6) [1, 1, 1, 1, 1]) ⟨[.undef, .undef, .undef, .undef, .b first4, .i .u64 o5, .ptr 6 [], .ptr 7 [], .ptr 8 [], .ptr 9 [], .undef, .undef, .undef, .undef, .undef, .undef, .undef, .undef, .undef, .undef, .undef, .undef, .undef, .undef, .undef, .undef, .undef, .undef, .undef, .undef, .undef, .undef, .undef, .undef, .undef, .undef, .undef, .undef, .undef, .undef, .undef, .undef, .undef, .undef, .undef, .undef, .undef, .undef, .undef, .undef, .undef, .undef, .undef, .undef, .undef, .undef, .undef, .undef, .undef, .undef, .undef, .undef, .undef, .undef, .undef, .undef, .undef, .undef, .undef, .undef, .undef, .undef, .undef, .undef, .undef, .undef, .undef, .undef, .undef, .undef, .undef, .undef, .undef, .undef, .undef, .undef, .undef, .undef, .undef, .undef, .undef, .undef, .undef, .undef, .undef, .undef, .undef, .undef, .undef, .undef, .undef, .undef, .undef, .undef, .undef, .undef, .undef, .undef, .undef, .undef, .undef, .undef, .undef, .undef, .undef, .undef, .undef, .undef, .undef, .undef, .undef, .undef, .undef, .undef, .undef, .undef, .undef, .undef, .undef, .undef, .undef, .undef, .undef, .undef, .undef, .undef, .undef, .undef, .undef, .undef, .undef, .undef, .undef, .undef, .undef, .undef, .undef, .undef, .undef, .undef, .undef, .undef, .undef, .undef, .undef, .undef, .undef, .undef, .undef, .undef, .undef, .undef, .undef, .undef, .undef, .undef, .undef, .undef, .undef, .undef, .undef, .undef, .undef, .undef, .undef, .undef, .undef, .undef], [(6, .var 26 (.d 26 nn6) true), (7, .var 26 (.d 26 mm7) true), (8, .var 26 (.d 26 a8) true), (9, .var 26 (.d 26 b9) true)], [6, 7, 8, 9], [], []⟩
   (retK Tryz.prog md (md 6) law15_PickBlind_ps law15_PickBlind_rs law15_PickBlind_ts)
noncomputable def law15_PickBlind_j3 (n : Nat) (first4 : Bool) (o5 : Int) (nn6 : D) (mm7 : D) (a8 : D) (b9 : D) : Tree :=
  ev Tryz.prog md n law15_PickBlind_orc (cAt (bodyOf Tryz.prog 6) [1, 1]) ⟨[.undef, .undef, .undef, .undef, .b first4, .i .u64 o5, .ptr 6 [], .ptr 7 [], .ptr 8 [], .ptr 9 [], .undef, .undef, .undef, .undef, .undef, .undef, .undef, .undef, .undef, .undef, .undef, .undef, .undef, .undef, .undef, .undef, .undef, .undef, .undef, .undef, .undef, .undef, .undef, .undef, .undef, .undef, .undef, .undef, .undef, .undef, .undef, .undef, .undef, .undef, .undef, .undef, .undef, .undef, .undef, .undef, .undef, .undef, .undef, .undef, .undef, .undef, .undef, .undef, .undef, .undef, .undef, .undef, .undef, .undef, .undef, .undef, .undef, .undef, .undef, .undef, .undef, .undef, .undef, .undef, .undef, .undef, .undef, .undef, .undef, .undef, .undef, .undef, .undef, .undef, .undef, .undef, .undef, .undef, .undef, .undef, .undef, .undef, .undef, .undef, .undef, .undef, .undef, .undef, .undef, .undef, .undef, .undef, .undef, .undef, .undef, .undef, .undef, .undef, .undef, .undef, .undef, .undef, .undef, .undef, .undef, .undef, .undef, .undef, .undef, .undef, .undef, .undef, .undef, .undef, .undef, .undef, .undef, .undef, .undef, .undef, .undef, .undef, .undef, .undef, .undef, .undef, .undef, .undef, .undef, .undef, .undef, .undef, .undef, .undef, .undef, .undef, .undef, .undef, .undef, .undef, .undef, .undef, .undef, .undef, .undef, .undef, .undef, .undef, .undef, .undef, .undef, .undef, .undef, .undef, .undef, .undef, .undef, .undef, .undef, .undef, .undef, .undef, .undef, .undef, .undef, .undef, .undef, .undef], [(6, .var 26 (.d 26 nn6) true), (7, .var 26 (.d 26 mm7) true), (8, .var 26 (.d 26 a8) true), (9, .var 26 (.d 26 b9) true)], [6, 7, 8, 9], [], []⟩
   (retK Tryz.prog md (md 6) law15_PickBlind_ps law15_PickBlind_rs law15_PickBlind_ts)
theorem law15_PickBlind_j15_eq (n : Nat) (o5 : Int) (nn6 : D) (mm7 : D) : law15_PickBlind_j15 n o5 nn6 mm7 =
 .call 28 [] [nn6] fun yy26 =>
 .call 28 [] [mm7] fun yy27 =>
 .br (((yy26.getD 1 D.nil).toInt) != 0) (.call 11 [] [] fun yy28 =>
 .ret [D.bool ((yy28.getD 0 D.nil).toBool)])
 (.br (((yy27.getD 1 D.nil).toInt) != 0) (.call 11 [] [] fun yy29 =>
 .ret [D.bool ((yy29.getD 0 D.nil).toBool)])
 (.call 27 [] [yy26.getD 0 D.nil, yy27.getD 0 D.nil, D.int o5] fun yy30 =>
 .br ((yy30.getD 0 D.nil).toBool) (.call 11 [] [] fun yy31 =>
 .ret [D.bool ((yy31.getD 0 D.nil).toBool)])
 (.ret [D.bool false]))) := by kernel_rfl
theorem law15_PickBlind_j7_eq (n : Nat) (first4 : Bool) (o5 : Int) (nn6 : D) (mm7 : D) (a8 : D) (b9 : D) : law15_PickBlind_j7 n first4 o5 nn6 mm7 a8 b9 =
 .call 16 [] [nn6, a8, D.bool first4] fun yy20 =>
 .call 16 [] [mm7, b9, D.bool first4] fun yy21 =>
 .br (((yy20.getD 1 D.nil).toInt) == 0) (.br (((yy21.getD 1 D.nil).toInt) == 0) (.call 27 [] [yy20.getD 0 D.nil, yy21.getD 0 D.nil, D.int o5] fun yy22 =>
 .br (!((yy22.getD 0 D.nil).toBool)) (.ret [D.bool false])
 (.call 19 [] [a8, D.sl [D.agg [D.bool false, nn6]]] fun yy23 =>
 .call 19 [] [b9, D.sl [D.agg [D.bool false, mm7]]] fun yy24 =>
 .br (((yy23.getD 1 D.nil).toInt) == 0) (.br (((yy24.getD 1 D.nil).toInt) == 0) (.call 27 [] [yy23.getD 0 D.nil, yy24.getD 0 D.nil, D.int o5] fun yy25 =>
 .br (!((yy25.getD 0 D.nil).toBool)) (.ret [D.bool false])
 (law15_PickBlind_j15 n o5 nn6 mm7))
 (law15_PickBlind_j15 n o5 nn6 mm7))
 (law15_PickBlind_j15 n o5 nn6 mm7)))
 (.call 19 [] [a8, D.sl [D.agg [D.bool false, nn6]]] fun yy32 =>
 .call 19 [] [b9, D.sl [D.agg [D.bool false, mm7]]] fun yy33 =>
 .br (((yy32.getD 1 D.nil).toInt) == 0) (.br (((yy33.getD 1 D.nil).toInt) == 0) (.call 27 [] [yy32.getD 0 D.nil, yy33.getD 0 D.nil, D.int o5] fun yy34 =>
 .br (!((yy34.getD 0 D.nil).toBool)) (.ret [D.bool false])
 (law15_PickBlind_j15 n o5 nn6 mm7))
 (law15_PickBlind_j15 n o5 nn6 mm7))
 (law15_PickBlind_j15 n o5 nn6 mm7)))
 (.call 19 [] [a8, D.sl [D.agg [D.bool false, nn6]]] fun yy35 =>
 .call 19 [] [b9, D.sl [D.agg [D.bool false, mm7]]] fun yy36 =>
 .br (((yy35.getD 1 D.nil).toInt) == 0) (.br (((yy36.getD 1 D.nil).toInt) == 0) (.call 27 [] [yy35.getD 0 D.nil, yy36.getD 0 D.nil, D.int o5] fun yy37 =>
 .br (!((yy37.getD 0 D.nil).toBool)) (.ret [D.bool false])
 (law15_PickBlind_j15 n o5 nn6 mm7))
 (law15_PickBlind_j15 n o5 nn6 mm7))
 (law15_PickBlind_j15 n o5 nn6 mm7)) := by kernel_rfl
theorem law15_PickBlind_j3_eq (n : Nat) (first4 : Bool) (o5 : Int) (nn6 : D) (mm7 : D) (a8 : D) (b9 : D) : law15_PickBlind_j3 n first4 o5 nn6 mm7 a8 b9 =
 .call 12 [] [nn6, a8, D.bool first4] fun yy17 =>
 .call 12 [] [mm7, b9, D.bool first4] fun yy18 =>
 .br (((yy17.getD 1 D.nil).toInt) == 0) (.br (((yy18.getD 1 D.nil).toInt) == 0) (.call 27 [] [yy17.getD 0 D.nil, yy18.getD 0 D.nil, D.int o5] fun yy19 =>
 .br (!((yy19.getD 0 D.nil).toBool)) (.ret [D.bool false])
 (law15_PickBlind_j7 n first4 o5 nn6 mm7 a8 b9))
 (law15_PickBlind_j7 n first4 o5 nn6 mm7 a8 b9))
 (law15_PickBlind_j7 n first4 o5 nn6 mm7 a8 b9) := by kernel_rfl
theorem law15_PickBlind_tree (n : Nat) (nn0 : D) (mm1 : D) (a2 : D) (b3 : D) (first4 : D) (o5 : D) : evFun Tryz.prog md law15_PickBlind_orc n 6 [] [nn0, mm1, a2, b3, first4, o5] =
 .call 9 [] [nn0] fun yy1 =>
 .br (!((yy1.getD 0 D.nil).toBool)) (.call 11 [] [] fun yy2 =>
 .ret [D.bool ((yy2.getD 0 D.nil).toBool)])
 (.call 9 [] [mm1] fun yy3 =>
 .br (!((yy3.getD 0 D.nil).toBool)) (.call 11 [] [] fun yy4 =>
 .ret [D.bool ((yy4.getD 0 D.nil).toBool)])
 (.call 9 [] [a2] fun yy5 =>
 .br (!((yy5.getD 0 D.nil).toBool)) (.call 11 [] [] fun yy6 =>
 .ret [D.bool ((yy6.getD 0 D.nil).toBool)])
 (.call 9 [] [b3] fun yy7 =>
 .br (!((yy7.getD 0 D.nil).toBool)) (.call 11 [] [] fun yy8 =>
 .ret [D.bool ((yy8.getD 0 D.nil).toBool)])
 (.call 10 [] [nn0] fun yy9 =>
 .br ((yy9.getD 0 D.nil).toBool) (.call 11 [] [] fun yy10 =>
 .ret [D.bool ((yy10.getD 0 D.nil).toBool)])
 (.call 10 [] [mm1] fun yy11 =>
 .br ((yy11.getD 0 D.nil).toBool) (.call 11 [] [] fun yy12 =>
 .ret [D.bool ((yy12.getD 0 D.nil).toBool)])
 (.call 27 [] [nn0, mm1, D.int o5.toInt] fun yy13 =>
 .br (!((yy13.getD 0 D.nil).toBool)) (.call 11 [] [] fun yy14 =>
 .ret [D.bool ((yy14.getD 0 D.nil).toBool)])
 (.call 27 [] [a2, b3, D.int o5.toInt] fun yy15 =>
 .br (!((yy15.getD 0 D.nil).toBool)) (.call 11 [] [] fun yy16 =>
 .ret [D.bool ((yy16.getD 0 D.nil).toBool)])
 (law15_PickBlind_j3 n first4.toBool o5.toInt nn0 mm1 a2 b3)))))))) := by kernel_rfl
end Go.Proofs.YtbgcadcpeabpgaaGreat
set_option maxRecDepth 100000
namespace Go.Proofs.YtbgcadcpeabpgaaGreat
theorem pickBlind_sp (n m a b : Arr) (f : Bool) (o : Lab) (hn : Fits n) (hm : Fits m) (ha : Fits a) (hb : Fits b) : Sp 6 [dA n, dA m, dA a, dA b, .bool f, dB o] [.bool true] := by
  refine sound_ 0 (law15_PickBlind_tree _ _ _ _ _ _ _) (wp_call (law15_light_sp n hn) (wp_br (fun _ => awake15) (fun e1 => wp_call (law15_light_sp m hm) (wp_br (fun _ => awake15) (fun e2 => wp_call (law15_light_sp a ha) (wp_br (fun _ => awake15) (fun e3 => wp_call (law15_light_sp b hb) (wp_br (fun _ => awake15) (fun e4 => ?_)))))))))
  obtain ⟨g1, l1⟩ := light15_good (a := n) (by simpa using e1)
  obtain ⟨g2, l2⟩ := light15_good (a := m) (by simpa using e2)
  obtain ⟨g3, l3⟩ := light15_good (a := a) (by simpa using e3)
  obtain ⟨g4, l4⟩ := light15_good (a := b) (by simpa using e4)
  refine wp_call (law15_heavy_sp n g1) (wp_br (fun _ => awake15) (fun _ => wp_call (law15_heavy_sp m g2) (wp_br (fun _ => awake15) (fun _ => ?_))))
  simp only [toInt_dB, dInt_dB, toBool_bool]
  refine wp_call (ref09_Alike_sp o 9 n m (rightA_sml g1)) (wp_br (fun _ => awake15) (fun e5 => wp_call (ref09_Alike_sp o 9 a b (rightA_sml g3)) (wp_br (fun _ => awake15) (fun e6 => ?_))))
  have h1 : hidA o n = hidA o m := alk_iff.1 (by simpa using e5)
  have h2 : hidA o a = hidA o b := alk_iff.1 (by simpa using e6)
  have j15 : Tw (law15_PickBlind_j15 0 (o.toNat : Int) (dA n) (dA m)) [.bool true] := by
    rw [law15_PickBlind_j15_eq]
    have ws : (whereS n).2 = 0 → Sml 9 (whereS n).1 := fun h => by
      have hil := intsA_len2 n
      have hp := posL_in (intsA n).1 0
      unfold whereS at h ⊢
      split at h
      · rename_i q; exact absurd h q
      rename_i q1
      rw [if_neg q1]
      split at h
      · cases h
      rename_i q2
      rw [if_neg q2]
      split at h
      · cases h
      rename_i q3
      rw [if_neg q3]
      refine Sml.of (by simp [vecA]) (by simp only [vecA, ups, Arr.cells_mk, List.length_map]; omega) (fun x hx => ?_) (fun c hc => ?_)
      · simp only [vecA, ups, Arr.shape_mk, List.mem_singleton, List.length_map] at hx
        subst hx; exact inR_small (by omega) (by omega)
      · simp only [vecA, Arr.cells_mk, List.mem_map] at hc
        obtain ⟨x, hx, rfl⟩ := hc
        exact smlC_int (ups_R (by omega) x hx) 8
    refine wp_call (pick_Where_sp n g1) (wp_call (pick_Where_sp m g2) ?_)
    simp only [getD_c0, getD_c1, toInt_int, int_bne]
    refine wp_decs (fun _ => awake15) (fun hx => wp_decs (fun _ => awake15) (fun hy => ?_))
    exact wp_call (alike_sp (ws (Classical.not_not.1 hx)) (where_alike h1 (Classical.not_not.1 hx) (Classical.not_not.1 hy))) (wp_tt rfl awake15)
  have atp : Tw (.call 19 [] [dA a, D.sl [D.agg [D.bool false, dA n]]] fun y1 => .call 19 [] [dA b, D.sl [D.agg [D.bool false, dA m]]] fun y2 => .br (((y1.getD 1 D.nil).toInt) == 0) (.br (((y2.getD 1 D.nil).toInt) == 0) (.call 27 [] [y1.getD 0 D.nil, y2.getD 0 D.nil, D.int (o.toNat : Int)] fun y3 => .br (!((y3.getD 0 D.nil).toBool)) (.ret [D.bool false]) (law15_PickBlind_j15 0 (o.toNat : Int) (dA n) (dA m))) (law15_PickBlind_j15 0 (o.toNat : Int) (dA n) (dA m))) (law15_PickBlind_j15 0 (o.toNat : Int) (dA n) (dA m))) [.bool true] := by
    refine wp_call (pick_At1g_sp a n g3 g1) (wp_call (pick_At1g_sp b m g4 g2) ?_)
    simp only [getD_c0, getD_c1, toInt_int, int_beq]
    refine wp_decs (fun hx => wp_decs (fun hy => ?_) (fun _ => j15)) (fun _ => j15)
    exact wp_call (alike_sp (at1_sml g3 g1 hx) (at1_alike h1 h2 hx hy)) (wp_ff rfl j15)
  have j7 : Tw (law15_PickBlind_j7 0 f (o.toNat : Int) (dA n) (dA m) (dA a) (dA b)) [.bool true] := by
    rw [law15_PickBlind_j7_eq]
    refine wp_call (pick_Expand_sp n a f g1 g3) (wp_call (pick_Expand_sp m b f g2 g4) ?_)
    simp only [getD_c0, getD_c1, toInt_int, int_beq] at atp ⊢
    refine wp_decs (fun hx => wp_decs (fun hy => ?_) (fun _ => atp)) (fun _ => atp)
    exact wp_call (alike_sp (rightA_sml ((exp_good g3).1 hx)) (exp_alike h1 h2 hx hy)) (wp_ff rfl atp)
  rw [law15_PickBlind_j3_eq]
  refine wp_call (pick_Replicate_sp n a f g1 g3) (wp_call (pick_Replicate_sp m b f g2 g4) ?_)
  simp only [getD_c0, getD_c1, toInt_int, int_beq]
  refine wp_decs (fun hx => wp_decs (fun hy => ?_) (fun _ => j7)) (fun _ => j7)
  exact wp_call (alike_sp (rightA_sml ((repl_good g3).1 hx)) (repl_alike h1 h2 hx hy)) (wp_ff rfl j7)
end Go.Proofs.YtbgcadcpeabpgaaGreat
set_option maxRecDepth 100000
namespace Go.Proofs.YtbgcadcpeabpgaaGreat
open Go.ChangeShapes Go.WideShapes Go.ChangeAt Go.RowKit

set_option maxRecDepth 100000 in
theorem pickBlind_lifted (os : Os) (started : os.Started) (H : Type) (enc : TypeId × Value → H) :
    ReturnsInHanded {} Tryz.checked os 6 .any (Rows.pickBlindSpec.pre6 enc Tryz.prog Tryz.f6 Rows.pickBlindRow.domain false) (Rows.pickBlindSpec.post enc Tryz.prog Tryz.f6 false true false false) := by
  refine returnsInHanded_of_change_sized (C := Tryz.checked) knob started (by kernel_rfl) Tryz.func6
    (ChangeSpec.witness6 (enc := enc) (C := Tryz.checked) false ⟨#[], #[.agg #[.int .u64 0, .slice none 0 0, .slice none 0 0], .agg #[.int .u64 0, .slice none 0 0, .slice none 0 0], .agg #[.int .u64 0, .slice none 0 0, .slice none 0 0], .agg #[.int .u64 0, .slice none 0 0, .slice none 0 0], .bool false, .int .u64 0], []⟩ 16 (by kernel_rfl) (by kernel_rfl) (by kernel_rfl) (by kernel_rfl)) ?_
  intro W base args ds gs before hval0 hW hcnd hwt0 _
  have hval : ∀ (j : Nat) t v, Tryz.f6.params[j]? = some t → args[j]? = some v → Value.okWide Tryz.prog W .any base t v := hval0
  have hW' := hW
  obtain ⟨p, q, hA0, hV, rfl, hfz, hnd⟩ := hW
  have hA : DataW.TrodAll enc Tryz.prog W 0 (fun _ => true) true Tryz.f6.params.toList args.toList ds p := hA0
  rw [Tryz.params6] at hA hval
  obtain ⟨v0, vs0, d0, ds0, p0, q0, hargs, rfl, rfl, h0, r0⟩ := trodAll_cons hA
  obtain ⟨v1, vs1, d1, ds1, p1, q1, rfl, rfl, rfl, h1, r1⟩ := trodAll_cons r0
  obtain ⟨v2, vs2, d2, ds2, p2, q2, rfl, rfl, rfl, h2, r2⟩ := trodAll_cons r1
  obtain ⟨v3, vs3, d3, ds3, p3, q3, rfl, rfl, rfl, h3, r3⟩ := trodAll_cons r2
  obtain ⟨v4, vs4, d4, ds4, p4, q4, rfl, rfl, rfl, h4, r4⟩ := trodAll_cons r3
  obtain ⟨v5, vs5, d5, ds5, p5, q5, rfl, rfl, rfl, h5, r5⟩ := trodAll_cons r4
  obtain ⟨rfl, rfl, rfl⟩ := trodAll_nil r5
  obtain rfl : args = #[v0, v1, v2, v3, v4, v5] := by cases args; simp_all
  have hwt : ∀ (j t : Nat) d, (Tryz.f6.params.toList)[j]? = some t → ([d0, d1, d2, d3, d4, d5])[j]? = some d → ∀ z ∈ DataW.weights Tryz.prog t d, z ≤ reachBytes := fun j t d ht hd z hz => by
    have hl := (List.getElem?_eq_some_iff.1 ht).1
    have hl2 := (List.getElem?_eq_some_iff.1 hd).1
    have := List.all_eq_true.1 hwt0 z (DataW.weights_mem_each (j := j) (t := t) (d := d) (by rw [List.getElem?_append_left hl]; exact ht) (by rw [List.getElem?_append_left hl2]; exact hd) z hz)
    simpa using this
  obtain ⟨x0, hx0, hr0⟩ := arg_arr (hval 0 26 v0 rfl rfl) h0
  obtain ⟨x1, hx1, hr1⟩ := arg_arr (hval 1 26 v1 rfl rfl) h1
  obtain ⟨x2, hx2, hr2⟩ := arg_arr (hval 2 26 v2 rfl rfl) h2
  obtain ⟨x3, hx3, hr3⟩ := arg_arr (hval 3 26 v3 rfl rfl) h3
  obtain ⟨x4, hr4⟩ := arg_bool (hval 4 4 v4 rfl rfl) h4
  obtain ⟨x5, hr5⟩ := arg_lab (hval 5 22 v5 rfl rfl) h5
  refine (law_calls (vs := [v0, v1, v2, v3, v4, v5]) (pickBlind_sp x0 x1 x2 x3 x4 x5 hx0 hx1 hx2 hx3) Tryz.func6 (by kernel_rfl) (by kernel_rfl) Tryz.underlying4 rfl rfl ?_).mono fun e W' ⟨he, hx⟩ => ⟨_, he, law_post laidOut hW' rfl (by kernel_rfl) Tryz.underlying4 rfl (by kernel_rfl) hx⟩
  intro i t x v ht hx hv
  match i with
  | 0 => cases (show some 26 = some t from ht); cases hx; cases hv; exact hr0
  | 1 => cases (show some 26 = some t from ht); cases hx; cases hv; exact hr1
  | 2 => cases (show some 26 = some t from ht); cases hx; cases hv; exact hr2
  | 3 => cases (show some 26 = some t from ht); cases hx; cases hv; exact hr3
  | 4 => cases (show some 4 = some t from ht); cases hx; cases hv; exact hr4
  | 5 => cases (show some 22 = some t from ht); cases hx; cases hv; exact hr5
  | i + 6 => cases hx

theorem pickBlind_holds : Rows.PickBlindSaid :=
  OpenClaim.holds_of_wide 6 Tryz.f6 rfl rfl rfl rfl rfl rfl rfl ⟨rfl, rfl, rfl, rfl, rfl⟩ rfl rfl rfl rfl rfl (by kernel_rfl) Tryz.func6 (by kernel_rfl)
    (of_decide_eq_true (by kernel_rfl)) (by unfold Func.isWrapper; first | (rw [if_pos (by decide +kernel)]; kernel_rfl) | (rw [if_neg (by decide +kernel)]; exact ⟨rfl, rfl⟩))
    (fun os started H enc _ => pickBlind_lifted os started H enc)

end Go.Proofs.YtbgcadcpeabpgaaGreat
