/- Proved: lemmas for the law of this folder, part 6. No condition. -/
import Derived.Test.YtbgcadcpeabpgaaGreatRows
import Derived.WalkKit
import Derived.WalkSpells
import Derived.WalkLawsBesides
import Derived.Lib.Hide
import Derived.Laws.CopyOwn
import Derived.Deep.QuietTactic
import Derived.BigQuiet
import Derived.Orders
import Derived.Defers
import Derived.Recover
import Derived.Test.YtbgcadcpeabpgaaGreatProg
import Derived.KernelRfl
import Derived.ProofKit
import Derived.OpenShut
import Derived.Test.YtbgcadcpeabpgaaGreatZ18f4c1d6
set_option linter.unusedSimpArgs false
set_option linter.unusedVariables false
set_option maxRecDepth 100000
namespace Go.Proofs.YtbgcadcpeabpgaaGreat

theorem countS_nil : countS [] = (1, 0) := by decide
theorem prodS_one {n : Nat} (h : n ≤ 2048) : prodS [(n : Int)] 1 = (n : Int) := by
  simp only [prodS]; rw [if_neg (by omega)]; omega
theorem countS_one {n : Nat} (h : n ≤ 2048) : countS [(n : Int)] = ((n : Int), 0) := by
  unfold countS
  rw [prodS_one h]
  simp only [List.length_cons, List.length_nil, List.any_cons, List.any_nil, Bool.or_false]
  by_cases h0 : n = 0
  · subst h0; rfl
  · rw [if_neg (by omega), if_neg (by simp), if_neg (by simp; omega), if_neg (by simp; omega), if_neg (by omega)]
theorem cellR_kind {c : Cell} (h : ¬ c.kind = 2) (k k' : Bool) (r r' : Arr → Bool) : cellR k r c = cellR k' r' c := by
  unfold cellR
  split
  · rfl
  split
  · rfl
  · rw [decide_eq_false (fun hh => h hh.1)]; rfl
theorem rightC_kind {c : Cell} (h : ¬ c.kind = 2) {d e : Nat} (hc : rightC d c = true) : rightC e c = true := by
  have : rightC e c = rightC d c := by cases d <;> cases e <;> exact cellR_kind h _ _ _ _
  rw [this]; exact hc
theorem rightC_box {d : Nat} {x : Arr} {l : Lab} (hs : simpleA x = false) (hr : rightA d x = true) : rightC (d + 1) ⟨l, 2, .zero, 0, [x]⟩ = true := by
  show cellR true (rightA d) _ = true
  unfold cellR boxOK
  simp [hs, hr]
/-- Cells that are boxes. -/
theorem rightC_two {d : Nat} {c : Cell} (hk : c.kind = 2) (h : rightC d c = true) : ∃ e x, d = e + 1 ∧ c = ⟨c.l, 2, .zero, 0, [x]⟩ ∧ simpleA x = false ∧ rightA e x = true := by
  have key : ∀ k r, cellR k r c = true → k = true ∧ ∃ x, c.inn = [x] ∧ simpleA x = false ∧ r x = true ∧ c.n = .zero ∧ c.c = 0 := by
    intro k r hh
    unfold cellR at hh
    rw [if_neg (by omega), if_neg (by omega)] at hh
    simp only [Bool.and_eq_true, decide_eq_true_eq] at hh
    obtain ⟨h1, h2, h3⟩ := hh
    unfold boxOK at h3
    split at h3
    · rename_i x hx
      simp only [Bool.and_eq_true, Bool.not_eq_true'] at h3
      exact ⟨h2, x, hx, h3.1, h3.2, h1.2.1, h1.2.2⟩
    · cases h3
  cases d with
  | zero => exact absurd (key _ _ h).1 (by simp)
  | succ d =>
    obtain ⟨_, x, h1, h2, h3, h4, h5⟩ := key _ _ h
    refine ⟨d, x, rfl, ?_, h2, h3⟩
    cases c; simp only at hk h1 h4 h5; subst hk; subst h1; subst h4; subst h5; rfl
theorem rightA_up : ∀ {d : Nat} {a : Arr}, rightA d a = true → rightA (d + 1) a = true := by
  intro d
  induction d with
  | zero =>
    intro a h
    obtain ⟨h1, h2⟩ := rightA_cells h
    refine rightA_of h1 (fun c hc => ?_)
    by_cases hk : c.kind = 2
    · obtain ⟨e, x, he, _⟩ := rightC_two hk (h2 c hc); omega
    · exact rightC_kind hk (h2 c hc)
  | succ d ih =>
    intro a h
    obtain ⟨h1, h2⟩ := rightA_cells h
    refine rightA_of h1 (fun c hc => ?_)
    by_cases hk : c.kind = 2
    · obtain ⟨e, x, he, hx, hs, hr⟩ := rightC_two hk (h2 c hc)
      have : e = d := by omega
      subst this
      rw [hx]; exact rightC_box hs (ih hr)
    · exact rightC_kind hk (h2 c hc)
theorem simple_dep {a : Arr} (h : depA a = 0) : simpleA a = true := by
  rw [depA_eq] at h
  split at h
  · assumption
  · omega
/-- An array that is not so deep is right with fewer boxes. -/
theorem rightA_down : ∀ {d n : Nat} {a : Arr}, rightA n a = true → depA a ≤ d + 1 → simpleA a = false → rightA d a = true := by
  intro d
  induction d with
  | zero =>
    intro n a h hd hs
    obtain ⟨h1, h2⟩ := rightA_cells h
    refine rightA_of h1 (fun c hc => ?_)
    by_cases hk : c.kind = 2
    · obtain ⟨e, x, he, hx, hsx, hr⟩ := rightC_two hk (h2 c hc)
      rw [depA_eq, if_neg (by simp [hs])] at hd
      have h3 := depC_mem hc
      rw [depC_eq] at h3
      have h4 : depA x ≤ depAs c.inn := depA_mem (by rw [hx]; simp)
      have := simple_dep (show depA x = 0 by omega)
      rw [hsx] at this; cases this
    · exact rightC_kind hk (h2 c hc)
  | succ d ih =>
    intro n a h hd hs
    obtain ⟨h1, h2⟩ := rightA_cells h
    refine rightA_of h1 (fun c hc => ?_)
    by_cases hk : c.kind = 2
    · obtain ⟨e, x, he, hx, hsx, hr⟩ := rightC_two hk (h2 c hc)
      rw [depA_eq, if_neg (by simp [hs])] at hd
      have h3 := depC_mem hc
      rw [depC_eq] at h3
      have h4 : depA x ≤ depAs c.inn := depA_mem (by rw [hx]; simp)
      rw [hx]; exact rightC_box hsx (ih hr (by omega) hsx)
    · exact rightC_kind hk (h2 c hc)
theorem enclA_right {a : Arr} (h : rightA 8 a = true) (h0 : (enclA a).2 = 0) : rightA 8 (enclA a).1 = true := by
  unfold enclA at h0 ⊢
  split
  · exact h
  · rename_i hs
    rw [if_neg hs] at h0
    split
    · rename_i h8; rw [if_pos h8] at h0; cases h0
    · rename_i h8
      refine rightA_of countS_nil (fun c hc => ?_)
      have : c = ⟨boxL a, 2, .zero, 0, [a]⟩ := by simpa [boxA] using hc
      subst this
      exact rightC_box (by simpa using hs) (rightA_down h (by omega) (by simpa using hs))
theorem rightA_raise {d : Nat} {a : Arr} {l : Lab} (h : rightA d a = true) : rightA d (raiseA a l) = true := by rw [rightA_eq] at h ⊢; exact h
theorem rightA_one {d : Nat} {c : Cell} {l : Lab} (h : rightC d c = true) : rightA d (.mk l [] [c]) = true := rightA_of countS_nil (fun x hx => by simp at hx; subst hx; exact h)
theorem unpC_right {d : Nat} {c : Cell} (h : rightC (d + 1) c = true) : rightA (d + 1) (unpC c) = true := by
  by_cases hk : c.kind = 2
  · obtain ⟨e, x, he, hx, hs, hr⟩ := rightC_two hk h
    have : e = d := by omega
    subst this
    rw [unpC_pos hk (by rw [hx])]
    exact rightA_raise (rightA_up hr)
  · rw [unpC_neg (fun hh => hk hh.1)]
    exact rightA_one h
theorem firstA_right {a : Arr} (h : rightA 8 a = true) : rightA 8 (firstA a) = true := by
  unfold firstA
  split
  · exact rightA_one (rightC_int 8 inR0)
  · rename_i c cs hc
    exact rightA_raise (unpC_right ((rightA_cells h).2 c (by rw [hc]; simp)))
theorem flatA_mem : ∀ {d : Nat} {a : Arr}, rightA d a = true → ∀ c ∈ flatA a, ¬ c.kind = 2 ∧ ∃ e, rightC e c = true := by
  have keyAs : ∀ {as_ : List Arr} {P : Cell → Prop}, (∀ x ∈ as_, ∀ c ∈ flatA x, P c) → ∀ c ∈ flatAs as_, P c := by
    intro as_ P
    induction as_ with
    | nil => intro _ c hc; rw [flatAs] at hc; cases hc
    | cons a as_ ih =>
      intro h c hc
      rw [flatAs] at hc
      rcases List.mem_append.1 hc with hc | hc
      · exact h a (by simp) c hc
      · exact ih (fun x hx => h x (List.mem_cons_of_mem _ hx)) c hc
  have keyCs : ∀ {cs : List Cell} {P : Cell → Prop}, (∀ x ∈ cs, ∀ c ∈ flatC x, P c) → ∀ c ∈ flatCs cs, P c := by
    intro cs P
    induction cs with
    | nil => intro _ c hc; rw [flatCs] at hc; cases hc
    | cons a cs ih =>
      intro h c hc
      rw [flatCs] at hc
      rcases List.mem_append.1 hc with hc | hc
      · exact h a (by simp) c hc
      · exact ih (fun x hx => h x (List.mem_cons_of_mem _ hx)) c hc
  intro d
  induction d with
  | zero =>
    intro a h
    rw [flatA_eq]
    refine keyCs (fun x hx c hc => ?_)
    have hr := (rightA_cells h).2 x hx
    rw [flatC_eq] at hc
    split at hc
    · rename_i hk; obtain ⟨e, y, he, _⟩ := rightC_two hk hr; omega
    · rename_i hk; simp at hc; subst hc; exact ⟨hk, _, hr⟩
  | succ d ih =>
    intro a h
    rw [flatA_eq]
    refine keyCs (fun x hx c hc => ?_)
    have hr := (rightA_cells h).2 x hx
    rw [flatC_eq] at hc
    split at hc
    · rename_i hk
      obtain ⟨e, y, he, hy, hs, hry⟩ := rightC_two hk hr
      have : e = d := by omega
      subst this
      rw [hy] at hc
      exact keyAs (fun z hz => by simp at hz; subst hz; exact ih hry) c hc
    · rename_i hk; simp at hc; subst hc; exact ⟨hk, _, hr⟩
theorem enlA_right {a : Arr} (h : rightA 8 a = true) (h0 : (enlA a).2 = 0) : rightA 8 (enlA a).1 = true := by
  unfold enlA at h0 ⊢
  split
  · rename_i hl
    refine rightA_of (by simpa using countS_one hl) (fun c hc => ?_)
    obtain ⟨hk, e, he⟩ := flatA_mem h c hc
    exact rightC_kind hk he
  · rename_i hl; rw [if_neg hl] at h0; cases h0
theorem rightA_nonempty {d : Nat} {a : Arr} (h : rightA d a = true) (hs : a.shape = []) : a.cells ≠ [] := by
  have := (rightA_cells h).1
  rw [hs, countS_nil] at this
  intro hc
  rw [hc] at this
  simp at this
theorem enclA_fits {d : Nat} {a : Arr} (h : Sml d a) : Sml (d + 1) (enclA a).1 := by
  unfold enclA
  split
  · exact h.mono (by omega)
  · split
    · exact ⟨by simp [Arr.none], by simp [Arr.none], by simp [Arr.none], by simp [Arr.none]⟩
    · refine ⟨by simp [boxA], by simp [boxA], by simp [boxA], fun c hc => ?_⟩
      have : c = ⟨boxL a, 2, .zero, 0, [a]⟩ := by simpa [boxA] using hc
      subst this
      exact ⟨by simp [Num.zero], by simp [Num.zero], by simp, fun x hx => by simp at hx; subst hx; exact h⟩
theorem enlA_sml {a : Arr} (h : rightA 8 a = true) : Sml 9 (enlA a).1 := by
  by_cases h0 : (enlA a).2 = 0
  · exact rightA_sml (enlA_right h h0)
  · unfold enlA at h0 ⊢
    split
    · rename_i hl; rw [if_pos hl] at h0; exact absurd rfl h0
    · exact ⟨by simp [Arr.none], by simp [Arr.none], by simp [Arr.none], by simp [Arr.none]⟩
theorem tw_awake_br {b : Bool} {t : Tree} (h1 : b = true) (h : Tw t [.bool true]) : Tw (.br b t (.ret [D.bool false])) [.bool true] := wp_tt h1 h
end Go.Proofs.YtbgcadcpeabpgaaGreat
set_option maxRecDepth 100000
namespace Go.Proofs.YtbgcadcpeabpgaaGreat

theorem era_raise (a : Arr) (l : Lab) : eraA (raiseA a l) = eraA a := by unfold eraA; rw [relA_eq, relA_eq]; rfl
theorem mat_raise (a : Arr) (l : Lab) : matA (raiseA a l) a = true := by unfold matA; rw [era_raise]; exact eqA_self _
theorem flows_raise (a : Arr) (l : Lab) : flows (totA a) (totA (raiseA a l)) = true := by rw [totA_raise]; exact flows_iff.2 fun t h => by simp [h]
theorem simple_form {a : Arr} (h : simpleA a = true) : ∃ c, a = .mk a.s [] [c] ∧ ¬ c.kind = 2 := by
  unfold simpleA at h
  split at h
  · rename_i c hs hc
    refine ⟨c, ?_, by simpa using h⟩
    rw [← hs, ← hc]; exact Arr.eta a
  · cases h
/-- What was enclosed, taken out again. -/
theorem first_encl {a : Arr} (h0 : (enclA a).2 = 0) : ∃ l, firstA (enclA a).1 = raiseA a l := by
  unfold enclA at h0 ⊢
  split
  · rename_i hs
    obtain ⟨c, hc, hk⟩ := simple_form hs
    refine ⟨c.l, ?_⟩
    rw [hc]
    show raiseA (unpC c) a.s = _
    rw [unpC_neg (fun hh => hk hh.1)]
    show Arr.mk (c.l ||| a.s) [] [c] = .mk (a.s ||| c.l) [] [c]
    rw [BitVec.or_comm]
  · rename_i hs
    rw [if_neg hs] at h0
    split
    · rename_i h8; rw [if_pos h8] at h0; cases h0
    · refine ⟨boxL a ||| a.s, ?_⟩
      show raiseA (unpC ⟨boxL a, 2, .zero, 0, [a]⟩) a.s = _
      rw [unpC_pos rfl rfl]
      show Arr.mk (a.s ||| boxL a ||| a.s) _ _ = .mk (a.s ||| (boxL a ||| a.s)) _ _
      rw [BitVec.or_assoc]; rfl
theorem cyc_self (l : List Cell) : cyc l l.length = l := by
  unfold cyc
  apply List.ext_getElem
  · simp
  · intro i h1 h2
    simp only [List.getElem_map, List.getElem_range]
    rw [Nat.mod_eq_of_lt h2, List.getD_eq_getElem?_getD, List.getElem?_eq_getElem h2]; rfl
theorem resh_back {a : Arr} (h : rightA 8 a = true) : reshA (shapeA a) (ravA a) = (a, 0) := by
  have hs := (rightA_sml h).2.2.1
  have hc := (rightA_cells h).1
  have e1 : intsA (shapeA a) = (a.shape, 0) := by
    unfold intsA shapeA vecA
    simp only [Arr.shape_mk, Arr.cells_mk, intsCs_vec hs]; rfl
  unfold reshA
  rw [e1]
  simp only [hc, if_true]
  rw [shapeA, totA_vec]
  show (Arr.mk (a.s ||| a.s) a.shape (cyc a.cells (Int.toNat (a.cells.length : Int))), (0 : Int)) = _
  rw [BitVec.or_self, Int.toNat_natCast, cyc_self, ← Arr.eta]
theorem shapeA_fits {d : Nat} {a : Arr} (h : Sml d a) (hl : a.shape.length ≤ 100000) : Fits (shapeA a) := by
  obtain ⟨e, rfl⟩ := h.succ
  exact fits_vec hl h.2.2.1
section
variable {o : Lab} {a b n m : Arr}
theorem shape_alike (h : hidA o a = hidA o b) : hidA o (shapeA a) = hidA o (shapeA b) := by
  rcases alike_cases h with ⟨h1, h2⟩ | ⟨_, _, h3, h4, _⟩
  · exact alike_hid h1 h2
  · unfold shapeA; rw [h3, h4]
theorem rav_alike (h : hidA o a = hidA o b) : hidA o (ravA a) = hidA o (ravA b) := by
  rcases alike_cases h with ⟨h1, h2⟩ | ⟨_, _, h3, _, h5⟩
  · exact alike_hid h1 h2
  · have hl : a.cells.length = b.cells.length := by have := congrArg List.length h5; simpa using this
    exact alike_vis h3 (by show [(a.cells.length : Int)] = [(b.cells.length : Int)]; rw [hl]) h5
theorem tally_alike (h : hidA o a = hidA o b) : hidA o (tallyA a) = hidA o (tallyA b) := by
  rcases alike_cases h with ⟨h1, h2⟩ | ⟨_, _, h3, h4, _⟩
  · exact alike_hid h1 h2
  · unfold tallyA; rw [h3, h4]
theorem mdep_alike (h : hidA o a = hidA o b) : hidA o (mdepA a) = hidA o (mdepA b) := by
  rcases alike_totals h with rfl | ⟨h1, h2⟩
  · rfl
  · exact alike_hid h1 h2
theorem first_alike (h : hidA o a = hidA o b) : hidA o (firstA a) = hidA o (firstA b) := by
  have hs : ∀ x : Arr, flows x.s o = false → flows (firstA x).s o = false := fun x hx => by
    unfold firstA
    split
    · exact hx
    · show flows (_ ||| x.s) o = false; rw [flows_or, hx, Bool.and_false]
  rcases alike_cases h with ⟨h1, h2⟩ | ⟨_, _, h3, _, h5⟩
  · exact alike_hid (hs a h1) (hs b h2)
  · unfold firstA
    match ha : a.cells, hb : b.cells with
    | [], [] => rw [h3]
    | [], c :: cs => rw [ha, hb] at h5; simp at h5
    | c :: cs, [] => rw [ha, hb] at h5; simp at h5
    | c :: cs, d :: ds =>
      rw [ha, hb] at h5
      simp only [List.map_cons, List.cons.injEq] at h5
      show hidA o (raiseA (unpC c) a.s) = hidA o (raiseA (unpC d) b.s)
      rw [h3]; exact raise_alike (unpC_alike h5.1)
theorem mmat_alike (h : hidA o a = hidA o b) (h' : hidA o n = hidA o m) (s : Bool) : hidA o (mmatA a n s) = hidA o (mmatA b m s) := by
  have hid : ∀ x y : Arr, (flows (totA x) o && flows (totA y) o) = false → flows (mmatA x y s).s o = false := fun x y hh => by show flows (totA x ||| totA y) o = false; rw [flows_or]; exact hh
  rcases alike_totals h with rfl | ⟨h1, h2⟩
  · rcases alike_totals h' with rfl | ⟨h3, h4⟩
    · rfl
    · exact alike_hid (hid _ _ (by rw [h3, Bool.and_false])) (hid _ _ (by rw [h4, Bool.and_false]))
  · exact alike_hid (hid _ _ (by rw [h1]; rfl)) (hid _ _ (by rw [h2]; rfl))
theorem map_getD {α β : Type} {f : α → β} {l m : List α} (h : l.map f = m.map f) (i : Nat) (z : α) : f (l.getD i z) = f (m.getD i z) := by
  have hi : (l.map f)[i]? = (m.map f)[i]? := by rw [h]
  simp only [List.getElem?_map] at hi
  rw [List.getD_eq_getElem?_getD, List.getD_eq_getElem?_getD]
  cases h1 : l[i]? <;> cases h2 : m[i]? <;> rw [h1, h2] at hi <;> simp at hi ⊢
  exact hi
theorem resh_alike (h' : hidA o n = hidA o m) (h : hidA o a = hidA o b) (e1 : (reshA n a).2 = 0) (e2 : (reshA m b).2 = 0) : hidA o (reshA n a).1 = hidA o (reshA m b).1 := by
  have form : ∀ x y : Arr, (reshA x y).2 = 0 → (reshA x y).1 = .mk (y.s ||| totA x) (intsA x).1 (cyc y.cells (countS (intsA x).1).1.toNat) := fun x y hh => by
    unfold reshA at hh ⊢
    split
    · rename_i g1
      rw [if_pos g1] at hh
      split
      · rfl
      · rename_i g2; rw [if_neg g2] at hh; exact absurd hh g2
    · rename_i g1; rw [if_neg g1] at hh; exact absurd hh g1
  rw [form n a e1, form m b e2]
  rcases alike_totals h' with rfl | ⟨h3, h4⟩
  · rcases alike_cases h with ⟨h1, h2⟩ | ⟨_, _, h3, _, h5⟩
    · exact alike_hid (by show flows (a.s ||| _) o = false; rw [flows_or, h1]; rfl) (by show flows (b.s ||| _) o = false; rw [flows_or, h2]; rfl)
    · refine alike_vis (by show a.s ||| _ = b.s ||| _; rw [h3]) rfl ?_
      have hl : a.cells.length = b.cells.length := by have := congrArg List.length h5; simpa using this
      show (cyc a.cells _).map (hidC o) = (cyc b.cells _).map (hidC o)
      unfold cyc
      rw [List.map_map, List.map_map]
      refine List.map_congr_left (fun i _ => ?_)
      show hidC o (a.cells.getD (i % a.cells.length) (intC 0)) = hidC o (b.cells.getD (i % b.cells.length) (intC 0))
      rw [hl]; exact map_getD h5 _ _
  · exact alike_hid (by show flows (_ ||| totA n) o = false; rw [flows_or, h3, Bool.and_false]) (by show flows (_ ||| totA m) o = false; rw [flows_or, h4, Bool.and_false])
theorem encl_alike (ra : rightA 8 a = true) (rb : rightA 8 b = true) (h : hidA o a = hidA o b) (e1 : (enclA a).2 = 0) (e2 : (enclA b).2 = 0) : hidA o (enclA a).1 = hidA o (enclA b).1 := by
  have form : ∀ x : Arr, (enclA x).2 = 0 → (enclA x).1 = if simpleA x then x else boxA x := fun x hh => by
    unfold enclA at hh ⊢
    split
    · rfl
    · rename_i g1
      rw [if_neg g1] at hh
      split
      · rename_i g2; rw [if_pos g2] at hh; cases hh
      · rfl
  have hs : ∀ x : Arr, (if simpleA x then x else boxA x).s = x.s := fun x => by split <;> rfl
  rw [form a e1, form b e2]
  rcases alike_cases h with ⟨h1, h2⟩ | ⟨h1, h2, h3, h4, h5⟩
  · exact alike_hid (by rw [hs]; exact h1) (by rw [hs]; exact h2)
  · by_cases hsh : a.shape = []
    · have la : a.cells.length = 1 := by have := (rightA_cells ra).1; rw [hsh, countS_nil] at this; have := congrArg Prod.fst this; simp at this; omega
      have lb : b.cells.length = 1 := by have := congrArg List.length h5; simp at this; omega
      obtain ⟨c, hc⟩ := len_one la
      obtain ⟨d, hd⟩ := len_one lb
      have hcd : hidC o c = hidC o d := by rw [hc, hd] at h5; simpa using h5
      have sa : simpleA a = decide (¬ c.kind = 2) := by unfold simpleA; rw [hsh, hc]
      have sb : simpleA b = decide (¬ d.kind = 2) := by unfold simpleA; rw [← h4, hsh, hd]
      have ba : boxL a = c.l := by unfold boxL; rw [hsh, hc]
      have bb : boxL b = d.l := by unfold boxL; rw [← h4, hsh, hd]
      have one : ∀ x : Arr, ∀ y : Cell, x.shape = [] → x.cells = [y] → boxL x = y.l → ∃ z : Cell, (if simpleA x then x else boxA x) = .mk x.s [] [z] ∧ z.l = y.l := fun x y hx hy hb => by
        split
        · exact ⟨y, by rw [← hx, ← hy]; exact Arr.eta x, rfl⟩
        · exact ⟨_, rfl, hb⟩
      rcases alikeC_cases hcd with ⟨g1, g2⟩ | ⟨g1, g2, g3, g4, _⟩
      · obtain ⟨z, hz, hzl⟩ := one a c hsh hc ba
        obtain ⟨w, hw, hwl⟩ := one b d (h4 ▸ hsh) hd bb
        rw [hz, hw]
        exact alike_vis h3 rfl (by simp only [Arr.cells_mk, List.map_cons, List.map_nil, List.cons.injEq, and_true]; exact alikeC_hid (hzl ▸ g1) (hwl ▸ g2))
      · have : simpleA a = simpleA b := by rw [sa, sb, g4]
        rw [this]
        split
        · exact h
        · exact alike_vis h3 rfl (by simp only [boxA, Arr.cells_mk, List.map_cons, List.map_nil, List.cons.injEq, and_true]; exact alikeC_vis (by rw [ba, bb, g3]) rfl rfl rfl (by simpa using h))
    · have sa : ∀ x : Arr, x.shape ≠ [] → simpleA x = false ∧ boxL x = 0 := fun x hx => by
        unfold simpleA boxL
        match hh : x.shape with
        | [] => exact absurd hh hx
        | y :: ys => exact ⟨rfl, rfl⟩
      have a1 := sa a hsh
      have b1 := sa b (h4 ▸ hsh)
      rw [a1.1, b1.1]
      exact alike_vis h3 rfl (by simp only [boxA, Bool.false_eq_true, if_false, Arr.cells_mk, List.map_cons, List.map_nil, List.cons.injEq, and_true]; exact alikeC_vis (by rw [a1.2, b1.2]) rfl rfl rfl (by simpa using h))
theorem enl_alike (h : hidA o a = hidA o b) (e1 : (enlA a).2 = 0) (e2 : (enlA b).2 = 0) : hidA o (enlA a).1 = hidA o (enlA b).1 := by
  have form : ∀ x : Arr, (enlA x).2 = 0 → (enlA x).1.s = totA x := fun x hh => by
    unfold enlA at hh ⊢
    split
    · rfl
    · rename_i g; rw [if_neg g] at hh; cases hh
  rcases alike_totals h with rfl | ⟨h1, h2⟩
  · rfl
  · exact alike_hid (by rw [form a e1]; exact h1) (by rw [form b e2]; exact h2)
end
theorem alike_sp {o : Lab} {d : Nat} {a b : Arr} (h : Sml d a) (hh : hidA o a = hidA o b) : Sp 27 [dA a, dA b, dB o] [.bool true] := by
  have := ref09_Alike_sp o d a b h
  rwa [alk_iff.2 hh] at this
theorem sml_alone {n : Int} {s : Lab} (h : inR n) : Sml 1 (aloneA n s) := ⟨by simp [aloneA], by simp [aloneA], by simp [aloneA], fun c hc => by simp [aloneA] at hc; subst hc; exact smlC_int h 0⟩
end Go.Proofs.YtbgcadcpeabpgaaGreat
set_option maxRecDepth 100000
namespace Go.Proofs.YtbgcadcpeabpgaaGreat

theorem inr (z : Int) (h1 : -100000 ≤ z := by decide) (h2 : z ≤ 100000 := by decide) : inR z := by unfold inR; omega
theorem lenZ_le {z : Int} {k : Nat} (h : z.natAbs < B ^ k) : lenZ z ≤ k := lb_len.2 h
theorem lenZ_lt (z : Int) : z.natAbs < B ^ lenZ z := lb_len.1 (Nat.le_refl _)
theorem lenZ_add (x y : Int) : lenZ (x + y) ≤ max (lenZ x) (lenZ y) + 1 := by
  refine lenZ_le ?_
  have h1 : x.natAbs < B ^ max (lenZ x) (lenZ y) := Nat.lt_of_lt_of_le (lenZ_lt x) (Nat.pow_le_pow_right B_pos (Nat.le_max_left _ _))
  have h2 : y.natAbs < B ^ max (lenZ x) (lenZ y) := Nat.lt_of_lt_of_le (lenZ_lt y) (Nat.pow_le_pow_right B_pos (Nat.le_max_right _ _))
  have h3 := Int.natAbs_add_le x y
  rw [Nat.pow_succ]
  generalize B ^ max (lenZ x) (lenZ y) = q at *
  rw [B_eq]; omega
theorem lenZ_neg (x : Int) : lenZ (-x) = lenZ x := by unfold lenZ; rw [Int.natAbs_neg]
theorem lenZ_zv (w : Wh) : lenZ (zv w) ≤ w.mag.length := wz_len w
theorem wzl (z : Int) : (wz z).mag.length = lenZ z := rfl
theorem powR_len : ∀ (k n : Nat) (out base : Int), lenZ out ≤ 100 → lenZ (powR k n out base).1 ≤ 100
  | 0, _, out, base, h => h
  | k + 1, n, out, base, h => by
    have z0 : lenZ 0 ≤ 100 := by unfold lenZ; rw [show Int.natAbs 0 = 0 from rfl, lb_zero]; simp
    rw [powR]
    generalize (if n % 2 = 1 then out * base else out) = o
    split
    · exact h
    split
    · exact z0
    split
    · exact z0
    rename_i h3
    split
    · show lenZ o ≤ 100; omega
    · exact powR_len k _ o _ (by omega)
theorem dmZ_spec (x y : Int) (hy : y ≠ 0) : (dmZ x y).1 * y + (dmZ x y).2 = x ∧ (dmZ x y).1.natAbs ≤ x.natAbs + 1 ∧ (dmZ x y).2.natAbs < y.natAbs ∧ (0 < y → 0 ≤ (dmZ x y).2) ∧ (y < 0 → (dmZ x y).2 ≤ 0) := by
  have hdm := Nat.div_add_mod x.natAbs y.natAbs
  have hml := Nat.mod_lt x.natAbs (show 0 < y.natAbs by omega)
  have hdl := Nat.div_le_self x.natAbs y.natAbs
  unfold dmZ
  generalize x.natAbs / y.natAbs = q at *
  generalize x.natAbs % y.natAbs = r at *
  generalize hX : x.natAbs = X at *
  generalize hY : y.natAbs = Y at *
  have hdm' : (Y : Int) * (q : Int) + (r : Int) = (X : Int) := by rw [← hdm]; simp
  by_cases hx0 : x < 0 <;> by_cases hy0 : y < 0
  · obtain rfl : x = -(X : Int) := by omega
    obtain rfl : y = -(Y : Int) := by omega
    simp only [hx0, hy0, if_true]
    refine ⟨by rw [Int.mul_neg, Int.mul_comm]; omega, by omega, by omega, fun h => by first | omega | exact False.elim h, fun h => by first | omega | exact False.elim h⟩
  · obtain rfl : x = -(X : Int) := by omega
    obtain rfl : y = (Y : Int) := by omega
    simp only [hx0, hy0, if_true]
    rw [if_neg (by simp)]
    split
    · rename_i h0
      subst h0
      refine ⟨by rw [Int.neg_mul, Int.mul_comm]; omega, by omega, by omega, fun h => by first | omega | exact False.elim h, fun h => by first | omega | exact False.elim h⟩
    · refine ⟨by rw [Int.sub_mul, Int.neg_mul, Int.mul_comm (q : Int)]; omega, by omega, by omega, fun h => by first | omega | exact False.elim h, fun h => by first | omega | exact False.elim h⟩
  · obtain rfl : x = (X : Int) := by omega
    obtain rfl : y = -(Y : Int) := by omega
    simp only [hx0, hy0, if_false]
    rw [if_neg (by simp)]
    split
    · rename_i h0
      subst h0
      refine ⟨by rw [Int.neg_mul_neg, Int.mul_comm]; omega, by omega, by omega, fun h => by first | omega | exact False.elim h, fun h => by first | omega | exact False.elim h⟩
    · refine ⟨by rw [Int.sub_mul, Int.neg_mul_neg, Int.mul_comm (q : Int)]; omega, by omega, by omega, fun h => by first | omega | exact False.elim h, fun h => by first | omega | exact False.elim h⟩
  · obtain rfl : x = (X : Int) := by omega
    obtain rfl : y = (Y : Int) := by omega
    simp only [hx0, hy0, if_false, if_true]
    refine ⟨by rw [Int.mul_comm]; omega, by omega, by omega, fun h => by first | omega | exact False.elim h, fun h => by first | omega | exact False.elim h⟩
theorem lenZ_dm (x y : Int) (hy : y ≠ 0) : lenZ (dmZ x y).1 ≤ lenZ x + 1 ∧ lenZ (dmZ x y).2 ≤ lenZ y := by
  obtain ⟨_, h1, h2, _⟩ := dmZ_spec x y hy
  have a := lenZ_lt x
  have b := lenZ_lt y
  refine ⟨lenZ_le ?_, lenZ_le (Nat.lt_trans h2 b)⟩
  rw [Nat.pow_succ]
  have := Bp (lenZ x)
  have hB := B_eq
  generalize B ^ lenZ x = P at *
  rw [hB]; omega
end Go.Proofs.YtbgcadcpeabpgaaGreat
set_option maxRecDepth 100000
namespace Go.Proofs.YtbgcadcpeabpgaaGreat

end Go.Proofs.YtbgcadcpeabpgaaGreat
set_option maxRecDepth 100000
namespace Go.Proofs.YtbgcadcpeabpgaaGreat
open Go.RowKit

end Go.Proofs.YtbgcadcpeabpgaaGreat
set_option maxRecDepth 100000
namespace Go.Proofs.YtbgcadcpeabpgaaGreat
open Go.RowKit

end Go.Proofs.YtbgcadcpeabpgaaGreat
set_option maxRecDepth 100000
namespace Go.Proofs.YtbgcadcpeabpgaaGreat
open Go.RowKit

end Go.Proofs.YtbgcadcpeabpgaaGreat
set_option maxRecDepth 100000
namespace Go.Proofs.YtbgcadcpeabpgaaGreat

/-- A ratio as it stands. -/
def frac (z : Int) (d : Nat) : Num := ⟨decide (z < 0), lb z.natAbs, lb d⟩
theorem numT_frac (z : Int) (d : Nat) : numT (frac z d) = z := zv_wz z
theorem numB_frac (z : Int) (d : Nat) : numB (frac z d) = (d : Int) := by simp [numB, frac, nv_lb]
theorem lbn_one : lb 1 = [1] := by rw [lb_pos (by decide), show 1 / B = 0 from rfl, lb_zero]; rfl
theorem frac_one (z : Int) : frac z 1 = ofZ z := by unfold frac ofZ; rw [lbn_one]
theorem mkR_cases (p q : Int) (hq : q ≠ 0) : ∃ (z : Int) (d : Nat), d ≠ 0 ∧ Nat.Coprime z.natAbs d ∧ z * q = p * (d : Int) ∧ z.natAbs ≤ p.natAbs ∧ d ≤ q.natAbs ∧ mkR p q = if 32 < lenZ z ∨ 32 < (lb d).length then (.zero, 7) else (frac z d, 0) := by
  have hg : 0 < Nat.gcd p.natAbs q.natAbs := Nat.gcd_pos_of_pos_right _ (by omega)
  obtain ⟨a, ha⟩ := Nat.gcd_dvd_left p.natAbs q.natAbs
  obtain ⟨b, hb⟩ := Nat.gcd_dvd_right p.natAbs q.natAbs
  have hda : p.natAbs / Nat.gcd p.natAbs q.natAbs = a := by
    conv => lhs; lhs; rw [ha]
    exact Nat.mul_div_cancel_left _ hg
  have hdb : q.natAbs / Nat.gcd p.natAbs q.natAbs = b := by
    conv => lhs; lhs; rw [hb]
    exact Nat.mul_div_cancel_left _ hg
  have hcop : Nat.Coprime a b := by
    have := Nat.coprime_div_gcd_div_gcd hg
    rwa [hda, hdb] at this
  have hb0 : b ≠ 0 := fun h => by rw [h, Nat.mul_zero] at hb; omega
  have ha0 : a = 0 ↔ p = 0 := by
    constructor
    · intro h; rw [h, Nat.mul_zero] at ha; omega
    · intro h
      rw [h] at ha
      simp only [Int.natAbs_zero] at ha
      rcases Nat.mul_eq_zero.1 ha.symm with h1 | h1
      · rw [h] at hg; simp only [Int.natAbs_zero] at hg; omega
      · exact h1
  have hal : a ≤ p.natAbs := by rw [ha]; exact Nat.le_mul_of_pos_left _ hg
  have hbl : b ≤ q.natAbs := by rw [hb]; exact Nat.le_mul_of_pos_left _ hg
  have hab : a * q.natAbs = p.natAbs * b := by
    conv => lhs; rw [hb]
    conv => rhs; rw [ha]
    rw [Nat.mul_left_comm, Nat.mul_assoc]
  unfold mkR
  rw [if_neg hq, hda, hdb]
  generalize Nat.gcd p.natAbs q.natAbs = g at *
  clear hda hdb ha hb hg
  have habz : (a : Int) * (q.natAbs : Int) = (p.natAbs : Int) * (b : Int) := by rw [← Int.natCast_mul, hab, Int.natCast_mul]
  by_cases hs : decide (p < 0) = decide (q < 0)
  · refine ⟨(a : Int), b, hb0, by simpa using hcop, ?_, by simpa using hal, hbl, ?_⟩
    · rw [decide_eq_decide] at hs
      by_cases hp : p < 0
      · have e1 : (p.natAbs : Int) = -p := by omega
        have e2 : (q.natAbs : Int) = -q := by omega
        rw [e1, e2] at habz
        grind
      · have e1 : (p.natAbs : Int) = p := by omega
        have e2 : (q.natAbs : Int) = q := by omega
        rw [e1, e2] at habz
        exact habz
    · unfold frac lenZ
      rw [hs, beq_self_eq_true, Bool.not_true, Bool.and_false]
      simp only [Int.natAbs_natCast]
      rw [decide_eq_false (p := ((a : Int) < 0)) (by omega)]
  · have hp : (decide (p < 0) == decide (q < 0)) = false := by simpa using hs
    refine ⟨-(a : Int), b, hb0, by simpa using hcop, ?_, by simpa using hal, hbl, ?_⟩
    · rw [decide_eq_decide] at hs
      by_cases hp : p < 0
      · have e1 : (p.natAbs : Int) = -p := by omega
        have e2 : (q.natAbs : Int) = q := by omega
        rw [e1, e2] at habz
        grind
      · have e1 : (p.natAbs : Int) = p := by omega
        have e2 : (q.natAbs : Int) = -q := by omega
        rw [e1, e2] at habz
        grind
    · unfold frac lenZ
      rw [hp, Bool.not_false, Bool.and_true]
      simp only [Int.natAbs_neg, Int.natAbs_natCast]
      have : decide (0 < (lb a).length) = decide (-(a : Int) < 0) := by
        rw [decide_eq_decide]
        have := lb_len0 (n := a)
        omega
      rw [this]
theorem cop_unique {z z' : Int} {d d' : Nat} (h : d ≠ 0) (h' : d' ≠ 0) (c : Nat.Coprime z.natAbs d) (c' : Nat.Coprime z'.natAbs d') (e : z * (d' : Int) = z' * (d : Int)) : z = z' ∧ d = d' := by
  have en : z.natAbs * d' = z'.natAbs * d := by
    have := congrArg Int.natAbs e
    simpa [Int.natAbs_mul] using this
  have h1 : d ∣ d' := (Nat.Coprime.dvd_of_dvd_mul_left c.symm (by rw [en]; exact Nat.dvd_mul_left _ _))
  have h2 : d' ∣ d := (Nat.Coprime.dvd_of_dvd_mul_left c'.symm (by rw [← en]; exact Nat.dvd_mul_left _ _))
  have hd := Nat.dvd_antisymm h1 h2
  subst hd
  exact ⟨Int.eq_of_mul_eq_mul_right (by omega) e, rfl⟩
/-- The same ratio: the same in lowest terms. -/
theorem mkR_unique {p q p' q' : Int} (hq : q ≠ 0) (hq' : q' ≠ 0) (e : p * q' = p' * q) : mkR p q = mkR p' q' := by
  obtain ⟨z, d, h1, h2, h3, _, _, h4⟩ := mkR_cases p q hq
  obtain ⟨z', d', h1', h2', h3', _, _, h4'⟩ := mkR_cases p' q' hq'
  obtain ⟨rfl, rfl⟩ := cop_unique h1 h1' h2 h2' (by
    have : (z * (d' : Int)) * (q * q') = (z' * (d : Int)) * (q * q') := by grind
    exact Int.eq_of_mul_eq_mul_right (Int.mul_ne_zero hq hq') this)
  rw [h4, h4']
/-- A right number: so many of such parts. -/
structure RNum (n : Num) (z : Int) (d : Nat) : Prop where
  eq : n = frac z d
  d0 : d ≠ 0
  cop : Nat.Coprime z.natAbs d
  lz : lenZ z ≤ 32
  ld : (lb d).length ≤ 32
theorem mkR_self {z : Int} {d : Nat} (h0 : d ≠ 0) (hc : Nat.Coprime z.natAbs d) (h1 : lenZ z ≤ 32) (h2 : (lb d).length ≤ 32) : mkR z (d : Int) = (frac z d, 0) := by
  obtain ⟨z', d', h1', h2', h3', _, _, h4'⟩ := mkR_cases z (d : Int) (by omega)
  obtain ⟨rfl, rfl⟩ := cop_unique h0 h1' hc h2' h3'.symm
  rw [h4', if_neg (by omega)]
theorem RNum.self {n : Num} {z : Int} {d : Nat} (h : RNum n z d) : mkR z (d : Int) = (n, 0) := by rw [mkR_self h.d0 h.cop h.lz h.ld, h.eq]
theorem RNum.top {n : Num} {z : Int} {d : Nat} (h : RNum n z d) : numT n = z := by rw [h.eq, numT_frac]
theorem RNum.bot {n : Num} {z : Int} {d : Nat} (h : RNum n z d) : numB n = (d : Int) := by rw [h.eq, numB_frac]
theorem RNum.right {n : Num} {z : Int} {d : Nat} (h : RNum n z d) : rightN n = true := by
  unfold rightN
  rw [h.top, h.bot, h.self]
  have h1 := h.lz
  have h2 := h.ld
  rw [h.eq]
  exact decide_eq_true ⟨h1, h2, rfl⟩
theorem rn_of {n : Num} (h : rightN n = true) : ∃ z d, RNum n z d := by
  unfold rightN at h
  obtain ⟨h1, h2, h3⟩ := of_decide_eq_true h
  by_cases hq : numB n = 0
  · rw [hq] at h3
    have := congrArg Prod.snd h3
    simp [mkR] at this
  · obtain ⟨z, d, g1, g2, _, _, _, g4⟩ := mkR_cases (numT n) (numB n) hq
    rw [h3] at g4
    split at g4
    · cases g4
    · injection g4 with g4
      exact ⟨z, d, g4, g1, g2, by omega, by omega⟩
theorem RNum.len {n : Num} {z : Int} {d : Nat} (h : RNum n z d) : n.top.length ≤ 32 ∧ n.bot.length ≤ 32 := by rw [h.eq]; exact ⟨h.lz, h.ld⟩
/-- What is told, if it is no error, is right. -/
theorem mkR_ok {p q : Int} (hq : q ≠ 0) : ((mkR p q).2 = 0 → ∃ z d, RNum (mkR p q).1 z d ∧ z * q = p * (d : Int) ∧ z.natAbs ≤ p.natAbs ∧ d ≤ q.natAbs) ∧ ((mkR p q).2 = 0 ∨ (mkR p q) = (.zero, 7)) ∧ (lenZ p ≤ 32 → lenZ q ≤ 32 → (mkR p q).2 = 0) := by
  obtain ⟨z, d, g1, g2, g3, g5, g6, g4⟩ := mkR_cases p q hq
  rw [g4]
  have mono : ∀ {a b k : Nat}, a ≤ b → (lb b).length ≤ k → (lb a).length ≤ k := fun hab hk => lb_len.2 (Nat.lt_of_le_of_lt hab (lb_len.1 hk))
  refine ⟨fun h => ?_, ?_, fun h1 h2 => ?_⟩
  · split at h
    · cases h
    · rename_i hh
      rw [if_neg hh]
      exact ⟨z, d, ⟨rfl, g1, g2, by omega, by omega⟩, g3, g5, g6⟩
  · split
    · exact .inr rfl
    · exact .inl rfl
  · rw [if_neg]
    have a1 := mono g5 h1
    have a2 := mono g6 h2
    unfold lenZ; omega
def retR (r : Num × Int) : List D := [dN r.1, .int r.2]
theorem numT_len (n : Num) : lenZ (numT n) ≤ n.top.length := wz_len ⟨n.neg, n.top⟩
theorem numB_len (n : Num) : lenZ (numB n) ≤ n.bot.length := wz_len ⟨false, n.bot⟩
theorem zv_bot (n : Num) : zv ⟨false, n.bot⟩ = numB n := rfl
theorem zv_top (n : Num) : zv ⟨n.neg, n.top⟩ = numT n := rfl
def addR (a b : Num) : Num × Int := mkR (numT a * numB b + numT b * numB a) (numB a * numB b)
def mulR (a b : Num) : Num × Int := mkR (numT a * numT b) (numB a * numB b)
def divR (a b : Num) : Num × Int := mkR (numT a * numB b) (numB a * numT b)
def cmpR (a b : Num) : Int := cmpZ (numT a * numB b) (numT b * numB a)
def negN (a : Num) : Num := if a.top = [] then ofZ 0 else ⟨!a.neg, a.top, a.bot⟩
def subR (a b : Num) : Num × Int := addR a (negN b)
def flrN (a : Num) : Num := ofZ (dmZ (numT a) (numB a)).1
def bindR (r : Num × Int) (f : Num → Num × Int) : Num × Int := if r.2 = 0 then f r.1 else (.zero, r.2)
def modR (a b : Num) : Num × Int := if a.top = [] then (b, 0) else bindR (divR b a) fun q => bindR (mulR a (flrN q)) fun p => subR b p
def powD2 (p q : Int × Int) : Num × Int := if p.2 = 0 then (if q.2 = 0 then mkR p.1 q.1 else (.zero, q.2)) else (.zero, p.2)
def powRt (a : Num) (n : Int) : Num × Int :=
  if n < 0 then (if a.top = [] ∨ n < -9223372036854775807 then (.zero, 3) else powD2 (powZ (numB a) (-n)) (powZ (numT a) (-n))) else powD2 (powZ (numT a) n) (powZ (numB a) n)
def gcdR (a b : Num) : Num × Int := if a.bot = [1] ∧ b.bot = [1] then (ofZ (Nat.gcd (nv a.top) (nv b.top) : Nat), 0) else (.zero, 3)
def lcmR (a b : Num) : Num × Int := bindR (gcdR a b) fun g => if g.top = [] then (g, 0) else bindR (divR a g) fun p => mulR p b

theorem negN_rn {n : Num} {z : Int} {d : Nat} (h : RNum n z d) : RNum (negN n) (-z) d := by
  have h0 : n.top = [] ↔ z = 0 := by rw [h.eq]; show lb z.natAbs = [] ↔ _; rw [lb_eq_nil]; omega
  refine ⟨?_, h.d0, by rw [Int.natAbs_neg]; exact h.cop, by rw [lenZ_neg]; exact h.lz, h.ld⟩
  unfold negN
  split
  · rename_i h1
    have hz := h0.1 h1
    have hd : d = 1 := by
      have := h.cop
      rw [hz, Int.natAbs_zero, Nat.coprime_zero_left] at this
      exact this
    rw [hz, hd, Int.neg_zero, frac_one]
  · rename_i h1
    have hz : z ≠ 0 := fun hh => h1 (h0.2 hh)
    rw [h.eq]
    unfold frac
    simp only [Int.natAbs_neg]
    rw [show decide (-z < 0) = !decide (z < 0) by rw [not_dec, decide_eq_decide]; omega]
theorem ratio_bot_sp (n : Num) : Sp 143 [dN n] [dW ⟨false, n.bot⟩] := sound_ 0 (ratio_bot_tree _ _) (wp_ret rfl)
theorem zv_sgn {w : Wh} (h : nv w.mag ≠ 0) : decide (zv w < 0) = w.neg := by
  rw [show w.neg = decide (w.neg = true) by simp, decide_eq_decide]; exact zv_neg h
end Go.Proofs.YtbgcadcpeabpgaaGreat
set_option maxRecDepth 100000
namespace Go.Proofs.YtbgcadcpeabpgaaGreat

/-- Not too many limbs. -/
def SmN (n : Num) : Prop := n.top.length ≤ 200 ∧ n.bot.length ≤ 200
theorem RNum.sm {n : Num} {z : Int} {d : Nat} (h : RNum n z d) : SmN n := by have := h.len; unfold SmN; omega
theorem mkR_sm (p q : Int) : SmN (mkR p q).1 := by
  by_cases hq : q = 0
  · unfold mkR; rw [if_pos hq]; exact ⟨by simp [Num.zero], by simp [Num.zero]⟩
  · rcases (mkR_ok (p := p) hq).2.1 with h | h
    · obtain ⟨z, d, h1, _⟩ := (mkR_ok hq).1 h; exact h1.sm
    · rw [h]; exact ⟨by simp [Num.zero], by simp [Num.zero]⟩
section
variable {a b : Num}
theorem sgnZ_sub (x y : Int) : sgnZ (x - y) = cmpZ x y := by
  unfold sgnZ cmpZ
  by_cases h1 : x < y
  · rw [if_pos (by omega), if_pos h1]
  · rw [if_neg (by omega), if_neg h1]
    by_cases h2 : x = y
    · rw [if_pos (by omega), if_pos h2]
    · rw [if_neg (by omega), if_neg h2]
theorem ref04_Cmp_sp (ha : SmN a) (hb : SmN b) : Sp 74 [dN a, dN b] [.int (cmpR a b)] := by
  obtain ⟨a1, a2⟩ := ha
  obtain ⟨b1, b2⟩ := hb
  have at_ := numT_len a; have ab := numB_len a; have bt := numT_len b; have bb := numB_len b
  have m1 := lenZ_mul (numT a) (numB b)
  have m2 := lenZ_mul (numT b) (numB a)
  have s1 := lenZ_add (numT a * numB b) (-(numT b * numB a))
  rw [lenZ_neg, ← Int.sub_eq_add_neg] at s1
  have x1 := ref03_Mul_sp (wz (numT a)) (wz (numB b)) (by rw [wzl]; omega) (by rw [wzl]; omega)
  have x2 := ref03_Mul_sp (wz (numT b)) (wz (numB a)) (by rw [wzl]; omega) (by rw [wzl]; omega)
  have x4 := ref03_Sub_sp (wz (numT a * numB b)) (wz (numT b * numB a)) (by rw [wzl]; omega) (by rw [wzl]; omega)
  have x5 := ref03_Sign_sp (wz (numT a * numB b - numT b * numB a)) (by rw [wzl]; omega)
  rw [zv_wz, zv_wz] at x1 x2 x4
  rw [zv_wz, sgnZ_sub] at x5
  exact sound_ 0 (ref04_Cmp_tree _ _ _) (wp_call (ref04_Top_sp a (by omega)) (wp_call (ref04_Bot_sp b (by omega)) (wp_call x1 (wp_call (ref04_Top_sp b (by omega)) (wp_call (ref04_Bot_sp a (by omega)) (wp_call x2 (wp_call x4 (wp_call x5 (wp_ret rfl)))))))))
theorem numB_one (h : a.bot = [1]) : numB a = 1 := by unfold numB; rw [h]; simp [nv]
theorem ratio_Cmp_sp (ha : SmN a) (hb : SmN b) : Sp 112 [dN a, dN b] [.int (cmpR a b)] := by
  obtain ⟨a1, a2⟩ := ha
  obtain ⟨b1, b2⟩ := hb
  have at_ := numT_len a; have ab := numB_len a; have bt := numT_len b; have bb := numB_len b
  have m1 := lenZ_mul (numT a) (numB b)
  have m2 := lenZ_mul (numT b) (numB a)
  have x1 := whole_Mul_sp ⟨a.neg, a.top⟩ ⟨false, b.bot⟩ (by show a.top.length ≤ _; omega) (by show b.bot.length ≤ _; omega)
  have x2 := whole_Mul_sp ⟨b.neg, b.top⟩ ⟨false, a.bot⟩ (by show b.top.length ≤ _; omega) (by show a.bot.length ≤ _; omega)
  have x4 := whole_Cmp_sp (wz (numT a * numB b)) (wz (numT b * numB a)) (by rw [wzl]; omega) (by rw [wzl]; omega)
  have x5 := whole_Cmp_sp ⟨a.neg, a.top⟩ ⟨b.neg, b.top⟩ (by show a.top.length ≤ _; omega) (by show b.top.length ≤ _; omega)
  rw [zv_top, zv_bot] at x1 x2
  rw [zv_wz, zv_wz] at x4
  rw [zv_top, zv_top] at x5
  refine sound_ 0 (ratio_Cmp_tree _ _ _) (wp_call (ratio_isOne_sp a.bot) ?_)
  simp only [getD_c0, toBool_bool]
  refine wp_decs (fun h => wp_call (ratio_isOne_sp b.bot) ?_) (fun h => wp_call (ratio_top_sp a) (wp_call (ratio_bot_sp b) (wp_call x1 (wp_call (ratio_top_sp b) (wp_call (ratio_bot_sp a) (wp_call x2 (wp_call x4 (wp_ret rfl))))))))
  simp only [getD_c0, toBool_bool]
  refine wp_decs (fun h' => ?_) (fun h' => wp_call (ratio_top_sp a) (wp_call (ratio_bot_sp b) (wp_call x1 (wp_call (ratio_top_sp b) (wp_call (ratio_bot_sp a) (wp_call x2 (wp_call x4 (wp_ret rfl))))))))
  refine wp_call (ratio_top_sp a) (wp_call (ratio_top_sp b) (wp_call x5 (wp_ret ?_)))
  unfold cmpR
  rw [numB_one h, numB_one h', Int.mul_one, Int.mul_one]; rfl
end
section
variable {a b : Num} {z y : Int} {d e : Nat}
/-- A right number with a sign. -/
def signN (neg : Bool) (n : Num) : Num := ⟨neg && decide (0 < n.top.length), n.top, n.bot⟩
theorem RNum.top0 (h : RNum a z d) : a.top = [] ↔ z = 0 := by rw [h.eq]; show lb z.natAbs = [] ↔ _; rw [lb_eq_nil]; omega
theorem RNum.sgn (h : RNum a z d) : a.neg = decide (z < 0) := by rw [h.eq]; rfl
theorem sign_neg (h : RNum a z d) : signN (!a.neg) a = negN a := by
  unfold signN negN
  split
  · rename_i h0
    rw [h0]
    have hz := h.top0.1 h0
    have hd : d = 1 := by
      have := h.cop
      rw [hz, Int.natAbs_zero, Nat.coprime_zero_left] at this
      exact this
    have hb : a.bot = [1] := by rw [h.eq, hd]; exact lbn_one
    rw [hb]; simp [ofZ, lb_zero]
  · rename_i h0
    rw [decide_eq_true (List.length_pos_iff.2 h0), Bool.and_true]
theorem sign_same (h : RNum a z d) : signN a.neg a = a := by
  unfold signN
  have : (a.neg && decide (0 < a.top.length)) = a.neg := by
    by_cases h0 : a.top = []
    · have := h.top0.1 h0
      rw [h.sgn, this]; simp
    · rw [decide_eq_true (List.length_pos_iff.2 h0), Bool.and_true]
  rw [this]
theorem flr_len (h : RNum a z d) : lenZ (dmZ z (d : Int)).1 ≤ 32 := by
  have hd0 := h.d0
  obtain ⟨e1, _, e3, e4, _⟩ := dmZ_spec z (d : Int) (by omega)
  have hl := h.lz
  have hz := lenZ_lt z
  have hz2 : z.natAbs < B ^ 32 := Nat.lt_of_lt_of_le hz (Nat.pow_le_pow_right B_pos hl)
  have e5 := e4 (by omega)
  refine lenZ_le ?_
  generalize (dmZ z (d : Int)).1 = q at *
  generalize (dmZ z (d : Int)).2 = r at *
  have hB2 : 4 ≤ B ^ 32 := by decide
  generalize B ^ 32 = P at *
  have hr : r < (d : Int) := by omega
  rcases Nat.lt_or_ge 1 d with h1 | h1
  · -- |q| < P
    rcases Nat.lt_or_ge q.natAbs P with h2 | h2
    · exact h2
    · exfalso
      rcases Int.le_total 0 q with h3 | h3
      · have : q * 2 ≤ q * (d : Int) := Int.mul_le_mul_of_nonneg_left (by omega) h3
        omega
      · have : (-q) * 2 ≤ (-q) * (d : Int) := Int.mul_le_mul_of_nonneg_left (by omega) (by omega)
        have h4 : (-q) * (d : Int) = -(q * (d : Int)) := Int.neg_mul _ _
        have h5 : (-q - 1) * 2 ≤ (-q - 1) * (d : Int) := Int.mul_le_mul_of_nonneg_left (by omega) (by omega)
        have h6 : (-q - 1) * (d : Int) = -(q * (d : Int)) - (d : Int) := by rw [Int.sub_mul, Int.neg_mul, Int.one_mul]
        omega
  · obtain rfl : d = 1 := by omega
    have : q * ((1 : Nat) : Int) = q := by simp
    omega
theorem flr_rn (h : RNum a z d) : RNum (flrN a) (dmZ z (d : Int)).1 1 := by
  have hf : flrN a = ofZ (dmZ z (d : Int)).1 := by unfold flrN; rw [h.top, h.bot]
  exact ⟨by rw [hf, frac_one], by decide, Nat.coprime_one_right _, flr_len h, by rw [lbn_one]; decide⟩
theorem flr_whole (h : RNum a z d) : wholeN (dmZ (numT a) (numB a)).1 = flrN a := by
  unfold wholeN flrN
  have := flr_len h
  rw [h.top, h.bot, if_neg (by unfold lenZ at this; omega)]
theorem dm1_len (h : RNum a z d) : lenZ (dmZ (numT a) (numB a)).1 ≤ 32 := by rw [h.top, h.bot]; exact flr_len h
theorem RNum.botnz (h : RNum a z d) : numB a ≠ 0 := by rw [h.bot]; have := h.d0; omega
theorem divR_ok (ha : RNum a z d) (hb : RNum b y e) (hy : y ≠ 0) (h : (divR a b).2 = 0) : ∃ x c, RNum (divR a b).1 x c := by
  have hq : numB a * numT b ≠ 0 := Int.mul_ne_zero ha.botnz (by rw [hb.top]; exact hy)
  obtain ⟨x, c, h1, _⟩ := (mkR_ok hq).1 h
  exact ⟨x, c, h1⟩
theorem mulR_ok (ha : RNum a z d) (hb : RNum b y e) (h : (mulR a b).2 = 0) : ∃ x c, RNum (mulR a b).1 x c := by
  have hq : numB a * numB b ≠ 0 := Int.mul_ne_zero ha.botnz hb.botnz
  obtain ⟨x, c, h1, _⟩ := (mkR_ok hq).1 h
  exact ⟨x, c, h1⟩
theorem addR_ok (ha : RNum a z d) (hb : RNum b y e) (h : (addR a b).2 = 0) : ∃ x c, RNum (addR a b).1 x c := by
  have hq : numB a * numB b ≠ 0 := Int.mul_ne_zero ha.botnz hb.botnz
  obtain ⟨x, c, h1, _⟩ := (mkR_ok hq).1 h
  exact ⟨x, c, h1⟩
theorem sgnZ_zero {x : Int} : sgnZ x = 0 ↔ x = 0 := by unfold sgnZ; by_cases h1 : x < 0 <;> by_cases h2 : x = 0 <;> simp [h1, h2]
end
end Go.Proofs.YtbgcadcpeabpgaaGreat
set_option maxRecDepth 100000
namespace Go.Proofs.YtbgcadcpeabpgaaGreat
/-! scrim/grade.cells -/
def grade_cells_orc : List (Nat × Orc) := []
theorem grade_cells_tree (n : Nat) (x0 : D) (y1 : D) : evFun Tryz.prog md grade_cells_orc n 71 [] [x0, y1] =
 .br (((x0.fld 1).toInt) != ((y1.fld 1).toInt)) (.call 111 [] [D.int ((x0.fld 1).toInt), D.int ((y1.fld 1).toInt)] fun yy1 =>
 .ret [D.int ((yy1.getD 0 D.nil).toInt)])
 (.br (((x0.fld 1).toInt) == 0) (.call 112 [] [x0.fld 2, y1.fld 2] fun yy2 =>
 .ret [D.int ((yy2.getD 0 D.nil).toInt)])
 (.br (((x0.fld 1).toInt) == 1) (.call 111 [] [D.int ((x0.fld 3).toInt), D.int ((y1.fld 3).toInt)] fun yy3 =>
 .ret [D.int ((yy3.getD 0 D.nil).toInt)])
 (.br (decide (0 ≤ 0)) (.br (decide (0 < (((x0.fld 4).els).length : Int))) (.br (decide (0 ≤ 0)) (.br (decide (0 < (((y1.fld 4).els).length : Int))) (.call 113 [] [((x0.fld 4).els).getD (Int.toNat 0) D.nil, ((y1.fld 4).els).getD (Int.toNat 0) D.nil] fun yy4 =>
 .ret [D.int ((yy4.getD 0 D.nil).toInt)]) .fail) .fail) .fail) .fail))) := by kernel_rfl

/-! scrim/grade.arrays -/
def grade_arrays_orc : List (Nat × Orc) := [(8, ⟨[(2, none), (3, none), (29, none), (30, none)], [(2, true), (3, true)], []⟩)]
def grade_arrays_ps : List Nat := [26, 26]
def grade_arrays_rs : List ResultVar := [.tmp 4]
def grade_arrays_ts : List Nat := [3]
noncomputable def grade_arrays_l8 (n m8 : Nat) (t29 : Int) (t30 : Int) (a2 : D) (b3 : D) : Tree :=
  evLoop Tryz.prog md (ev Tryz.prog md n grade_arrays_orc (cAt (bodyOf Tryz.prog 113) [1, 1, 1, 0, 1, 0, 0])) (orcAt grade_arrays_orc 8) m8 ⟨[.undef, .undef, .ptr 2 [], .ptr 3 [], .undef, .undef, .undef, .undef, .undef, .undef, .undef, .undef, .undef, .undef, .undef, .undef, .undef, .undef, .undef, .undef, .undef, .undef, .undef, .undef, .undef, .undef, .undef, .undef, .undef, .i .i64 t29, .i .i64 t30, .undef, .undef, .undef, .undef, .undef, .undef, .undef, .undef, .undef, .undef, .undef, .undef, .undef, .undef, .undef, .undef, .undef], [(2, .var 26 (.d 26 a2) true), (3, .var 26 (.d 26 b3) true)], [2, 3], [], []⟩
   (blockK 0 (seqK (joinE Tryz.prog md (joinAt grade_arrays_orc (cAt (bodyOf Tryz.prog 113) [1, 1, 1, 1])) (ev Tryz.prog md n grade_arrays_orc (cAt (bodyOf Tryz.prog 113) [1, 1, 1, 1]))) (retK Tryz.prog md (md 113) grade_arrays_ps grade_arrays_rs grade_arrays_ts)))
theorem grade_arrays_l8_succ (n m8 : Nat) (t29 : Int) (t30 : Int) (a2 : D) (b3 : D) : grade_arrays_l8 n (m8 + 1) t29 t30 a2 b3 =
 .br (decide (t30 < t29)) (.br (decide (0 ≤ t30)) (.br (decide (t30 < (((a2.fld 2).els).length : Int))) (.br (decide (0 ≤ t30)) (.br (decide (t30 < (((b3.fld 2).els).length : Int))) (.call 71 [] [((a2.fld 2).els).getD (Int.toNat t30) D.nil, ((b3.fld 2).els).getD (Int.toNat t30) D.nil] fun yy3 =>
 .br (((yy3.getD 0 D.nil).toInt) != 0) (.ret [D.int ((yy3.getD 0 D.nil).toInt)])
 (grade_arrays_l8 n m8 t29 (IntKind.wrap .i64 (t30 + 1)) a2 b3)) .fail) .fail) .fail) .fail)
 (.ret [D.int 0]) := by kernel_rfl
theorem grade_arrays_tree (n : Nat) (a0 : D) (b1 : D) : evFun Tryz.prog md grade_arrays_orc n 113 [] [a0, b1] =
 .call 111 [] [D.int (((a0.fld 1).els).length : Int), D.int (((b1.fld 1).els).length : Int)] fun yy1 =>
 .br (((yy1.getD 0 D.nil).toInt) != 0) (.ret [D.int ((yy1.getD 0 D.nil).toInt)])
 (.call 144 [] [a0.fld 1, b1.fld 1] fun yy2 =>
 .br (((yy2.getD 0 D.nil).toInt) != 0) (.ret [D.int ((yy2.getD 0 D.nil).toInt)])
 (grade_arrays_l8 n n (((a0.fld 2).els).length : Int) 0 a0 b1)) := by kernel_rfl

end Go.Proofs.YtbgcadcpeabpgaaGreat
set_option maxRecDepth 100000
namespace Go.Proofs.YtbgcadcpeabpgaaGreat
/-! cmp.Compare[int] -/
def cmp_Compare_int_orc : List (Nat × Orc) := []
theorem cmp_Compare_int_tree (n : Nat) (x0 : D) (y1 : D) : evFun Tryz.prog md cmp_Compare_int_orc n 111 [] [x0, y1] =
 .call 140 [] [D.int x0.toInt] fun yy1 =>
 .call 140 [] [D.int y1.toInt] fun yy2 =>
 .br ((yy1.getD 0 D.nil).toBool) (.br ((yy2.getD 0 D.nil).toBool) (.ret [D.int 0])
 (.ret [D.int (-1)]))
 (.br ((yy2.getD 0 D.nil).toBool) (.ret [D.int 1])
 (.br (decide (x0.toInt < y1.toInt)) (.ret [D.int (-1)])
 (.br (decide (y1.toInt < x0.toInt)) (.ret [D.int 1])
 (.ret [D.int 0])))) := by kernel_rfl

/-! cmp.isNaN[int] -/
def cmp_isNaN_int_orc : List (Nat × Orc) := []
theorem cmp_isNaN_int_tree (n : Nat) (x0 : D) : evFun Tryz.prog md cmp_isNaN_int_orc n 140 [] [x0] =
 .ret [D.bool (x0.toInt != x0.toInt)] := by kernel_rfl

end Go.Proofs.YtbgcadcpeabpgaaGreat
set_option maxRecDepth 100000
namespace Go.Proofs.YtbgcadcpeabpgaaGreat
/-! scrim/scrimref15.Replicate -/
def ref15_Replicate_orc : List (Nat × Orc) := [(5, ⟨[(2, none), (3, none), (4, none), (6, none), (8, some 23), (10, none)], [(3, true), (4, true), (6, false)], []⟩), (15, ⟨[(3, none), (6, none), (8, none), (11, none), (12, none), (13, none), (14, none), (15, none)], [(3, true), (6, false), (11, true)], [(.slot 8, 1150, 3)]⟩), (22, ⟨[(3, none), (6, none), (8, some 23), (11, none), (12, none), (13, none), (16, none), (17, none)], [(3, true), (6, false), (11, true)], [(.slot 16, 1220, 3)]⟩), (27, ⟨[(3, none), (6, none), (8, some 23), (11, none), (12, none), (13, none), (16, none), (17, none), (18, none)], [(3, true), (6, false), (11, true)], [(.slot 16, 1270, 3)]⟩)]
def ref15_Replicate_ps : List Nat := [26, 26, 4]
def ref15_Replicate_rs : List ResultVar := [.cell 6 26, .tmp 7]
def ref15_Replicate_ts : List Nat := [26, 3]
noncomputable def ref15_Replicate_l27 (n m22 m27 : Nat) (l8 : D) (x12 : Int) (long13 : Int) (p16 : List D) (i17 : Int) (k18 : Int) (nn3 : D) (t6_0 : Int) (a11 : D) : Tree :=
  evLoop Tryz.prog md (ev Tryz.prog md n ref15_Replicate_orc (cAt (bodyOf Tryz.prog 13) [1, 1, 1, 1, 1, 1, 1, 1, 1, 0, 1, 0, 0, 1, 0, 0, 1, 1, 0, 0])) (orcAt ref15_Replicate_orc 27) m27 ⟨[.undef, .undef, .undef, .ptr 3 [], .undef, .undef, .ptr 6 [], .undef, .d 23 l8, .undef, .undef, .ptr 11 [], .i .i64 x12, .i .i64 long13, .undef, .undef, .row 1270, .i .i64 i17, .i .i64 k18, .undef, .undef, .undef, .undef, .undef, .undef, .undef, .undef, .undef, .undef, .undef, .undef, .undef, .undef, .undef, .undef, .undef, .undef, .undef, .undef, .undef, .undef, .undef, .undef, .undef, .undef, .undef, .undef, .undef, .undef, .undef, .undef, .undef, .undef, .undef, .undef, .undef, .undef, .undef, .undef, .undef, .undef, .undef, .undef, .undef, .undef, .undef, .undef, .undef, .undef, .undef, .undef, .undef, .undef, .undef, .undef, .undef, .undef, .undef, .undef, .undef, .undef, .undef, .undef, .undef, .undef, .undef, .undef, .undef, .undef, .undef, .undef, .undef, .undef, .undef, .undef, .undef, .undef, .undef, .undef, .undef, .undef, .undef, .undef, .undef, .undef, .undef, .undef, .undef, .undef, .undef, .undef, .undef, .undef, .undef, .undef, .undef], [(3, .var 26 (.d 26 nn3) true), (6, .var 26 (.agg 26 [.i .u64 t6_0, .mt, .mt]) true), (11, .var 26 (.d 26 a11) true), (1270, .row 3 p16 true)], [3, 6, 11, 1270], [], []⟩
   (blockK 6 (blockK 5 (seqK (joinE Tryz.prog md (joinAt ref15_Replicate_orc (cAt (bodyOf Tryz.prog 13) [1, 1, 1, 1, 1, 1, 1, 1, 1, 0, 1, 0, 0, 1, 1])) (ev Tryz.prog md n ref15_Replicate_orc (cAt (bodyOf Tryz.prog 13) [1, 1, 1, 1, 1, 1, 1, 1, 1, 0, 1, 0, 0, 1, 1]))) (loopK Tryz.prog md (orcAt ref15_Replicate_orc 22) (fun s1 => evLoop Tryz.prog md (ev Tryz.prog md n ref15_Replicate_orc (cAt (bodyOf Tryz.prog 13) [1, 1, 1, 1, 1, 1, 1, 1, 1, 0, 1, 0, 0])) (orcAt ref15_Replicate_orc 22) m22 s1 (blockK 4 (seqK (joinE Tryz.prog md (joinAt ref15_Replicate_orc (cAt (bodyOf Tryz.prog 13) [1, 1, 1, 1, 1, 1, 1, 1, 1, 1])) (ev Tryz.prog md n ref15_Replicate_orc (cAt (bodyOf Tryz.prog 13) [1, 1, 1, 1, 1, 1, 1, 1, 1, 1]))) (retK Tryz.prog md (md 13) ref15_Replicate_ps ref15_Replicate_rs ref15_Replicate_ts)))) (blockK 4 (seqK (joinE Tryz.prog md (joinAt ref15_Replicate_orc (cAt (bodyOf Tryz.prog 13) [1, 1, 1, 1, 1, 1, 1, 1, 1, 1])) (ev Tryz.prog md n ref15_Replicate_orc (cAt (bodyOf Tryz.prog 13) [1, 1, 1, 1, 1, 1, 1, 1, 1, 1]))) (retK Tryz.prog md (md 13) ref15_Replicate_ps ref15_Replicate_rs ref15_Replicate_ts)))))))
noncomputable def ref15_Replicate_l22 (n m22 : Nat) (l8 : D) (x12 : Int) (long13 : Int) (p16 : List D) (i17 : Int) (nn3 : D) (t6_0 : Int) (a11 : D) : Tree :=
  evLoop Tryz.prog md (ev Tryz.prog md n ref15_Replicate_orc (cAt (bodyOf Tryz.prog 13) [1, 1, 1, 1, 1, 1, 1, 1, 1, 0, 1, 0, 0])) (orcAt ref15_Replicate_orc 22) m22 ⟨[.undef, .undef, .undef, .ptr 3 [], .undef, .undef, .ptr 6 [], .undef, .d 23 l8, .undef, .undef, .ptr 11 [], .i .i64 x12, .i .i64 long13, .undef, .undef, .row 1220, .i .i64 i17, .undef, .undef, .undef, .undef, .undef, .undef, .undef, .undef, .undef, .undef, .undef, .undef, .undef, .undef, .undef, .undef, .undef, .undef, .undef, .undef, .undef, .undef, .undef, .undef, .undef, .undef, .undef, .undef, .undef, .undef, .undef, .undef, .undef, .undef, .undef, .undef, .undef, .undef, .undef, .undef, .undef, .undef, .undef, .undef, .undef, .undef, .undef, .undef, .undef, .undef, .undef, .undef, .undef, .undef, .undef, .undef, .undef, .undef, .undef, .undef, .undef, .undef, .undef, .undef, .undef, .undef, .undef, .undef, .undef, .undef, .undef, .undef, .undef, .undef, .undef, .undef, .undef, .undef, .undef, .undef, .undef, .undef, .undef, .undef, .undef, .undef, .undef, .undef, .undef, .undef, .undef, .undef, .undef, .undef, .undef, .undef, .undef, .undef], [(3, .var 26 (.d 26 nn3) true), (6, .var 26 (.agg 26 [.i .u64 t6_0, .mt, .mt]) true), (11, .var 26 (.d 26 a11) true), (1220, .row 3 p16 true)], [3, 6, 11, 1220], [], []⟩
   (blockK 4 (seqK (joinE Tryz.prog md (joinAt ref15_Replicate_orc (cAt (bodyOf Tryz.prog 13) [1, 1, 1, 1, 1, 1, 1, 1, 1, 1])) (ev Tryz.prog md n ref15_Replicate_orc (cAt (bodyOf Tryz.prog 13) [1, 1, 1, 1, 1, 1, 1, 1, 1, 1]))) (retK Tryz.prog md (md 13) ref15_Replicate_ps ref15_Replicate_rs ref15_Replicate_ts)))
noncomputable def ref15_Replicate_l15 (n m15 : Nat) (l8 : List D) (x12 : Int) (long13 : Int) (k14 : Int) (i15 : Int) (nn3 : D) (t6_0 : Int) (a11 : D) : Tree :=
  evLoop Tryz.prog md (ev Tryz.prog md n ref15_Replicate_orc (cAt (bodyOf Tryz.prog 13) [1, 1, 1, 1, 1, 1, 0, 1, 0, 1, 1, 1, 0, 0])) (orcAt ref15_Replicate_orc 15) m15 ⟨[.undef, .undef, .undef, .ptr 3 [], .undef, .undef, .ptr 6 [], .undef, .row 1150, .undef, .undef, .ptr 11 [], .i .i64 x12, .i .i64 long13, .i .i64 k14, .i .i64 i15, .undef, .undef, .undef, .undef, .undef, .undef, .undef, .undef, .undef, .undef, .undef, .undef, .undef, .undef, .undef, .undef, .undef, .undef, .undef, .undef, .undef, .undef, .undef, .undef, .undef, .undef, .undef, .undef, .undef, .undef, .undef, .undef, .undef, .undef, .undef, .undef, .undef, .undef, .undef, .undef, .undef, .undef, .undef, .undef, .undef, .undef, .undef, .undef, .undef, .undef, .undef, .undef, .undef, .undef, .undef, .undef, .undef, .undef, .undef, .undef, .undef, .undef, .undef, .undef, .undef, .undef, .undef, .undef, .undef, .undef, .undef, .undef, .undef, .undef, .undef, .undef, .undef, .undef, .undef, .undef, .undef, .undef, .undef, .undef, .undef, .undef, .undef, .undef, .undef, .undef, .undef, .undef, .undef, .undef, .undef, .undef, .undef, .undef, .undef, .undef], [(3, .var 26 (.d 26 nn3) true), (6, .var 26 (.agg 26 [.i .u64 t6_0, .mt, .mt]) true), (11, .var 26 (.d 26 a11) true), (1150, .row 3 l8 true)], [3, 6, 11, 1150], [], []⟩
   (blockK 2 (seqK (joinE Tryz.prog md (joinAt ref15_Replicate_orc (cAt (bodyOf Tryz.prog 13) [1, 1, 1, 1, 1, 1, 1])) (ev Tryz.prog md n ref15_Replicate_orc (cAt (bodyOf Tryz.prog 13) [1, 1, 1, 1, 1, 1, 1]))) (retK Tryz.prog md (md 13) ref15_Replicate_ps ref15_Replicate_rs ref15_Replicate_ts)))
noncomputable def ref15_Replicate_l5 (n m5 : Nat) (first2 : Bool) (l8 : D) (i10 : Int) (nn3 : D) (b4 : D) (t6_0 : Int) : Tree :=
  evLoop Tryz.prog md (ev Tryz.prog md n ref15_Replicate_orc (cAt (bodyOf Tryz.prog 13) [1, 1, 1, 0, 1, 0, 0])) (orcAt ref15_Replicate_orc 5) m5 ⟨[.undef, .undef, .b first2, .ptr 3 [], .ptr 4 [], .undef, .ptr 6 [], .undef, .d 23 l8, .undef, .i .i64 i10, .undef, .undef, .undef, .undef, .undef, .undef, .undef, .undef, .undef, .undef, .undef, .undef, .undef, .undef, .undef, .undef, .undef, .undef, .undef, .undef, .undef, .undef, .undef, .undef, .undef, .undef, .undef, .undef, .undef, .undef, .undef, .undef, .undef, .undef, .undef, .undef, .undef, .undef, .undef, .undef, .undef, .undef, .undef, .undef, .undef, .undef, .undef, .undef, .undef, .undef, .undef, .undef, .undef, .undef, .undef, .undef, .undef, .undef, .undef, .undef, .undef, .undef, .undef, .undef, .undef, .undef, .undef, .undef, .undef, .undef, .undef, .undef, .undef, .undef, .undef, .undef, .undef, .undef, .undef, .undef, .undef, .undef, .undef, .undef, .undef, .undef, .undef, .undef, .undef, .undef, .undef, .undef, .undef, .undef, .undef, .undef, .undef, .undef, .undef, .undef, .undef, .undef, .undef, .undef, .undef], [(3, .var 26 (.d 26 nn3) true), (4, .var 26 (.d 26 b4) true), (6, .var 26 (.agg 26 [.i .u64 t6_0, .mt, .mt]) true)], [3, 4, 6], [], []⟩
   (blockK 0 (seqK (joinE Tryz.prog md (joinAt ref15_Replicate_orc (cAt (bodyOf Tryz.prog 13) [1, 1, 1, 1])) (ev Tryz.prog md n ref15_Replicate_orc (cAt (bodyOf Tryz.prog 13) [1, 1, 1, 1]))) (retK Tryz.prog md (md 13) ref15_Replicate_ps ref15_Replicate_rs ref15_Replicate_ts)))
theorem ref15_Replicate_l27_succ (n m22 m27 : Nat) (l8 : D) (x12 : Int) (long13 : Int) (p16 : List D) (i17 : Int) (k18 : Int) (nn3 : D) (t6_0 : Int) (a11 : D) : ref15_Replicate_l27 n m22 (m27 + 1) l8 x12 long13 p16 i17 k18 nn3 t6_0 a11 =
 .br (decide (0 ≤ i17)) (.br (decide (i17 < (l8.els.length : Int))) (.br (decide (k18 < ((l8.els.getD (Int.toNat i17) D.nil).toInt))) (.br (long13 == 1) (.br (decide (p16.length + [D.int 0].length ≤ bigN)) (ref15_Replicate_l27 n m22 m27 l8 x12 long13 (p16 ++ [D.int 0]) i17 (IntKind.wrap .i64 (k18 + 1)) nn3 t6_0 a11) .fail)
 (.br (decide (p16.length + [D.int i17].length ≤ bigN)) (ref15_Replicate_l27 n m22 m27 l8 x12 long13 (p16 ++ [D.int i17]) i17 (IntKind.wrap .i64 (k18 + 1)) nn3 t6_0 a11) .fail))
 (ref15_Replicate_l22 n m22 l8 x12 long13 p16 (IntKind.wrap .i64 (i17 + 1)) nn3 t6_0 a11)) .fail) .fail := by kernel_rfl
theorem ref15_Replicate_l22_succ (n m22 : Nat) (l8 : D) (x12 : Int) (long13 : Int) (p16 : List D) (i17 : Int) (nn3 : D) (t6_0 : Int) (a11 : D) : ref15_Replicate_l22 n (m22 + 1) l8 x12 long13 p16 i17 nn3 t6_0 a11 =
 .br (decide (i17 < (l8.els.length : Int))) (.br (decide (0 ≤ i17)) (.br (decide (i17 < (l8.els.length : Int))) (.br (decide ((IntKind.wrap .i64 (2048 - (p16.length : Int))) < ((l8.els.getD (Int.toNat i17) D.nil).toInt))) (.ret [D.agg [D.int 0, D.sl [], D.sl []], D.int 7])
 (ref15_Replicate_l27 n m22 n l8 x12 long13 p16 i17 0 nn3 t6_0 a11)) .fail) .fail)
 (.call 48 [] [nn3] fun yy3 =>
 .call 47 [] [a11, D.int x12, D.sl p16, D.int ((yy3.getD 0 D.nil).toInt)] fun yy4 =>
 .ret [yy4.getD 0 D.nil, D.int ((yy4.getD 1 D.nil).toInt)]) := by kernel_rfl
theorem ref15_Replicate_l15_succ (n m15 : Nat) (l8 : List D) (x12 : Int) (long13 : Int) (k14 : Int) (i15 : Int) (nn3 : D) (t6_0 : Int) (a11 : D) : ref15_Replicate_l15 n (m15 + 1) l8 x12 long13 k14 i15 nn3 t6_0 a11 =
 .br (decide (i15 < long13)) (.br (decide (l8.length + [D.int k14].length ≤ bigN)) (ref15_Replicate_l15 n m15 (l8 ++ [D.int k14]) x12 long13 k14 (IntKind.wrap .i64 (i15 + 1)) nn3 t6_0 a11) .fail)
 (.br (long13 != 1) (.br ((l8.length : Int) != long13) (.ret [D.agg [D.int 0, D.sl [], D.sl []], D.int 4])
 (ref15_Replicate_l22 n n (D.sl l8) x12 long13 [] 0 nn3 t6_0 a11))
 (ref15_Replicate_l22 n n (D.sl l8) x12 long13 [] 0 nn3 t6_0 a11)) := by kernel_rfl
theorem ref15_Replicate_l5_succ (n m5 : Nat) (first2 : Bool) (l8 : D) (i10 : Int) (nn3 : D) (b4 : D) (t6_0 : Int) : ref15_Replicate_l5 n (m5 + 1) first2 l8 i10 nn3 b4 t6_0 =
 .br (decide (i10 < (l8.els.length : Int))) (.br (decide (0 ≤ i10)) (.br (decide (i10 < (l8.els.length : Int))) (.br (decide (((l8.els.getD (Int.toNat i10) D.nil).toInt) < 0)) (.ret [D.agg [D.int 0, D.sl [], D.sl []], D.int 3])
 (ref15_Replicate_l5 n m5 first2 l8 (IntKind.wrap .i64 (i10 + 1)) nn3 b4 t6_0)) .fail) .fail)
 (.call 46 [] [b4, D.bool first2] fun yy2 =>
 .br (decide (0 ≤ (yy2.getD 1 D.nil).toInt)) (.br (decide ((yy2.getD 1 D.nil).toInt < ((((yy2.getD 0 D.nil).fld 1).els).length : Int))) (.br ((((nn3.fld 1).els).length : Int) == 0) (.br (decide (0 ≤ 0)) (.br (decide (0 < (l8.els.length : Int))) (ref15_Replicate_l15 n n [] ((yy2.getD 1 D.nil).toInt) (((((yy2.getD 0 D.nil).fld 1).els).getD (Int.toNat ((yy2.getD 1 D.nil).toInt)) D.nil).toInt) ((l8.els.getD (Int.toNat 0) D.nil).toInt) 0 nn3 t6_0 (yy2.getD 0 D.nil)) .fail) .fail)
 (.br ((((((yy2.getD 0 D.nil).fld 1).els).getD (Int.toNat ((yy2.getD 1 D.nil).toInt)) D.nil).toInt) != 1) (.br ((l8.els.length : Int) != (((((yy2.getD 0 D.nil).fld 1).els).getD (Int.toNat ((yy2.getD 1 D.nil).toInt)) D.nil).toInt)) (.ret [D.agg [D.int 0, D.sl [], D.sl []], D.int 4])
 (ref15_Replicate_l22 n n l8 ((yy2.getD 1 D.nil).toInt) (((((yy2.getD 0 D.nil).fld 1).els).getD (Int.toNat ((yy2.getD 1 D.nil).toInt)) D.nil).toInt) [] 0 nn3 t6_0 (yy2.getD 0 D.nil)))
 (ref15_Replicate_l22 n n l8 ((yy2.getD 1 D.nil).toInt) (((((yy2.getD 0 D.nil).fld 1).els).getD (Int.toNat ((yy2.getD 1 D.nil).toInt)) D.nil).toInt) [] 0 nn3 t6_0 (yy2.getD 0 D.nil)))) .fail) .fail) := by kernel_rfl
theorem ref15_Replicate_tree (n : Nat) (nn0 : D) (b1 : D) (first2 : D) : evFun Tryz.prog md ref15_Replicate_orc n 13 [] [nn0, b1, first2] =
 .call 34 [] [nn0] fun yy1 =>
 .br (((yy1.getD 1 D.nil).toInt) != 0) (.ret [D.agg [D.int 0, D.sl [], D.sl []], D.int ((yy1.getD 1 D.nil).toInt)])
 (ref15_Replicate_l5 n n first2.toBool (yy1.getD 0 D.nil) 0 nn0 b1 0) := by kernel_rfl

/-! scrim/scrimref15.Expand -/
def ref15_Expand_orc : List (Nat × Orc) := [(9, ⟨[(3, none), (6, none), (8, some 23), (10, none), (11, none), (12, none), (13, none), (14, none), (15, none)], [(3, true), (6, false), (10, true)], [(.slot 14, 1090, 3)]⟩)]
def ref15_Expand_ps : List Nat := [26, 26, 4]
def ref15_Expand_rs : List ResultVar := [.cell 6 26, .tmp 7]
def ref15_Expand_ts : List Nat := [26, 3]
noncomputable def ref15_Expand_l9 (n m9 : Nat) (l8 : D) (x11 : Int) (long12 : Int) (ones13 : Int) (p14 : List D) (i15 : Int) (nn3 : D) (t6_0 : Int) (a10 : D) : Tree :=
  evLoop Tryz.prog md (ev Tryz.prog md n ref15_Expand_orc (cAt (bodyOf Tryz.prog 17) [1, 1, 1, 1, 1, 1, 1, 0, 1, 0, 0])) (orcAt ref15_Expand_orc 9) m9 ⟨[.undef, .undef, .undef, .ptr 3 [], .undef, .undef, .ptr 6 [], .undef, .d 23 l8, .undef, .ptr 10 [], .i .i64 x11, .i .i64 long12, .i .i64 ones13, .row 1090, .i .i64 i15, .undef, .undef, .undef, .undef, .undef, .undef, .undef, .undef, .undef, .undef, .undef, .undef, .undef, .undef, .undef, .undef, .undef, .undef, .undef, .undef, .undef, .undef, .undef, .undef, .undef, .undef, .undef, .undef, .undef, .undef, .undef, .undef, .undef, .undef, .undef, .undef, .undef, .undef, .undef, .undef, .undef, .undef, .undef, .undef, .undef, .undef, .undef, .undef, .undef, .undef, .undef, .undef, .undef, .undef, .undef, .undef, .undef, .undef, .undef, .undef, .undef, .undef, .undef, .undef, .undef, .undef, .undef, .undef, .undef, .undef, .undef, .undef, .undef, .undef], [(3, .var 26 (.d 26 nn3) true), (6, .var 26 (.agg 26 [.i .u64 t6_0, .mt, .mt]) true), (10, .var 26 (.d 26 a10) true), (1090, .row 3 p14 true)], [3, 6, 10, 1090], [], []⟩
   (blockK 0 (seqK (joinE Tryz.prog md (joinAt ref15_Expand_orc (cAt (bodyOf Tryz.prog 17) [1, 1, 1, 1, 1, 1, 1, 1])) (ev Tryz.prog md n ref15_Expand_orc (cAt (bodyOf Tryz.prog 17) [1, 1, 1, 1, 1, 1, 1, 1]))) (retK Tryz.prog md (md 17) ref15_Expand_ps ref15_Expand_rs ref15_Expand_ts)))
theorem ref15_Expand_l9_succ (n m9 : Nat) (l8 : D) (x11 : Int) (long12 : Int) (ones13 : Int) (p14 : List D) (i15 : Int) (nn3 : D) (t6_0 : Int) (a10 : D) : ref15_Expand_l9 n (m9 + 1) l8 x11 long12 ones13 p14 i15 nn3 t6_0 a10 =
 .br (decide (i15 < (l8.els.length : Int))) (.br (decide (0 ≤ i15)) (.br (decide (i15 < (l8.els.length : Int))) (.br (((l8.els.getD (Int.toNat i15) D.nil).toInt) != 0) (.br (decide (0 ≤ i15)) (.br (decide (i15 < (l8.els.length : Int))) (.br (((l8.els.getD (Int.toNat i15) D.nil).toInt) != 1) (.ret [D.agg [D.int 0, D.sl [], D.sl []], D.int 3])
 (.br (decide (0 ≤ i15)) (.br (decide (i15 < (l8.els.length : Int))) (.br (((l8.els.getD (Int.toNat i15) D.nil).toInt) == 0) (.br (decide (p14.length + [D.int (-1)].length ≤ bigN)) (ref15_Expand_l9 n m9 l8 x11 long12 ones13 (p14 ++ [D.int (-1)]) (IntKind.wrap .i64 (i15 + 1)) nn3 t6_0 a10) .fail)
 (.br (long12 == 1) (.br (decide (p14.length + [D.int 0].length ≤ bigN)) (ref15_Expand_l9 n m9 l8 x11 long12 ones13 (p14 ++ [D.int 0]) (IntKind.wrap .i64 (i15 + 1)) nn3 t6_0 a10) .fail)
 (.br (decide (p14.length + [D.int ones13].length ≤ bigN)) (ref15_Expand_l9 n m9 l8 x11 long12 (IntKind.wrap .i64 (ones13 + 1)) (p14 ++ [D.int ones13]) (IntKind.wrap .i64 (i15 + 1)) nn3 t6_0 a10) .fail))) .fail) .fail)) .fail) .fail)
 (.br (decide (0 ≤ i15)) (.br (decide (i15 < (l8.els.length : Int))) (.br (((l8.els.getD (Int.toNat i15) D.nil).toInt) == 0) (.br (decide (p14.length + [D.int (-1)].length ≤ bigN)) (ref15_Expand_l9 n m9 l8 x11 long12 ones13 (p14 ++ [D.int (-1)]) (IntKind.wrap .i64 (i15 + 1)) nn3 t6_0 a10) .fail)
 (.br (long12 == 1) (.br (decide (p14.length + [D.int 0].length ≤ bigN)) (ref15_Expand_l9 n m9 l8 x11 long12 ones13 (p14 ++ [D.int 0]) (IntKind.wrap .i64 (i15 + 1)) nn3 t6_0 a10) .fail)
 (.br (decide (p14.length + [D.int ones13].length ≤ bigN)) (ref15_Expand_l9 n m9 l8 x11 long12 (IntKind.wrap .i64 (ones13 + 1)) (p14 ++ [D.int ones13]) (IntKind.wrap .i64 (i15 + 1)) nn3 t6_0 a10) .fail))) .fail) .fail)) .fail) .fail)
 (.br (long12 != 1) (.br (ones13 != long12) (.ret [D.agg [D.int 0, D.sl [], D.sl []], D.int 4])
 (.call 48 [] [nn3] fun yy3 =>
 .call 47 [] [a10, D.int x11, D.sl p14, D.int ((yy3.getD 0 D.nil).toInt)] fun yy4 =>
 .ret [yy4.getD 0 D.nil, D.int ((yy4.getD 1 D.nil).toInt)]))
 (.call 48 [] [nn3] fun yy5 =>
 .call 47 [] [a10, D.int x11, D.sl p14, D.int ((yy5.getD 0 D.nil).toInt)] fun yy6 =>
 .ret [yy6.getD 0 D.nil, D.int ((yy6.getD 1 D.nil).toInt)])) := by kernel_rfl
theorem ref15_Expand_tree (n : Nat) (nn0 : D) (b1 : D) (first2 : D) : evFun Tryz.prog md ref15_Expand_orc n 17 [] [nn0, b1, first2] =
 .call 34 [] [nn0] fun yy1 =>
 .br (((yy1.getD 1 D.nil).toInt) != 0) (.ret [D.agg [D.int 0, D.sl [], D.sl []], D.int ((yy1.getD 1 D.nil).toInt)])
 (.call 46 [] [b1, D.bool first2.toBool] fun yy2 =>
 .br (decide (0 ≤ (yy2.getD 1 D.nil).toInt)) (.br (decide ((yy2.getD 1 D.nil).toInt < ((((yy2.getD 0 D.nil).fld 1).els).length : Int))) (ref15_Expand_l9 n n (yy1.getD 0 D.nil) ((yy2.getD 1 D.nil).toInt) (((((yy2.getD 0 D.nil).fld 1).els).getD (Int.toNat ((yy2.getD 1 D.nil).toInt)) D.nil).toInt) 0 [] 0 nn0 0 (yy2.getD 0 D.nil)) .fail) .fail) := by kernel_rfl

/-! scrim/scrimref15.Where -/
def ref15_Where_orc : List (Nat × Orc) := [(8, ⟨[(1, none), (2, none), (4, some 23), (6, none), (7, none)], [(1, true), (2, false)], [(.slot 6, 1080, 3)]⟩)]
def ref15_Where_ps : List Nat := [26]
def ref15_Where_rs : List ResultVar := [.cell 2 26, .tmp 3]
def ref15_Where_ts : List Nat := [26, 3]
noncomputable def ref15_Where_l8 (n m8 : Nat) (l4 : D) (out6 : List D) (i7 : Int) (a1 : D) (t2_0 : Int) : Tree :=
  evLoop Tryz.prog md (ev Tryz.prog md n ref15_Where_orc (cAt (bodyOf Tryz.prog 29) [1, 1, 1, 1, 1, 0, 1, 0, 0])) (orcAt ref15_Where_orc 8) m8 ⟨[.undef, .ptr 1 [], .ptr 2 [], .undef, .d 23 l4, .undef, .row 1080, .i .i64 i7, .undef, .undef, .undef, .undef, .undef, .undef, .undef, .undef, .undef, .undef, .undef, .undef, .undef, .undef, .undef, .undef, .undef, .undef, .undef, .undef, .undef, .undef, .undef, .undef, .undef, .undef, .undef, .undef, .undef, .undef, .undef, .undef, .undef, .undef, .undef, .undef, .undef, .undef, .undef, .undef, .undef, .undef, .undef, .undef, .undef, .undef, .undef], [(1, .var 26 (.d 26 a1) true), (2, .var 26 (.agg 26 [.i .u64 t2_0, .mt, .mt]) true), (1080, .row 3 out6 true)], [1, 2, 1080], [], []⟩
   (blockK 0 (seqK (joinE Tryz.prog md (joinAt ref15_Where_orc (cAt (bodyOf Tryz.prog 29) [1, 1, 1, 1, 1, 1])) (ev Tryz.prog md n ref15_Where_orc (cAt (bodyOf Tryz.prog 29) [1, 1, 1, 1, 1, 1]))) (retK Tryz.prog md (md 29) ref15_Where_ps ref15_Where_rs ref15_Where_ts)))
theorem ref15_Where_l8_succ (n m8 : Nat) (l4 : D) (out6 : List D) (i7 : Int) (a1 : D) (t2_0 : Int) : ref15_Where_l8 n (m8 + 1) l4 out6 i7 a1 t2_0 =
 .br (decide (i7 < (l4.els.length : Int))) (.br (decide (0 ≤ i7)) (.br (decide (i7 < (l4.els.length : Int))) (.br (((l4.els.getD (Int.toNat i7) D.nil).toInt) != 0) (.br (decide (0 ≤ i7)) (.br (decide (i7 < (l4.els.length : Int))) (.br (((l4.els.getD (Int.toNat i7) D.nil).toInt) != 1) (.ret [D.agg [D.int 0, D.sl [], D.sl []], D.int 3])
 (.br (decide (0 ≤ i7)) (.br (decide (i7 < (l4.els.length : Int))) (.br (((l4.els.getD (Int.toNat i7) D.nil).toInt) == 1) (.br (decide (out6.length + [D.int (IntKind.wrap .i64 (i7 + 1))].length ≤ bigN)) (ref15_Where_l8 n m8 l4 (out6 ++ [D.int (IntKind.wrap .i64 (i7 + 1))]) (IntKind.wrap .i64 (i7 + 1)) a1 t2_0) .fail)
 (ref15_Where_l8 n m8 l4 out6 (IntKind.wrap .i64 (i7 + 1)) a1 t2_0)) .fail) .fail)) .fail) .fail)
 (.br (decide (0 ≤ i7)) (.br (decide (i7 < (l4.els.length : Int))) (.br (((l4.els.getD (Int.toNat i7) D.nil).toInt) == 1) (.br (decide (out6.length + [D.int (IntKind.wrap .i64 (i7 + 1))].length ≤ bigN)) (ref15_Where_l8 n m8 l4 (out6 ++ [D.int (IntKind.wrap .i64 (i7 + 1))]) (IntKind.wrap .i64 (i7 + 1)) a1 t2_0) .fail)
 (ref15_Where_l8 n m8 l4 out6 (IntKind.wrap .i64 (i7 + 1)) a1 t2_0)) .fail) .fail)) .fail) .fail)
 (.call 48 [] [a1] fun yy2 =>
 .call 37 [] [D.sl out6, D.int ((yy2.getD 0 D.nil).toInt)] fun yy3 =>
 .ret [yy3.getD 0 D.nil, D.int 0]) := by kernel_rfl
theorem ref15_Where_tree (n : Nat) (a0 : D) : evFun Tryz.prog md ref15_Where_orc n 29 [] [a0] =
 .call 34 [] [a0] fun yy1 =>
 .br (((yy1.getD 1 D.nil).toInt) != 0) (.ret [D.agg [D.int 0, D.sl [], D.sl []], D.int ((yy1.getD 1 D.nil).toInt)])
 (.br ((((a0.fld 1).els).length : Int) == 0) (.ret [D.agg [D.int 0, D.sl [], D.sl []], D.int 5])
 (ref15_Where_l8 n n (yy1.getD 0 D.nil) [] 0 a0 0)) := by kernel_rfl

/-! scrim/scrimref17.Compare -/
def ref17_Compare_orc : List (Nat × Orc) := []
theorem ref17_Compare_tree (n : Nat) (x0 : D) (y1 : D) : evFun Tryz.prog md ref17_Compare_orc n 35 [] [x0, y1] =
 .br (((x0.fld 1).toInt) != ((y1.fld 1).toInt)) (.call 73 [] [D.int ((x0.fld 1).toInt), D.int ((y1.fld 1).toInt)] fun yy1 =>
 .ret [D.int ((yy1.getD 0 D.nil).toInt)])
 (.br (((x0.fld 1).toInt) == 0) (.call 74 [] [x0.fld 2, y1.fld 2] fun yy2 =>
 .ret [D.int ((yy2.getD 0 D.nil).toInt)])
 (.br (((x0.fld 1).toInt) == 1) (.call 73 [] [D.int ((x0.fld 3).toInt), D.int ((y1.fld 3).toInt)] fun yy3 =>
 .ret [D.int ((yy3.getD 0 D.nil).toInt)])
 (.br (decide (0 ≤ 0)) (.br (decide (0 < (((x0.fld 4).els).length : Int))) (.br (decide (0 ≤ 0)) (.br (decide (0 < (((y1.fld 4).els).length : Int))) (.call 75 [] [((x0.fld 4).els).getD (Int.toNat 0) D.nil, ((y1.fld 4).els).getD (Int.toNat 0) D.nil] fun yy4 =>
 .ret [D.int ((yy4.getD 0 D.nil).toInt)]) .fail) .fail) .fail) .fail))) := by kernel_rfl

/-! scrim/scrimref15.axis -/
def ref15_axis_orc : List (Nat × Orc) := []
theorem ref15_axis_tree (n : Nat) (a0 : D) (first1 : D) : evFun Tryz.prog md ref15_axis_orc n 46 [] [a0, first1] =
 .br ((((a0.fld 1).els).length : Int) == 0) (.br first1.toBool (.ret [D.agg [D.int ((a0.fld 0).toInt), D.sl [D.int 1], a0.fld 2], D.int 0])
 (.ret [D.agg [D.int ((a0.fld 0).toInt), D.sl [D.int 1], a0.fld 2], D.int (IntKind.wrap .i64 (([D.int 1].length : Int) - 1))]))
 (.br first1.toBool (.ret [a0, D.int 0])
 (.ret [a0, D.int (IntKind.wrap .i64 ((((a0.fld 1).els).length : Int) - 1))])) := by kernel_rfl

/-! scrim/scrimref15.chosen -/
def ref15_chosen_orc : List (Nat × Orc) := [(8, ⟨[(1, none), (2, some 23), (4, none), (8, none), (14, none), (15, some 90), (16, none)], [(4, true), (8, false), (14, false)], [(.fld 14 [2], 1080, 68)]⟩)]
def ref15_chosen_ps : List Nat := [26, 3, 23, 22]
def ref15_chosen_rs : List ResultVar := [.cell 8 26, .tmp 9]
def ref15_chosen_ts : List Nat := [26, 3]
noncomputable def ref15_chosen_l8 (n m8 : Nat) (x1 : Int) (l2 : D) (p15 : D) (i16 : Int) (a4 : D) (t8_0 : Int) (out14_0 : Int) (out14_1 : D) (out14_2 : List D) : Tree :=
  evLoop Tryz.prog md (ev Tryz.prog md n ref15_chosen_orc (cAt (bodyOf Tryz.prog 47) [1, 1, 1, 1, 1, 1, 0, 1, 0, 0])) (orcAt ref15_chosen_orc 8) m8 ⟨[.undef, .i .i64 x1, .d 23 l2, .undef, .ptr 4 [], .undef, .undef, .undef, .ptr 8 [], .undef, .undef, .undef, .undef, .undef, .ptr 14 [], .d 90 p15, .i .i64 i16, .undef, .undef, .undef, .undef, .undef, .undef, .undef, .undef, .undef, .undef, .undef, .undef, .undef, .undef, .undef, .undef, .undef, .undef, .undef, .undef, .undef, .undef, .undef, .undef, .undef, .undef, .undef, .undef, .undef, .undef, .undef, .undef, .undef, .undef, .undef, .undef, .undef, .undef, .undef, .undef, .undef, .undef, .undef, .undef, .undef, .undef, .undef, .undef, .undef, .undef, .undef, .undef, .undef, .undef, .undef, .undef, .undef, .undef, .undef, .undef, .undef, .undef, .undef, .undef, .undef, .undef, .undef, .undef, .undef, .undef, .undef, .undef, .undef, .undef, .undef, .undef, .undef, .undef], [(4, .var 26 (.d 26 a4) true), (8, .var 26 (.agg 26 [.i .u64 t8_0, .mt, .mt]) true), (14, .var 26 (.agg 26 [.i .u64 out14_0, .d 23 out14_1, .row 1080]) true), (1080, .row 68 out14_2 true)], [4, 8, 14, 1080], [], []⟩
   (blockK 0 (seqK (joinE Tryz.prog md (joinAt ref15_chosen_orc (cAt (bodyOf Tryz.prog 47) [1, 1, 1, 1, 1, 1, 1])) (ev Tryz.prog md n ref15_chosen_orc (cAt (bodyOf Tryz.prog 47) [1, 1, 1, 1, 1, 1, 1]))) (retK Tryz.prog md (md 47) ref15_chosen_ps ref15_chosen_rs ref15_chosen_ts)))
theorem ref15_chosen_l8_succ (n m8 : Nat) (x1 : Int) (l2 : D) (p15 : D) (i16 : Int) (a4 : D) (t8_0 : Int) (out14_0 : Int) (out14_1 : D) (out14_2 : List D) : ref15_chosen_l8 n (m8 + 1) x1 l2 p15 i16 a4 t8_0 out14_0 out14_1 out14_2 =
 .br (decide (i16 < (p15.els.length : Int))) (.br (decide (0 ≤ i16)) (.br (decide (i16 < (p15.els.length : Int))) (.br (decide (0 ≤ x1)) (.br (decide (x1 < (((p15.els.getD (Int.toNat i16) D.nil).els).length : Int))) (.br (decide (0 ≤ (((p15.els.getD (Int.toNat i16) D.nil).els).getD (Int.toNat x1) D.nil).toInt)) (.br (decide ((((p15.els.getD (Int.toNat i16) D.nil).els).getD (Int.toNat x1) D.nil).toInt < (l2.els.length : Int))) (.br (decide (((l2.els.getD (Int.toNat ((((p15.els.getD (Int.toNat i16) D.nil).els).getD (Int.toNat x1) D.nil).toInt)) D.nil).toInt) < 0)) (.call 90 [] [a4] fun yy5 =>
 .br (decide (out14_2.length + [yy5.getD 0 D.nil].length ≤ bigN)) (ref15_chosen_l8 n m8 x1 l2 p15 (IntKind.wrap .i64 (i16 + 1)) a4 t8_0 out14_0 out14_1 (out14_2 ++ [yy5.getD 0 D.nil])) .fail)
 (.br (decide (0 ≤ i16)) (.br (decide (i16 < (p15.els.length : Int))) (.call 88 [] [p15.els.getD (Int.toNat i16) D.nil, D.int x1, D.int ((l2.els.getD (Int.toNat ((((p15.els.getD (Int.toNat i16) D.nil).els).getD (Int.toNat x1) D.nil).toInt)) D.nil).toInt)] fun yy6 =>
 .call 60 [] [a4.fld 1, yy6.getD 0 D.nil] fun yy7 =>
 .br (decide (0 ≤ (yy7.getD 0 D.nil).toInt)) (.br (decide ((yy7.getD 0 D.nil).toInt < (((a4.fld 2).els).length : Int))) (.br (decide (out14_2.length + [((a4.fld 2).els).getD (Int.toNat ((yy7.getD 0 D.nil).toInt)) D.nil].length ≤ bigN)) (ref15_chosen_l8 n m8 x1 l2 p15 (IntKind.wrap .i64 (i16 + 1)) a4 t8_0 out14_0 out14_1 (out14_2 ++ [((a4.fld 2).els).getD (Int.toNat ((yy7.getD 0 D.nil).toInt)) D.nil])) .fail) .fail) .fail) .fail) .fail)) .fail) .fail) .fail) .fail) .fail) .fail)
 (.ret [D.agg [D.int out14_0, out14_1, D.sl out14_2], D.int 0]) := by kernel_rfl
theorem ref15_chosen_tree (n : Nat) (a0 : D) (x1 : D) (l2 : D) (more3 : D) : evFun Tryz.prog md ref15_chosen_orc n 47 [] [a0, x1, l2, more3] =
 .call 88 [] [a0.fld 1, D.int x1.toInt, D.int (l2.els.length : Int)] fun yy1 =>
 .call 49 [] [yy1.getD 0 D.nil] fun yy2 =>
 .br (((yy2.getD 1 D.nil).toInt) != 0) (.ret [D.agg [D.int 0, D.sl [], D.sl []], D.int ((yy2.getD 1 D.nil).toInt)])
 (.call 55 [] [D.int ((a0.fld 0).toInt), D.int more3.toInt] fun yy3 =>
 .call 89 [] [yy1.getD 0 D.nil] fun yy4 =>
 ref15_chosen_l8 n n x1.toInt l2 (yy4.getD 0 D.nil) 0 a0 0 ((yy3.getD 0 D.nil).toInt) (yy1.getD 0 D.nil) []) := by kernel_rfl

/-! scrim/scrimref17.ints -/
def ref17_ints_orc : List (Nat × Orc) := []
theorem ref17_ints_tree (n : Nat) (a0 : D) (b1 : D) : evFun Tryz.prog md ref17_ints_orc n 73 [] [a0, b1] =
 .br (decide (a0.toInt < b1.toInt)) (.ret [D.int (-1)])
 (.br (decide (b1.toInt < a0.toInt)) (.ret [D.int 1])
 (.ret [D.int 0])) := by kernel_rfl

/-! scrim/scrimref17.Arrays -/
def ref17_Arrays_orc : List (Nat × Orc) := [(4, ⟨[(2, none), (3, none), (5, none)], [(2, true), (3, true)], []⟩), (9, ⟨[(2, none), (3, none), (6, none)], [(2, true), (3, true)], []⟩)]
def ref17_Arrays_ps : List Nat := [26, 26]
def ref17_Arrays_rs : List ResultVar := [.tmp 4]
def ref17_Arrays_ts : List Nat := [3]
noncomputable def ref17_Arrays_l9 (n m9 : Nat) (i6 : Int) (a2 : D) (b3 : D) : Tree :=
  evLoop Tryz.prog md (ev Tryz.prog md n ref17_Arrays_orc (cAt (bodyOf Tryz.prog 75) [1, 1, 1, 0, 1, 0, 0])) (orcAt ref17_Arrays_orc 9) m9 ⟨[.undef, .undef, .ptr 2 [], .ptr 3 [], .undef, .undef, .i .i64 i6, .undef, .undef, .undef, .undef, .undef, .undef, .undef, .undef, .undef, .undef, .undef, .undef, .undef, .undef, .undef, .undef, .undef, .undef, .undef, .undef, .undef, .undef, .undef, .undef, .undef, .undef, .undef, .undef, .undef, .undef, .undef, .undef, .undef, .undef, .undef, .undef, .undef, .undef, .undef, .undef, .undef, .undef, .undef, .undef, .undef, .undef, .undef, .undef, .undef, .undef, .undef, .undef, .undef, .undef, .undef, .undef, .undef, .undef, .undef, .undef, .undef, .undef, .undef, .undef, .undef], [(2, .var 26 (.d 26 a2) true), (3, .var 26 (.d 26 b3) true)], [2, 3], [], []⟩
   (blockK 2 (seqK (joinE Tryz.prog md (joinAt ref17_Arrays_orc (cAt (bodyOf Tryz.prog 75) [1, 1, 1, 1])) (ev Tryz.prog md n ref17_Arrays_orc (cAt (bodyOf Tryz.prog 75) [1, 1, 1, 1]))) (retK Tryz.prog md (md 75) ref17_Arrays_ps ref17_Arrays_rs ref17_Arrays_ts)))
noncomputable def ref17_Arrays_l4 (n m4 : Nat) (i5 : Int) (a2 : D) (b3 : D) : Tree :=
  evLoop Tryz.prog md (ev Tryz.prog md n ref17_Arrays_orc (cAt (bodyOf Tryz.prog 75) [1, 1, 0, 1, 0, 0])) (orcAt ref17_Arrays_orc 4) m4 ⟨[.undef, .undef, .ptr 2 [], .ptr 3 [], .undef, .i .i64 i5, .undef, .undef, .undef, .undef, .undef, .undef, .undef, .undef, .undef, .undef, .undef, .undef, .undef, .undef, .undef, .undef, .undef, .undef, .undef, .undef, .undef, .undef, .undef, .undef, .undef, .undef, .undef, .undef, .undef, .undef, .undef, .undef, .undef, .undef, .undef, .undef, .undef, .undef, .undef, .undef, .undef, .undef, .undef, .undef, .undef, .undef, .undef, .undef, .undef, .undef, .undef, .undef, .undef, .undef, .undef, .undef, .undef, .undef, .undef, .undef, .undef, .undef, .undef, .undef, .undef, .undef], [(2, .var 26 (.d 26 a2) true), (3, .var 26 (.d 26 b3) true)], [2, 3], [], []⟩
   (blockK 0 (seqK (joinE Tryz.prog md (joinAt ref17_Arrays_orc (cAt (bodyOf Tryz.prog 75) [1, 1, 1])) (ev Tryz.prog md n ref17_Arrays_orc (cAt (bodyOf Tryz.prog 75) [1, 1, 1]))) (retK Tryz.prog md (md 75) ref17_Arrays_ps ref17_Arrays_rs ref17_Arrays_ts)))
theorem ref17_Arrays_l9_succ (n m9 : Nat) (i6 : Int) (a2 : D) (b3 : D) : ref17_Arrays_l9 n (m9 + 1) i6 a2 b3 =
 .br (decide (i6 < (((a2.fld 2).els).length : Int))) (.br (decide (0 ≤ i6)) (.br (decide (i6 < (((a2.fld 2).els).length : Int))) (.br (decide (0 ≤ i6)) (.br (decide (i6 < (((b3.fld 2).els).length : Int))) (.call 35 [] [((a2.fld 2).els).getD (Int.toNat i6) D.nil, ((b3.fld 2).els).getD (Int.toNat i6) D.nil] fun yy3 =>
 .br (((yy3.getD 0 D.nil).toInt) != 0) (.ret [D.int ((yy3.getD 0 D.nil).toInt)])
 (ref17_Arrays_l9 n m9 (IntKind.wrap .i64 (i6 + 1)) a2 b3)) .fail) .fail) .fail) .fail)
 (.ret [D.int 0]) := by kernel_rfl
theorem ref17_Arrays_l4_succ (n m4 : Nat) (i5 : Int) (a2 : D) (b3 : D) : ref17_Arrays_l4 n (m4 + 1) i5 a2 b3 =
 .br (decide (i5 < (((a2.fld 1).els).length : Int))) (.br (decide (0 ≤ i5)) (.br (decide (i5 < (((a2.fld 1).els).length : Int))) (.br (decide (0 ≤ i5)) (.br (decide (i5 < (((b3.fld 1).els).length : Int))) (.br (((((a2.fld 1).els).getD (Int.toNat i5) D.nil).toInt) != ((((b3.fld 1).els).getD (Int.toNat i5) D.nil).toInt)) (.br (decide (0 ≤ i5)) (.br (decide (i5 < (((a2.fld 1).els).length : Int))) (.br (decide (0 ≤ i5)) (.br (decide (i5 < (((b3.fld 1).els).length : Int))) (.call 73 [] [D.int ((((a2.fld 1).els).getD (Int.toNat i5) D.nil).toInt), D.int ((((b3.fld 1).els).getD (Int.toNat i5) D.nil).toInt)] fun yy2 =>
 .ret [D.int ((yy2.getD 0 D.nil).toInt)]) .fail) .fail) .fail) .fail)
 (ref17_Arrays_l4 n m4 (IntKind.wrap .i64 (i5 + 1)) a2 b3)) .fail) .fail) .fail) .fail)
 (ref17_Arrays_l9 n n 0 a2 b3) := by kernel_rfl
theorem ref17_Arrays_tree (n : Nat) (a0 : D) (b1 : D) : evFun Tryz.prog md ref17_Arrays_orc n 75 [] [a0, b1] =
 .br ((((a0.fld 1).els).length : Int) != (((b1.fld 1).els).length : Int)) (.call 73 [] [D.int (((a0.fld 1).els).length : Int), D.int (((b1.fld 1).els).length : Int)] fun yy1 =>
 .ret [D.int ((yy1.getD 0 D.nil).toInt)])
 (ref17_Arrays_l4 n n 0 a0 b1) := by kernel_rfl

end Go.Proofs.YtbgcadcpeabpgaaGreat
set_option maxRecDepth 100000
namespace Go.Proofs.YtbgcadcpeabpgaaGreat

/-! A row: any two stand one way, turned round the other way, and it goes on. -/
structure Row {α : Type} (S : α → Prop) (f : α → α → Int) : Prop where
  val : ∀ x y, S x → S y → f x y = -1 ∨ f x y = 0 ∨ f x y = 1
  flip : ∀ x y, S x → S y → f y x = - f x y
  go : ∀ x y z, S x → S y → S z → f x y ≤ 0 → f y z ≤ 0 → f x z ≤ 0
section
variable {α : Type} {S : α → Prop} {f g : α → α → Int}
theorem Row.self (h : Row S f) {x : α} (hx : S x) : f x x = 0 := by have := h.flip x x hx hx; omega
theorem Row.two (h : Row S f) {x y z : α} (hx : S x) (hy : S y) (hz : S z) (h1 : f x y ≤ 0) (h2 : f y z ≤ 0) (h3 : f x z = 0) : f x y = 0 ∧ f y z = 0 := by
  have a1 := h.flip x z hx hz
  have a2 := h.flip x y hx hy
  have a3 := h.flip y z hy hz
  have b1 := h.go y z x hy hz hx h2 (by omega)
  have b2 := h.go z x y hz hx hy (by omega) h1
  omega
theorem Row.mono {T : α → Prop} (h : Row S f) (hs : ∀ x, T x → S x) : Row T f := ⟨fun x y hx hy => h.val x y (hs x hx) (hs y hy), fun x y hx hy => h.flip x y (hs x hx) (hs y hy), fun x y z hx hy hz => h.go x y z (hs x hx) (hs y hy) (hs z hz)⟩
theorem Row.congr (h : Row S f) (e : ∀ x y, S x → S y → g x y = f x y) : Row S g := ⟨fun x y hx hy => by rw [e x y hx hy]; exact h.val x y hx hy, fun x y hx hy => by rw [e x y hx hy, e y x hy hx]; exact h.flip x y hx hy, fun x y z hx hy hz => by rw [e x y hx hy, e y z hy hz, e x z hx hz]; exact h.go x y z hx hy hz⟩
theorem Row.lex (hf : Row S f) (hg : ∀ x, S x → Row (fun y => S y ∧ f x y = 0) g) : Row S (fun x y => if f x y ≠ 0 then f x y else g x y) where
  val x y hx hy := by
    split
    · exact hf.val x y hx hy
    · rename_i h; exact (hg x hx).val x y ⟨hx, hf.self hx⟩ ⟨hy, Classical.not_not.1 h⟩
  flip x y hx hy := by
    have a := hf.flip x y hx hy
    by_cases h : f x y = 0
    · rw [if_neg (by omega), if_neg (by omega)]
      exact (hg x hx).flip x y ⟨hx, hf.self hx⟩ ⟨hy, h⟩
    · rw [if_pos (by omega), if_pos (by omega)]; exact a
  go x y z hx hy hz h1 h2 := by
    have p1 : f x y ≤ 0 := by
      by_cases h : f x y = 0
      · omega
      · rw [if_pos h] at h1; exact h1
    have p2 : f y z ≤ 0 := by
      by_cases h : f y z = 0
      · omega
      · rw [if_pos h] at h2; exact h2
    have p3 := hf.go x y z hx hy hz p1 p2
    by_cases h : f x z = 0
    · obtain ⟨q1, q2⟩ := hf.two hx hy hz p1 p2 h
      rw [if_neg (by omega)] at h1 h2 ⊢
      exact (hg x hx).go x y z ⟨hx, hf.self hx⟩ ⟨hy, q1⟩ ⟨hz, h⟩ h1 h2
    · rw [if_pos h]; exact p3
def lexG (f : α → α → Int) : List (α × α) → Int
  | [] => 0
  | (x, y) :: r => if f x y ≠ 0 then f x y else lexG f r
theorem lexG_val (h : Row S f) : ∀ (l m : List α), (∀ x ∈ l, S x) → (∀ x ∈ m, S x) → lexG f (l.zip m) = -1 ∨ lexG f (l.zip m) = 0 ∨ lexG f (l.zip m) = 1
  | [], _, _, _ => .inr (.inl rfl)
  | _ :: _, [], _, _ => .inr (.inl rfl)
  | x :: xs, y :: ys, hl, hm => by
    simp only [List.zip_cons_cons, lexG]
    split
    · exact h.val x y (hl x (by simp)) (hm y (by simp))
    · exact lexG_val h xs ys (fun z hz => hl z (by simp [hz])) (fun z hz => hm z (by simp [hz]))
theorem lexG_flip (h : Row S f) : ∀ (l m : List α), (∀ x ∈ l, S x) → (∀ x ∈ m, S x) → lexG f (m.zip l) = - lexG f (l.zip m)
  | [], [], _, _ => rfl
  | [], _ :: _, _, _ => rfl
  | _ :: _, [], _, _ => rfl
  | x :: xs, y :: ys, hl, hm => by
    have a := h.flip x y (hl x (by simp)) (hm y (by simp))
    have b := lexG_flip h xs ys (fun z hz => hl z (by simp [hz])) (fun z hz => hm z (by simp [hz]))
    simp only [List.zip_cons_cons, lexG]
    by_cases hh : f x y = 0
    · rw [if_neg (by omega), if_neg (by omega)]; exact b
    · rw [if_pos (by omega), if_pos (by omega)]; exact a
theorem lexG_go (h : Row S f) : ∀ (l m k : List α), l.length = m.length → m.length = k.length → (∀ x ∈ l, S x) → (∀ x ∈ m, S x) → (∀ x ∈ k, S x) → lexG f (l.zip m) ≤ 0 → lexG f (m.zip k) ≤ 0 → lexG f (l.zip k) ≤ 0
  | [], _, _, _, _, _, _, _, _, _ => by simp [lexG]
  | x :: xs, [], _, e, _, _, _, _, _, _ => by simp at e
  | x :: xs, y :: ys, [], _, e, _, _, _, _, _ => by simp at e
  | x :: xs, y :: ys, z :: zs, e1, e2, hl, hm, hk, h1, h2 => by
    simp only [List.zip_cons_cons, lexG] at h1 h2 ⊢
    have hx := hl x (by simp)
    have hy := hm y (by simp)
    have hz := hk z (by simp)
    have p1 : f x y ≤ 0 := by
      by_cases h : f x y = 0
      · omega
      · rw [if_pos h] at h1; exact h1
    have p2 : f y z ≤ 0 := by
      by_cases h : f y z = 0
      · omega
      · rw [if_pos h] at h2; exact h2
    have p3 := h.go x y z hx hy hz p1 p2
    by_cases hh : f x z = 0
    · obtain ⟨q1, q2⟩ := h.two hx hy hz p1 p2 hh
      rw [if_neg (by omega)] at h1 h2 ⊢
      exact lexG_go h xs ys zs (by simpa using e1) (by simpa using e2) (fun z hz => hl z (by simp [hz])) (fun z hz => hm z (by simp [hz])) (fun z hz => hk z (by simp [hz])) h1 h2
    · rw [if_pos hh]; exact p3
theorem Row.list (h : Row S f) (n : Nat) : Row (fun l : List α => l.length = n ∧ ∀ x ∈ l, S x) (fun l m => lexG f (l.zip m)) :=
  ⟨fun l m hl hm => lexG_val h l m hl.2 hm.2, fun l m hl hm => lexG_flip h l m hl.2 hm.2, fun l m k hl hm hk => lexG_go h l m k (hl.1.trans hm.1.symm) (hm.1.trans hk.1.symm) hl.2 hm.2 hk.2⟩
theorem lexG_zero {β : Type} {r : α → β} (h0 : ∀ x y, S x → S y → (f x y = 0 ↔ r x = r y)) : ∀ (l m : List α), l.length = m.length → (∀ x ∈ l, S x) → (∀ x ∈ m, S x) → (lexG f (l.zip m) = 0 ↔ l.map r = m.map r)
  | [], [], _, _, _ => by simp [lexG]
  | [], _ :: _, e, _, _ => by simp at e
  | _ :: _, [], e, _, _ => by simp at e
  | x :: xs, y :: ys, e, hl, hm => by
    have a := h0 x y (hl x (by simp)) (hm y (by simp))
    have b := lexG_zero h0 xs ys (by simpa using e) (fun z hz => hl z (by simp [hz])) (fun z hz => hm z (by simp [hz]))
    simp only [List.zip_cons_cons, lexG, List.map_cons, List.cons.injEq]
    by_cases hh : f x y = 0
    · rw [if_neg (by omega), b]
      exact ⟨fun h => ⟨a.1 hh, h⟩, fun h => h.2⟩
    · rw [if_pos hh]
      exact ⟨fun h => absurd h hh, fun h => absurd (a.2 h.1) hh⟩
end
theorem cmpZ_cases (x y : Int) : (cmpZ x y = -1 ∧ x < y) ∨ (cmpZ x y = 0 ∧ x = y) ∨ (cmpZ x y = 1 ∧ y < x) := by
  unfold cmpZ
  split
  · exact .inl ⟨rfl, by assumption⟩
  · split
    · exact .inr (.inl ⟨rfl, by assumption⟩)
    · exact .inr (.inr ⟨rfl, by omega⟩)
theorem cmpZ_zero {x y : Int} : cmpZ x y = 0 ↔ x = y := by rcases cmpZ_cases x y with ⟨h, h'⟩ | ⟨h, h'⟩ | ⟨h, h'⟩ <;> omega
theorem row_key {α : Type} {S : α → Prop} (k : α → Int) : Row S (fun x y => cmpZ (k x) (k y)) :=
  ⟨fun x y _ _ => by rcases cmpZ_cases (k x) (k y) with h | h | h <;> simp [h.1],
   fun x y _ _ => by rcases cmpZ_cases (k x) (k y) with h | h | h <;> rcases cmpZ_cases (k y) (k x) with h' | h' | h' <;> omega,
   fun x y z _ _ _ h1 h2 => by rcases cmpZ_cases (k x) (k y) with h | h | h <;> rcases cmpZ_cases (k y) (k z) with h' | h' | h' <;> rcases cmpZ_cases (k x) (k z) with h'' | h'' | h'' <;> omega⟩

/-! Cells and arrays. -/
def cmpCf (r : Arr → Arr → Int) (x y : Cell) : Int := if cmpZ x.kind y.kind ≠ 0 then cmpZ x.kind y.kind else if x.kind = 0 then cmpR x.n y.n else if x.kind = 1 then cmpZ x.c y.c else r (x.inn.headD .none) (y.inn.headD .none)
def shR (a b : Arr) : Int := if cmpZ a.shape.length b.shape.length ≠ 0 then cmpZ a.shape.length b.shape.length else lexG cmpZ (a.shape.zip b.shape)
def cmpA : Nat → Arr → Arr → Int
  | 0, _, _ => 0
  | d + 1, a, b => if shR a b ≠ 0 then shR a b else lexG (cmpCf (cmpA d)) (a.cells.zip b.cells)
def cmpC (d : Nat) : Cell → Cell → Int := cmpCf (cmpA d)
theorem cmpA_succ (d : Nat) (a b : Arr) : cmpA (d + 1) a b = if shR a b ≠ 0 then shR a b else lexG (cmpC d) (a.cells.zip b.cells) := rfl
theorem rightC_cases {d : Nat} {c : Cell} (h : rightC d c = true) : (c.kind = 0 ∧ c.c = 0 ∧ c.inn = [] ∧ rightN c.n = true) ∨ (c.kind = 1 ∧ c.n = .zero ∧ c.inn = []) ∨ (c.kind = 2 ∧ c.n = .zero ∧ c.c = 0 ∧ ∃ e x, d = e + 1 ∧ c.inn = [x] ∧ rightA e x = true) := by
  have hinn := rightC_inn h
  have key : ∀ k r, cellR k r c = true → (c.kind = 0 ∧ c.c = 0 ∧ c.inn = [] ∧ rightN c.n = true) ∨ (c.kind = 1 ∧ c.n = .zero ∧ c.inn = []) ∨ (c.kind = 2 ∧ c.n = .zero ∧ c.c = 0 ∧ ∃ x, c.inn = [x]) := by
    intro k r h
    unfold cellR at h
    split at h
    · simp only [Bool.and_eq_true, decide_eq_true_eq] at h
      exact .inl ⟨by assumption, h.1.1, List.length_eq_zero_iff.1 h.1.2, h.2⟩
    split at h
    · simp only [Bool.and_eq_true, decide_eq_true_eq] at h
      exact .inr (.inl ⟨by assumption, h.1.1, List.length_eq_zero_iff.1 h.1.2⟩)
    · simp only [Bool.and_eq_true, decide_eq_true_eq] at h
      have hb := h.2.2
      unfold boxOK at hb
      split at hb
      · rename_i hi; exact .inr (.inr ⟨h.1.1, h.1.2.1, h.1.2.2, _, hi⟩)
      · cases hb
  have h2 : (c.kind = 0 ∧ c.c = 0 ∧ c.inn = [] ∧ rightN c.n = true) ∨ (c.kind = 1 ∧ c.n = .zero ∧ c.inn = []) ∨ (c.kind = 2 ∧ c.n = .zero ∧ c.c = 0 ∧ ∃ x, c.inn = [x]) := by
    cases d with
    | zero => exact key _ _ h
    | succ d => exact key _ _ h
  rcases h2 with h2 | h2 | ⟨h1, h2, h3, x, h4⟩
  · exact .inl h2
  · exact .inr (.inl h2)
  · obtain ⟨e, he, _, hr, _⟩ := hinn x (by rw [h4]; simp)
    exact .inr (.inr ⟨h1, h2, h3, e, x, he, h4, hr⟩)
theorem row_num : Row (fun x : Cell => rightN x.n = true) (fun x y => cmpR x.n y.n) := by
  refine ⟨fun x y _ _ => ?_, fun x y _ _ => ?_, fun x y z hx hy hz => ?_⟩
  · have := cmpZ_cases (numT x.n * numB y.n) (numT y.n * numB x.n); unfold cmpR; omega
  · have := cmpZ_cases (numT x.n * numB y.n) (numT y.n * numB x.n)
    have := cmpZ_cases (numT y.n * numB x.n) (numT x.n * numB y.n); unfold cmpR; omega
  · obtain ⟨a, p, ra⟩ := rn_of hx
    obtain ⟨b, q, rb⟩ := rn_of hy
    obtain ⟨c, r, rc⟩ := rn_of hz
    unfold cmpR
    rw [ra.top, ra.bot, rb.top, rb.bot, rc.top, rc.bot]
    have p0 : (0 : Int) < p := by have := ra.d0; omega
    have q0 : (0 : Int) < q := by have := rb.d0; omega
    have r0 : (0 : Int) < r := by have := rc.d0; omega
    intro h1 h2
    have g1 : a * q ≤ b * p := by rcases cmpZ_cases (a * q) (b * p) with h | h | h <;> omega
    have g2 : b * r ≤ c * q := by rcases cmpZ_cases (b * r) (c * q) with h | h | h <;> omega
    have g3 : a * r ≤ c * p := by
      have e1 : a * q * r ≤ b * p * r := Int.mul_le_mul_of_nonneg_right g1 (by omega)
      have e2 : b * r * p ≤ c * q * p := Int.mul_le_mul_of_nonneg_right g2 (by omega)
      have e3 : (a * r) * q ≤ (c * p) * q := by
        have i1 : a * q * r = a * r * q := by rw [Int.mul_assoc, Int.mul_comm (q : Int) r, ← Int.mul_assoc]
        have i2 : b * p * r = b * r * p := by rw [Int.mul_assoc, Int.mul_comm (p : Int) r, ← Int.mul_assoc]
        have i3 : c * q * p = c * p * q := by rw [Int.mul_assoc, Int.mul_comm (q : Int) p, ← Int.mul_assoc]
        omega
      exact Int.le_of_mul_le_mul_right e3 q0
    rcases cmpZ_cases (a * r) (c * p) with h | h | h <;> omega
theorem num_zero {x y : Num} (hx : rightN x = true) (hy : rightN y = true) : cmpR x y = 0 ↔ x = y := by
  obtain ⟨a, p, ra⟩ := rn_of hx
  obtain ⟨b, q, rb⟩ := rn_of hy
  unfold cmpR
  rw [cmpZ_zero, ra.top, ra.bot, rb.top, rb.bot]
  constructor
  · intro h
    have h1 := mkR_unique (p := a) (q := p) (p' := b) (q' := q) (by have := ra.d0; omega) (by have := rb.d0; omega) h
    rw [ra.self, rb.self] at h1
    exact (Prod.mk.inj h1).1
  · rintro rfl
    have h1 := ra.top.symm.trans rb.top
    have h2 := ra.bot.symm.trans rb.bot
    rw [h1, h2]
theorem row_shape : Row (fun _ : Arr => True) shR := by
  refine Row.lex (f := fun a b : Arr => cmpZ a.shape.length b.shape.length) (row_key fun a : Arr => (a.shape.length : Int)) (fun a _ => ?_)
  have h : Row (fun _ : Int => True) cmpZ := row_key (fun x : Int => x)
  have := h.list a.shape.length
  exact ⟨fun x y hx hy => this.val x.shape y.shape ⟨by have := cmpZ_zero.1 hx.2; omega, fun _ _ => trivial⟩ ⟨by have := cmpZ_zero.1 hy.2; omega, fun _ _ => trivial⟩,
    fun x y hx hy => this.flip x.shape y.shape ⟨by have := cmpZ_zero.1 hx.2; omega, fun _ _ => trivial⟩ ⟨by have := cmpZ_zero.1 hy.2; omega, fun _ _ => trivial⟩,
    fun x y z hx hy hz => this.go x.shape y.shape z.shape ⟨by have := cmpZ_zero.1 hx.2; omega, fun _ _ => trivial⟩ ⟨by have := cmpZ_zero.1 hy.2; omega, fun _ _ => trivial⟩ ⟨by have := cmpZ_zero.1 hz.2; omega, fun _ _ => trivial⟩⟩
theorem shR_zero {a b : Arr} : shR a b = 0 ↔ a.shape = b.shape := by
  unfold shR
  by_cases h : a.shape.length = b.shape.length
  · rw [if_neg (by rw [Ne, cmpZ_zero]; omega)]
    have := lexG_zero (S := fun _ : Int => True) (f := cmpZ) (r := fun x => x) (fun x y _ _ => cmpZ_zero) a.shape b.shape h (fun _ _ => trivial) (fun _ _ => trivial)
    rw [this]; simp
  · rw [if_pos (by rw [Ne, cmpZ_zero]; omega)]
    constructor
    · intro h'; have := cmpZ_zero.1 h'; omega
    · intro h'; rw [h'] at h; exact absurd rfl h
theorem right_same {d : Nat} {a b : Arr} (ha : rightA d a = true) (hb : rightA d b = true) (h : a.shape = b.shape) : a.cells.length = b.cells.length := by
  have h1 := (rightA_cells ha).1
  have h2 := (rightA_cells hb).1
  rw [h, h2] at h1
  have := (Prod.mk.inj h1).1
  omega
theorem row_of_cells {d : Nat} (h : Row (fun x => rightC d x = true) (cmpC d)) : Row (fun a => rightA d a = true) (cmpA (d + 1)) := by
  refine Row.lex (row_shape.mono fun _ _ => trivial) (fun a ha => ?_)
  have := h.list a.cells.length
  have ok : ∀ x, rightA d x = true ∧ shR a x = 0 → x.cells.length = a.cells.length ∧ ∀ c ∈ x.cells, rightC d c = true := fun x hx => ⟨(right_same ha hx.1 (shR_zero.1 hx.2)).symm, (rightA_cells hx.1).2⟩
  exact ⟨fun x y hx hy => this.val _ _ (ok x hx) (ok y hy), fun x y hx hy => this.flip _ _ (ok x hx) (ok y hy), fun x y z hx hy hz => this.go _ _ _ (ok x hx) (ok y hy) (ok z hz)⟩
theorem row_cells_of {d : Nat} (h : ∀ e, d = e + 1 → Row (fun a => rightA e a = true) (cmpA d)) : Row (fun x => rightC d x = true) (cmpC d) := by
  refine Row.lex (f := fun x y : Cell => cmpZ x.kind y.kind) (row_key fun x : Cell => x.kind) (fun x hx => ?_)
  rcases rightC_cases hx with h0 | h0 | ⟨h0, h1, h2, e, x', he, h3, h4⟩
  · have ok : ∀ y : Cell, rightC d y = true ∧ cmpZ x.kind y.kind = 0 → rightN y.n = true ∧ y.kind = 0 := fun y hy => by
      have := cmpZ_zero.1 hy.2
      rcases rightC_cases hy.1 with g | g | g
      · exact ⟨g.2.2.2, g.1⟩
      · omega
      · omega
    exact (row_num.mono (fun y hy => (ok y hy).1)).congr (fun y z hy hz => by rw [if_pos (ok y hy).2])
  · have ok : ∀ y : Cell, rightC d y = true ∧ cmpZ x.kind y.kind = 0 → y.kind = 1 := fun y hy => by have := cmpZ_zero.1 hy.2; omega
    exact (row_key (fun y : Cell => y.c)).congr (fun y z hy hz => by rw [if_neg (by have := ok y hy; omega), if_pos (ok y hy)])
  · subst he
    have ok : ∀ y : Cell, rightC (e + 1) y = true ∧ cmpZ x.kind y.kind = 0 → y.kind = 2 ∧ rightA e (y.inn.headD .none) = true := fun y hy => by
      have := cmpZ_zero.1 hy.2
      rcases rightC_cases hy.1 with g | g | ⟨g0, _, _, e', y', he', h5, h6⟩
      · omega
      · omega
      · have : e' = e := by omega
        subst this
        exact ⟨g0, by rw [h5]; exact h6⟩
    have hr := h e rfl
    have : Row (fun y : Cell => rightC (e + 1) y = true ∧ cmpZ x.kind y.kind = 0) (fun y z => cmpA (e + 1) (y.inn.headD .none) (z.inn.headD .none)) := ⟨fun y z hy hz => hr.val _ _ (ok y hy).2 (ok z hz).2, fun y z hy hz => hr.flip _ _ (ok y hy).2 (ok z hz).2, fun y z w hy hz hw => hr.go _ _ _ (ok y hy).2 (ok z hz).2 (ok w hw).2⟩
    exact this.congr (fun y z hy hz => by rw [if_neg (by have := (ok y hy).1; omega), if_neg (by have := (ok y hy).1; omega)])
theorem row_both : ∀ d : Nat, Row (fun x => rightC d x = true) (cmpC d) ∧ Row (fun a => rightA d a = true) (cmpA (d + 1))
  | 0 => by
    have h := row_cells_of (d := 0) (fun e he => by omega)
    exact ⟨h, row_of_cells h⟩
  | d + 1 => by
    have h := row_cells_of (d := d + 1) (fun e he => by cases he; exact (row_both d).2)
    exact ⟨h, row_of_cells h⟩
abbrev rel0 (x : Cell) : Cell := relC (fun _ => 0) x
theorem zero_of_cells {d : Nat} (h : ∀ x y : Cell, rightC d x = true → rightC d y = true → (cmpC d x y = 0 ↔ rel0 x = rel0 y)) (a b : Arr) (ha : rightA d a = true) (hb : rightA d b = true) : cmpA (d + 1) a b = 0 ↔ eraA a = eraA b := by
  rw [cmpA_succ, show (eraA a = eraA b) ↔ (a.shape = b.shape ∧ a.cells.map rel0 = b.cells.map rel0) by unfold eraA; rw [relA_eq, relA_eq, arr_eq]; exact ⟨fun h => ⟨h.2.1, h.2.2⟩, fun h => ⟨rfl, h.1, h.2⟩⟩]
  by_cases hs : shR a b = 0
  · rw [if_neg (by omega)]
    have hs' := shR_zero.1 hs
    rw [lexG_zero (S := fun x => rightC d x = true) (r := rel0) h a.cells b.cells (right_same ha hb hs') (rightA_cells ha).2 (rightA_cells hb).2]
    exact ⟨fun h => ⟨hs', h⟩, fun h => h.2⟩
  · rw [if_pos hs]
    exact ⟨fun h => absurd h hs, fun h => absurd (shR_zero.2 h.1) hs⟩
theorem cell_eq2 {c d : Cell} (h1 : c.l = d.l) (h2 : c.kind = d.kind) (h3 : c.n = d.n) (h4 : c.c = d.c) (h5 : c.inn = d.inn) : c = d := by cases c; cases d; simp_all
theorem rel0_iff {x y : Cell} : rel0 x = rel0 y ↔ x.kind = y.kind ∧ x.n = y.n ∧ x.c = y.c ∧ x.inn.map eraA = y.inn.map eraA := by
  unfold rel0
  rw [relC_eq, relC_eq]
  constructor
  · intro h
    have h1 := congrArg (fun c : Cell => c.kind) h
    have h2 := congrArg (fun c : Cell => c.n) h
    have h3 := congrArg (fun c : Cell => c.c) h
    have h4 := congrArg (fun c : Cell => c.inn) h
    exact ⟨h1, h2, h3, h4⟩
  · rintro ⟨h1, h2, h3, h4⟩
    exact cell_eq2 rfl h1 h2 h3 h4
theorem zero_cells_of {d : Nat} (h : ∀ e, d = e + 1 → ∀ a b : Arr, rightA e a = true → rightA e b = true → (cmpA d a b = 0 ↔ eraA a = eraA b)) (x y : Cell) (hx : rightC d x = true) (hy : rightC d y = true) : cmpC d x y = 0 ↔ rel0 x = rel0 y := by
  rw [rel0_iff]
  unfold cmpC cmpCf
  by_cases hk : x.kind = y.kind
  · rw [if_neg (by rw [Ne, cmpZ_zero]; omega)]
    rcases rightC_cases hx with h0 | h0 | ⟨h0, h1, h2, e, x', he, h3, h4⟩ <;> rcases rightC_cases hy with g0 | g0 | ⟨g0, g1, g2, e', y', he', g3, g4⟩
    · rw [if_pos h0.1, num_zero h0.2.2.2 g0.2.2.2, h0.2.1, g0.2.1, h0.2.2.1, g0.2.2.1]; simp [hk]
    · omega
    · omega
    · omega
    · rw [if_neg (by omega), if_pos h0.1, cmpZ_zero, h0.2.1, g0.2.1, h0.2.2, g0.2.2]; simp [hk]
    · omega
    · omega
    · omega
    · subst he
      have : e' = e := by omega
      subst this
      rw [if_neg (by omega), if_neg (by omega), h3, g3, h1, g1, h2, g2]
      have := h _ rfl x' y' h4 g4
      simp [hk, this]
  · rw [if_pos (by rw [Ne, cmpZ_zero]; exact hk)]
    exact ⟨fun h => absurd (cmpZ_zero.1 h) hk, fun h => absurd h.1 hk⟩
theorem zero_both : ∀ d : Nat, (∀ x y : Cell, rightC d x = true → rightC d y = true → (cmpC d x y = 0 ↔ rel0 x = rel0 y)) ∧ ∀ a b : Arr, rightA d a = true → rightA d b = true → (cmpA (d + 1) a b = 0 ↔ eraA a = eraA b)
  | 0 => by
    have h := zero_cells_of (d := 0) (fun e he => by omega)
    exact ⟨h, zero_of_cells h⟩
  | d + 1 => by
    have h := zero_cells_of (d := d + 1) (fun e he => by cases he; exact (zero_both d).2)
    exact ⟨h, zero_of_cells h⟩

/-! The walk. -/
theorem isNaN_sp (x : Int) : Sp 140 [.int x] [.bool false] := sound_ 0 (cmp_isNaN_int_tree _ _) (wp_ret (by simp))
theorem cmpInt_sp (x y : Int) : Sp 111 [.int x, .int y] [.int (cmpZ x y)] := by
  refine sound_ 0 (cmp_Compare_int_tree _ _ _) (wp_call (isNaN_sp x) (wp_call (isNaN_sp y) (wp_ff rfl (wp_ff rfl ?_))))
  simp only [toInt_int]
  refine wp_decs (fun h => wp_ret (by unfold cmpZ; rw [if_pos h])) (fun h => wp_decs (fun h' => wp_ret (by unfold cmpZ; rw [if_neg h, if_neg (by omega)])) (fun h' => wp_ret (by unfold cmpZ; rw [if_neg h, if_pos (by omega)])))
theorem ref17_ints_sp (x y : Int) : Sp 73 [.int x, .int y] [.int (cmpZ x y)] := by
  refine sound_ 0 (ref17_ints_tree _ _ _) ?_
  simp only [toInt_int]
  refine wp_decs (fun h => wp_ret (by unfold cmpZ; rw [if_pos h])) (fun h => wp_decs (fun h' => wp_ret (by unfold cmpZ; rw [if_neg h, if_neg (by omega)])) (fun h' => wp_ret (by unfold cmpZ; rw [if_neg h, if_pos (by omega)])))
theorem zip_at {α β : Type} {l : List α} {m : List β} {k : Nat} {x : α} {y : β} (h : (l.zip m)[k]? = some (x, y)) : l[k]? = some x ∧ m[k]? = some y := by
  rw [List.getElem?_zip_eq_some] at h; exact h
theorem lt_of_at {α : Type} {l : List α} {k : Nat} {x : α} (h : l[k]? = some x) : k < l.length := (List.getElem?_eq_some_iff.1 h).1
theorem slices_Compare_sp (l m : List Int) (hl : l.length ≤ 1048576) (e : l.length = m.length) : Sp 144 [dI l, dI m] [.int (lexG cmpZ (l.zip m))] := by
  refine sound_ 1048577 (slices_Compare_int_int_tree _ _ _) ?_
  have hz : (l.zip m).length = l.length := by simp [List.length_zip, e]
  have key := loop_list (P := Tryz.prog) (md := md) (l.zip m) (fun q k (_ : Unit) => slices_Compare_int_int_l2 1048577 q (dI l) (dI m) (dI l) (l.length : Int) (k : Int)) (fun rest _ => [.int (lexG cmpZ rest)]) (fun _ _ => True)
    (fun q k s hk _ => by
      simp only [slices_Compare_int_int_l2_succ, els_dI, List.length_map]
      exact wp_ndec (by omega) (wp_ndec (by omega) (wp_ret rfl)))
    (fun q k s p rest hd _ ih => by
      obtain ⟨h1, h2, h3⟩ := drop_cons hd
      obtain ⟨x, y⟩ := p
      obtain ⟨g1, g2⟩ := zip_at h2
      have l1 := lt_of_at g1
      simp only [slices_Compare_int_int_l2_succ, els_dI, List.length_map, Int.toNat_natCast, getD_map g1, getD_map g2, toInt_int, wrap_succ (show k < 9223372036854775807 by omega)]
      refine wp_dec (by omega) (wp_dec (by omega) (wp_dec (by omega) (wp_ndec (by omega) (wp_dec (by omega) (wp_dec (by omega) (wp_call (cmpInt_sp x y) ?_))))))
      simp only [getD_c0, toInt_int, int_bne, lexG]
      exact wp_decs (fun h => wp_ret (by rw [if_pos h])) (fun h => by rw [if_neg h]; exact ih () trivial))
    1048577 0 () (by omega) (by omega) trivial
  simp only [els_dI, List.length_map]
  exact key
theorem smN_right {n : Num} (h : rightN n = true) : SmN n := ⟨by have := (rightN_len h).1; omega, by have := (rightN_len h).2; omega⟩
theorem arrays_of {d : Nat} (h : ∀ x y : Cell, rightC d x = true → rightC d y = true → Sp 71 [dC x, dC y] [.int (cmpC d x y)]) (a b : Arr) (ha : rightA d a = true) (hb : rightA d b = true) : Sp 113 [dA a, dA b] [.int (cmpA (d + 1) a b)] := by
  have la := rightA_len ha
  have lb := rightA_len hb
  refine sound_ 1048577 (grade_arrays_tree _ _ _) ?_
  simp only [dA_0, dA_1, dA_2, dC_0, dC_1, dC_2, dC_3, dC_4, dN_0, dN_1, dN_2, els_sl, els_dI, els_dL, List.length_map, Int.toNat_natCast, toInt_int, toInt_dB, toBool_bool, getD_c0, getD_c1, int_beq, int_bne, not_dec, dInt_dB, Int.toNat_zero]
  refine wp_call (cmpInt_sp _ _) ?_
  rw [cmpA_succ]
  unfold shR
  simp only [getD_c0, toInt_int, int_bne]
  refine wp_decs (fun h => wp_ret (by simp only [if_pos h])) (fun h1 => ?_)
  simp only [if_neg h1]
  have hl : a.shape.length = b.shape.length := by have := cmpZ_zero.1 (Classical.not_not.1 h1); omega
  refine wp_call (slices_Compare_sp a.shape b.shape (by omega) hl) ?_
  simp only [getD_c0, toInt_int]
  refine wp_decs (fun h => wp_ret (by simp only [if_pos h])) (fun h2 => ?_)
  simp only [if_neg h2]
  have hs : a.shape = b.shape := shR_zero.1 (by unfold shR; rw [if_neg h1]; exact Classical.not_not.1 h2)
  have hc := right_same ha hb hs
  have hz : (a.cells.zip b.cells).length = a.cells.length := by simp [List.length_zip, hc]
  have key := loop_list (P := Tryz.prog) (md := md) (a.cells.zip b.cells) (fun q k (_ : Unit) => grade_arrays_l8 1048577 q (a.cells.length : Int) (k : Int) (dA a) (dA b)) (fun rest _ => [.int (lexG (cmpC d) rest)]) (fun _ _ => True)
    (fun q k s hk _ => by
      simp only [grade_arrays_l8_succ, dA_0, dA_1, dA_2, dC_0, dC_1, dC_2, dC_3, dC_4, dN_0, dN_1, dN_2, els_sl, els_dI, els_dL, List.length_map, Int.toNat_natCast, toInt_int, toInt_dB, toBool_bool, getD_c0, getD_c1, int_beq, int_bne, not_dec, dInt_dB, Int.toNat_zero]
      exact wp_ndec (by omega) (wp_ret rfl))
    (fun q k s p rest hd _ ih => by
      obtain ⟨_, k2, k3⟩ := drop_cons hd
      obtain ⟨x, y⟩ := p
      obtain ⟨g1, g2⟩ := zip_at k2
      have l1 := lt_of_at g1
      simp only [grade_arrays_l8_succ, dA_0, dA_1, dA_2, dC_0, dC_1, dC_2, dC_3, dC_4, dN_0, dN_1, dN_2, els_sl, els_dI, els_dL, List.length_map, Int.toNat_natCast, toInt_int, toInt_dB, toBool_bool, getD_c0, getD_c1, int_beq, int_bne, not_dec, dInt_dB, Int.toNat_zero, getD_map g1, getD_map g2, wrap_succ (show k < 9223372036854775807 by omega)]
      refine wp_dec (by omega) (wp_dec (by omega) (wp_dec (by omega) (wp_dec (by omega) (wp_dec (by omega) (wp_call (h x y ((rightA_cells ha).2 x (List.mem_of_getElem? g1)) ((rightA_cells hb).2 y (List.mem_of_getElem? g2))) ?_)))))
      simp only [getD_c0, toInt_int, lexG]
      exact wp_decs (fun h => wp_ret (by rw [if_pos h])) (fun h => by rw [if_neg h]; exact ih () trivial))
    1048577 0 () (by omega) (by omega) trivial
  exact key
theorem gcells_of {d : Nat} (h : ∀ e, d = e + 1 → ∀ a b : Arr, rightA e a = true → rightA e b = true → Sp 113 [dA a, dA b] [.int (cmpA d a b)]) (x y : Cell) (hx : rightC d x = true) (hy : rightC d y = true) : Sp 71 [dC x, dC y] [.int (cmpC d x y)] := by
  refine sound_ 0 (grade_cells_tree _ _ _) ?_
  unfold cmpC cmpCf
  simp only [dA_0, dA_1, dA_2, dC_0, dC_1, dC_2, dC_3, dC_4, dN_0, dN_1, dN_2, els_sl, els_dI, els_dL, List.length_map, Int.toNat_natCast, toInt_int, toInt_dB, toBool_bool, getD_c0, getD_c1, int_beq, int_bne, not_dec, dInt_dB, Int.toNat_zero]
  refine wp_decs (fun hk => wp_call (cmpInt_sp _ _) (wp_ret (by rw [if_pos (by rw [Ne, cmpZ_zero]; exact hk)]; rfl))) (fun hk => ?_)
  have hk := Classical.not_not.1 hk
  rw [if_neg (by rw [Ne, cmpZ_zero]; omega)]
  rcases rightC_cases hx with h0 | h0 | ⟨h0, h1, h2, e, x', he, h3, h4⟩ <;> rcases rightC_cases hy with g0 | g0 | ⟨g0, g1, g2, e', y', he', g3, g4⟩
  · exact wp_dec h0.1 (wp_call (ratio_Cmp_sp (smN_right h0.2.2.2) (smN_right g0.2.2.2)) (wp_ret (by rw [if_pos h0.1]; rfl)))
  · omega
  · omega
  · omega
  · exact wp_ndec (by omega) (wp_dec h0.1 (wp_call (cmpInt_sp _ _) (wp_ret (by rw [if_neg (by omega), if_pos h0.1]; rfl))))
  · omega
  · omega
  · omega
  · subst he
    have : e' = e := by omega
    subst this
    simp only [dC_4, h3, g3, els_sl, List.map_cons, List.map_nil, List.length_cons, List.length_nil, Int.toNat_zero, getD_c0]
    exact wp_ndec (by omega) (wp_ndec (by omega) (wp_dec (by omega) (wp_dec (by omega) (wp_dec (by omega) (wp_dec (by omega) (wp_call (h _ rfl x' y' h4 g4) (wp_ret (by rw [if_neg (by omega), if_neg (by omega)]; rfl))))))))
theorem grade_both : ∀ d : Nat, (∀ x y : Cell, rightC d x = true → rightC d y = true → Sp 71 [dC x, dC y] [.int (cmpC d x y)]) ∧ ∀ a b : Arr, rightA d a = true → rightA d b = true → Sp 113 [dA a, dA b] [.int (cmpA (d + 1) a b)]
  | 0 => by
    have h := gcells_of (d := 0) (fun e he => by omega)
    exact ⟨h, arrays_of h⟩
  | d + 1 => by
    have h := gcells_of (d := d + 1) (fun e he => by cases he; exact (grade_both d).2)
    exact ⟨h, arrays_of h⟩
theorem ref17_arrays_of {d : Nat} (h : ∀ x y : Cell, rightC d x = true → rightC d y = true → Sp 35 [dC x, dC y] [.int (cmpC d x y)]) (a b : Arr) (ha : rightA d a = true) (hb : rightA d b = true) : Sp 75 [dA a, dA b] [.int (cmpA (d + 1) a b)] := by
  have la := rightA_len ha
  have lb := rightA_len hb
  refine sound_ 4096 (ref17_Arrays_tree _ _ _) ?_
  simp only [dA_0, dA_1, dA_2, dC_0, dC_1, dC_2, dC_3, dC_4, dN_0, dN_1, dN_2, els_sl, els_dI, els_dL, List.length_map, Int.toNat_natCast, toInt_int, toInt_dB, toBool_bool, getD_c0, getD_c1, int_beq, int_bne, not_dec, dInt_dB, Int.toNat_zero]
  rw [cmpA_succ]
  unfold shR
  refine wp_decs (fun h => wp_call (ref17_ints_sp _ _) (wp_ret (by
    have h' : cmpZ (a.shape.length : Int) (b.shape.length : Int) ≠ 0 := by rw [Ne, cmpZ_zero]; exact h
    simp only [if_pos h']; rfl))) (fun h1 => ?_)
  have hl : a.shape.length = b.shape.length := by omega
  have h1' : ¬ cmpZ (a.shape.length : Int) (b.shape.length : Int) ≠ 0 := by rw [Classical.not_not, cmpZ_zero]; omega
  simp only [if_neg h1']
  have hz : (a.shape.zip b.shape).length = a.shape.length := by simp [List.length_zip, hl]
  have last : a.shape = b.shape → Tw (ref17_Arrays_l9 4096 4096 0 (dA a) (dA b)) [.int (lexG (cmpC d) (a.cells.zip b.cells))] := by
    intro hs
    have hc := right_same ha hb hs
    have hz : (a.cells.zip b.cells).length = a.cells.length := by simp [List.length_zip, hc]
    have key := loop_list (P := Tryz.prog) (md := md) (a.cells.zip b.cells) (fun q k (_ : Unit) => ref17_Arrays_l9 4096 q (k : Int) (dA a) (dA b)) (fun rest _ => [.int (lexG (cmpC d) rest)]) (fun _ _ => True)
      (fun q k s hk _ => by
        simp only [ref17_Arrays_l9_succ, dA_0, dA_1, dA_2, dC_0, dC_1, dC_2, dC_3, dC_4, dN_0, dN_1, dN_2, els_sl, els_dI, els_dL, List.length_map, Int.toNat_natCast, toInt_int, toInt_dB, toBool_bool, getD_c0, getD_c1, int_beq, int_bne, not_dec, dInt_dB, Int.toNat_zero]
        exact wp_ndec (by omega) (wp_ret rfl))
      (fun q k s p rest hd _ ih => by
        obtain ⟨_, k2, k3⟩ := drop_cons hd
        obtain ⟨x, y⟩ := p
        obtain ⟨g1, g2⟩ := zip_at k2
        have l1 := lt_of_at g1
        simp only [ref17_Arrays_l9_succ, dA_0, dA_1, dA_2, dC_0, dC_1, dC_2, dC_3, dC_4, dN_0, dN_1, dN_2, els_sl, els_dI, els_dL, List.length_map, Int.toNat_natCast, toInt_int, toInt_dB, toBool_bool, getD_c0, getD_c1, int_beq, int_bne, not_dec, dInt_dB, Int.toNat_zero, getD_map g1, getD_map g2, wrap_succ (show k < 9223372036854775807 by omega)]
        refine wp_dec (by omega) (wp_dec (by omega) (wp_dec (by omega) (wp_dec (by omega) (wp_dec (by omega) (wp_call (h x y ((rightA_cells ha).2 x (List.mem_of_getElem? g1)) ((rightA_cells hb).2 y (List.mem_of_getElem? g2))) ?_)))))
        simp only [getD_c0, toInt_int, lexG]
        exact wp_decs (fun h => wp_ret (by rw [if_pos h])) (fun h => by rw [if_neg h]; exact ih () trivial))
      4096 0 () (by omega) (by omega) trivial
    exact key
  have key := loop_list (P := Tryz.prog) (md := md) (a.shape.zip b.shape) (fun q k (_ : Unit) => ref17_Arrays_l4 4096 q (k : Int) (dA a) (dA b)) (fun rest _ => [.int (if lexG cmpZ rest ≠ 0 then lexG cmpZ rest else lexG (cmpC d) (a.cells.zip b.cells))]) (fun rest _ => lexG cmpZ rest = 0 → a.shape = b.shape)
    (fun q k s hk hI => by
      simp only [ref17_Arrays_l4_succ, dA_0, dA_1, dA_2, dC_0, dC_1, dC_2, dC_3, dC_4, dN_0, dN_1, dN_2, els_sl, els_dI, els_dL, List.length_map, Int.toNat_natCast, toInt_int, toInt_dB, toBool_bool, getD_c0, getD_c1, int_beq, int_bne, not_dec, dInt_dB, Int.toNat_zero]
      exact wp_ndec (by omega) (last (hI rfl)))
    (fun q k s p rest hd hI ih => by
      obtain ⟨_, k2, k3⟩ := drop_cons hd
      obtain ⟨x, y⟩ := p
      obtain ⟨g1, g2⟩ := zip_at k2
      have l1 := lt_of_at g1
      simp only [ref17_Arrays_l4_succ, dA_0, dA_1, dA_2, dC_0, dC_1, dC_2, dC_3, dC_4, dN_0, dN_1, dN_2, els_sl, els_dI, els_dL, List.length_map, Int.toNat_natCast, toInt_int, toInt_dB, toBool_bool, getD_c0, getD_c1, int_beq, int_bne, not_dec, dInt_dB, Int.toNat_zero, getD_map g1, getD_map g2, wrap_succ (show k < 9223372036854775807 by omega)]
      refine wp_dec (by omega) (wp_dec (by omega) (wp_dec (by omega) (wp_dec (by omega) (wp_dec (by omega) (wp_decs (fun hne => ?_) (fun he => ?_))))))
      · have hne' : cmpZ x y ≠ 0 := by rw [Ne, cmpZ_zero]; exact hne
        refine wp_dec (by omega) (wp_dec (by omega) (wp_dec (by omega) (wp_dec (by omega) (wp_call (ref17_ints_sp x y) (wp_ret ?_)))))
        simp only [lexG, if_pos hne', getD_c0, toInt_int]
      · have he' : ¬ cmpZ x y ≠ 0 := by rw [Classical.not_not, cmpZ_zero]; omega
        simp only [lexG, if_neg he'] at hI ⊢
        exact ih () hI)
    4096 0 () (by omega) (by omega) (fun h0 => shR_zero.1 (by unfold shR; rw [if_neg h1']; exact h0))
  exact key
theorem ref17_cells_of {d : Nat} (h : ∀ e, d = e + 1 → ∀ a b : Arr, rightA e a = true → rightA e b = true → Sp 75 [dA a, dA b] [.int (cmpA d a b)]) (x y : Cell) (hx : rightC d x = true) (hy : rightC d y = true) : Sp 35 [dC x, dC y] [.int (cmpC d x y)] := by
  refine sound_ 0 (ref17_Compare_tree _ _ _) ?_
  unfold cmpC cmpCf
  simp only [dA_0, dA_1, dA_2, dC_0, dC_1, dC_2, dC_3, dC_4, dN_0, dN_1, dN_2, els_sl, els_dI, els_dL, List.length_map, Int.toNat_natCast, toInt_int, toInt_dB, toBool_bool, getD_c0, getD_c1, int_beq, int_bne, not_dec, dInt_dB, Int.toNat_zero]
  refine wp_decs (fun hk => wp_call (ref17_ints_sp _ _) (wp_ret (by rw [if_pos (by rw [Ne, cmpZ_zero]; exact hk)]; rfl))) (fun hk => ?_)
  have hk := Classical.not_not.1 hk
  rw [if_neg (by rw [Ne, cmpZ_zero]; omega)]
  rcases rightC_cases hx with h0 | h0 | ⟨h0, h1, h2, e, x', he, h3, h4⟩ <;> rcases rightC_cases hy with g0 | g0 | ⟨g0, g1, g2, e', y', he', g3, g4⟩
  · exact wp_dec h0.1 (wp_call (ref04_Cmp_sp (smN_right h0.2.2.2) (smN_right g0.2.2.2)) (wp_ret (by rw [if_pos h0.1]; rfl)))
  · omega
  · omega
  · omega
  · exact wp_ndec (by omega) (wp_dec h0.1 (wp_call (ref17_ints_sp _ _) (wp_ret (by rw [if_neg (by omega), if_pos h0.1]; rfl))))
  · omega
  · omega
  · omega
  · subst he
    have : e' = e := by omega
    subst this
    simp only [dC_4, h3, g3, els_sl, List.map_cons, List.map_nil, List.length_cons, List.length_nil, Int.toNat_zero, getD_c0]
    exact wp_ndec (by omega) (wp_ndec (by omega) (wp_dec (by omega) (wp_dec (by omega) (wp_dec (by omega) (wp_dec (by omega) (wp_call (h _ rfl x' y' h4 g4) (wp_ret (by rw [if_neg (by omega), if_neg (by omega)]; rfl))))))))
theorem ref17_both : ∀ d : Nat, (∀ x y : Cell, rightC d x = true → rightC d y = true → Sp 35 [dC x, dC y] [.int (cmpC d x y)]) ∧ ∀ a b : Arr, rightA d a = true → rightA d b = true → Sp 75 [dA a, dA b] [.int (cmpA (d + 1) a b)]
  | 0 => by
    have h := ref17_cells_of (d := 0) (fun e he => by omega)
    exact ⟨h, ref17_arrays_of h⟩
  | d + 1 => by
    have h := ref17_cells_of (d := d + 1) (fun e he => by cases he; exact (ref17_both d).2)
    exact ⟨h, ref17_arrays_of h⟩
end Go.Proofs.YtbgcadcpeabpgaaGreat
set_option maxRecDepth 100000
namespace Go.Proofs.YtbgcadcpeabpgaaGreat

def leK (k : Nat → Nat → Int) (i j : Nat) : Prop := k i j < 0 ∨ (k i j = 0 ∧ i ≤ j)
instance (k : Nat → Nat → Int) (i j : Nat) : Decidable (leK k i j) := by unfold leK; infer_instance
abbrev AllN (f : Nat → Nat → Int) : Prop := Row (fun _ : Nat => True) f
section
variable {k : Nat → Nat → Int} (hk : AllN k)
include hk
theorem leK_total (i j : Nat) : leK k i j ∨ leK k j i := by
  have := hk.flip i j trivial trivial
  unfold leK; omega
theorem leK_self (i : Nat) : leK k i i := by have := leK_total hk i i; simpa using this
theorem leK_anti {i j : Nat} (h1 : leK k i j) (h2 : leK k j i) : i = j := by
  have := hk.flip i j trivial trivial
  unfold leK at h1 h2; omega
theorem leK_trans {i j m : Nat} (h1 : leK k i j) (h2 : leK k j m) : leK k i m := by
  have g1 : k i j ≤ 0 := by unfold leK at h1; omega
  have g2 : k j m ≤ 0 := by unfold leK at h2; omega
  have g3 := hk.go i j m trivial trivial trivial g1 g2
  by_cases h : k i m = 0
  · obtain ⟨q1, q2⟩ := hk.two (x := i) (y := j) (z := m) trivial trivial trivial g1 g2 h
    unfold leK at h1 h2 ⊢; omega
  · unfold leK; omega
theorem leK_lt {i j : Nat} (h : i < j) : (k j i < 0) ↔ ¬ leK k i j := by
  have := hk.flip i j trivial trivial
  unfold leK; omega
omit hk in
theorem leK_not (hk : AllN k) {i j : Nat} (h : ¬ leK k i j) : leK k j i := (leK_total hk i j).resolve_left h
end
def insK (k : Nat → Nat → Int) (x : Nat) : List Nat → List Nat
  | [] => [x]
  | y :: ys => if leK k x y then x :: y :: ys else y :: insK k x ys
def srt (k : Nat → Nat → Int) : List Nat → List Nat
  | [] => []
  | x :: xs => insK k x (srt k xs)
theorem insK_perm (k : Nat → Nat → Int) (x : Nat) : ∀ l, (insK k x l).Perm (x :: l)
  | [] => List.Perm.refl _
  | y :: ys => by
    rw [insK]
    split
    · exact List.Perm.refl _
    · exact ((insK_perm k x ys).cons y).trans (List.Perm.swap x y ys)
theorem srt_perm (k : Nat → Nat → Int) : ∀ l, (srt k l).Perm l
  | [] => List.Perm.refl _
  | x :: xs => by rw [srt]; exact (insK_perm k x _).trans ((srt_perm k xs).cons x)
theorem srt_len (k : Nat → Nat → Int) (l : List Nat) : (srt k l).length = l.length := (srt_perm k l).length_eq
theorem srt_mem {k : Nat → Nat → Int} {l : List Nat} {x : Nat} : x ∈ srt k l ↔ x ∈ l := (srt_perm k l).mem_iff
section
variable {k : Nat → Nat → Int} (hk : AllN k)
include hk
theorem insK_sorted (x : Nat) : ∀ l, l.Pairwise (leK k) → (insK k x l).Pairwise (leK k)
  | [], _ => by simp [insK]
  | y :: ys, h => by
    rw [insK]
    rw [List.pairwise_cons] at h
    split
    · rename_i hxy
      refine List.pairwise_cons.2 ⟨fun z hz => ?_, List.pairwise_cons.2 h⟩
      rcases List.mem_cons.1 hz with rfl | hz
      · exact hxy
      · exact leK_trans hk hxy (h.1 z hz)
    · rename_i hxy
      refine List.pairwise_cons.2 ⟨fun z hz => ?_, insK_sorted x ys h.2⟩
      rcases List.mem_cons.1 ((insK_perm k x ys).mem_iff.1 hz) with rfl | hz
      · exact leK_not hk hxy
      · exact h.1 z hz
theorem srt_sorted : ∀ l, (srt k l).Pairwise (leK k)
  | [] => List.Pairwise.nil
  | x :: xs => insK_sorted hk x _ (srt_sorted xs)
theorem sorted_unique : ∀ {l m : List Nat}, l.Perm m → l.Pairwise (leK k) → m.Pairwise (leK k) → l = m
  | [], m, hp, _, _ => (List.Perm.nil_eq hp)
  | x :: xs, [], hp, _, _ => by have := hp.length_eq; simp at this
  | x :: xs, y :: ys, hp, h1, h2 => by
    rw [List.pairwise_cons] at h1 h2
    have hx : x ∈ y :: ys := hp.mem_iff.1 (by simp)
    have hy : y ∈ x :: xs := hp.mem_iff.2 (by simp)
    have e : x = y := by
      rcases List.mem_cons.1 hx with e | hx
      · exact e
      · rcases List.mem_cons.1 hy with e | hy
        · exact e.symm
        · exact leK_anti hk (h1.1 y hy) (h2.1 x hx)
    subst e
    rw [sorted_unique ((List.perm_cons x).1 hp) h1.2 h2.2]
theorem srt_of {l z : List Nat} (hp : z.Perm l) (hs : z.Pairwise (leK k)) : srt k l = z := (sorted_unique hk (hp.trans (srt_perm k l).symm) hs (srt_sorted hk l)).symm
omit hk in
theorem srt_one {l : List Nat} (h : l.length ≤ 1) : srt k l = l := by
  match l with
  | [] => rfl
  | [x] => rfl
  | _ :: _ :: _ => simp at h
omit hk in
theorem sorted_app {l m : List Nat} (h1 : l.Pairwise (leK k)) (h2 : m.Pairwise (leK k)) (h : ∀ x ∈ l, ∀ y ∈ m, leK k x y) : (l ++ m).Pairwise (leK k) := List.pairwise_append.2 ⟨h1, h2, h⟩
/-- All of a sorted list stand ahead of what its last stands ahead of. -/
theorem upto_last {l : List Nat} {i : Nat} {y z : Nat} (hs : l.Pairwise (leK k)) (hi : l[i]? = some y) (h : leK k y z) : ∀ x ∈ l.take (i + 1), leK k x z := by
  intro x hx
  obtain ⟨j, hj, rfl⟩ := List.mem_iff_getElem.1 hx
  obtain ⟨hi', rfl⟩ := List.getElem?_eq_some_iff.1 hi
  rw [List.length_take] at hj
  rw [List.getElem_take]
  by_cases e : j = i
  · subst e; exact h
  · exact leK_trans hk (List.pairwise_iff_getElem.1 hs j i (by omega) hi' (by omega)) h
theorem from_first {l : List Nat} {i : Nat} {y z : Nat} (hs : l.Pairwise (leK k)) (hi : l[i]? = some y) (h : leK k z y) : ∀ x ∈ l.drop i, leK k z x := by
  intro x hx
  obtain ⟨j, hj, rfl⟩ := List.mem_iff_getElem.1 hx
  obtain ⟨hi', rfl⟩ := List.getElem?_eq_some_iff.1 hi
  rw [List.length_drop] at hj
  rw [List.getElem_drop]
  by_cases e : j = 0
  · subst e; exact h
  · exact leK_trans hk h (List.pairwise_iff_getElem.1 hs i (i + j) hi' (by omega) (by omega))
end
def sg (k : Nat → Nat → Int) (bs : Nat) : Nat → List Nat → List Nat
  | 0, l => srt k l
  | q + 1, l => if l.length < bs then srt k l else srt k (l.take bs) ++ sg k bs q (l.drop bs)
theorem sg_fuel {k : Nat → Nat → Int} {bs : Nat} (hb : 1 ≤ bs) : ∀ {q q' : Nat} {l : List Nat}, l.length ≤ q → l.length ≤ q' → sg k bs q l = sg k bs q' l
  | 0, 0, l, _, _ => rfl
  | 0, q' + 1, l, h, _ => by rw [sg, sg, if_pos (by omega)]
  | q + 1, 0, l, _, h => by rw [sg, sg, if_pos (by omega)]
  | q + 1, q' + 1, l, h, h' => by
    rw [sg, sg]
    split
    · rfl
    · rw [sg_fuel hb (q := q) (q' := q') (by rw [List.length_drop]; omega) (by rw [List.length_drop]; omega)]
def SG (k : Nat → Nat → Int) (bs : Nat) (l : List Nat) : List Nat := sg k bs l.length l
theorem SG_eq {k : Nat → Nat → Int} {bs : Nat} (hb : 1 ≤ bs) (l : List Nat) : SG k bs l = if l.length < bs then srt k l else srt k (l.take bs) ++ SG k bs (l.drop bs) := by
  unfold SG
  rw [sg_fuel hb (q := l.length) (q' := l.length + 1) (by omega) (by omega), sg]
  split
  · rfl
  · rw [sg_fuel hb (q := l.length) (q' := (l.drop bs).length) (by rw [List.length_drop]; omega) (by omega)]
theorem SG_small {k : Nat → Nat → Int} {bs : Nat} (hb : 1 ≤ bs) {l : List Nat} (h : l.length ≤ bs) : SG k bs l = srt k l := by
  rw [SG_eq hb]
  split
  · rfl
  · have h1 : l.take bs = l := List.take_of_length_le h
    have h2 : l.drop bs = [] := List.drop_of_length_le h
    rw [h1, h2, SG_eq hb, if_pos (by simp; omega)]
    simp [srt]
theorem SG_len {k : Nat → Nat → Int} {bs : Nat} (hb : 1 ≤ bs) : ∀ (q : Nat) (l : List Nat), l.length ≤ q → (SG k bs l).length = l.length
  | 0, l, h => by rw [SG_eq hb, if_pos (by omega), srt_len]
  | q + 1, l, h => by
    rw [SG_eq hb]
    split
    · rw [srt_len]
    · rw [List.length_append, srt_len, SG_len hb q _ (by rw [List.length_drop]; omega), List.length_take, List.length_drop]; omega

/-! Places in the data. -/
def dP (i : Nat) : D := .int (i : Int)
theorem dP_int (i : Nat) : (dP i).toInt = (i : Int) := rfl
theorem at_app {A : List Nat} {x : Nat} {B : List Nat} {i : Nat} (h : i = A.length) : ((A ++ x :: B).map dP).getD i D.nil = dP x := by
  subst h; simp [List.getD_eq_getElem?_getD]
theorem at_app2 {A M : List Nat} {x y : Nat} {B : List Nat} {i : Nat} (h : i = A.length + 1 + M.length) : ((A ++ x :: (M ++ y :: B)).map dP).getD i D.nil = dP y := by
  rw [show A ++ x :: (M ++ y :: B) = (A ++ x :: M) ++ y :: B by simp]
  exact at_app (by simp; omega)
theorem set_app {A : List Nat} {x y : Nat} {B : List Nat} {i : Nat} (h : i = A.length) : ((A ++ x :: B).map dP).set i (dP y) = (A ++ y :: B).map dP := by
  subst h; simp
theorem set_app2 {A M : List Nat} {x y z : Nat} {B : List Nat} {i : Nat} (h : i = A.length + 1 + M.length) : ((A ++ x :: (M ++ y :: B)).map dP).set i (dP z) = (A ++ x :: (M ++ z :: B)).map dP := by
  rw [show A ++ x :: (M ++ y :: B) = (A ++ x :: M) ++ y :: B by simp, set_app (by simp; omega)]
  simp
theorem swap_up {A M : List Nat} {x y : Nat} {B : List Nat} {i j : Nat} (hi : i = A.length) (hj : j = A.length + 1 + M.length) : (((A ++ x :: (M ++ y :: B)).map dP).set i (dP y)).set j (dP x) = (A ++ y :: (M ++ x :: B)).map dP := by
  rw [set_app hi, set_app2 hj]
theorem swap_down {A M : List Nat} {x y : Nat} {B : List Nat} {i j : Nat} (hi : i = A.length) (hj : j = A.length + 1 + M.length) : (((A ++ x :: (M ++ y :: B)).map dP).set j (dP x)).set i (dP y) = (A ++ y :: (M ++ x :: B)).map dP := by
  rw [set_app2 hj, set_app hi]
theorem half_eq {i j : Nat} (h : i + j ≤ 1000000) : IntKind.wrap .i64 (Int.fdiv (IntKind.wrap .u64 (IntKind.wrap .i64 ((i : Int) + (j : Int)))) (2 ^ (min (Int.toNat 1) (IntKind.bits .u64)))) = (((i + j) / 2 : Nat) : Int) := by
  rw [wrap64 (x := (i : Int) + (j : Int)) (by omega) (by omega), wrapU64 (by omega) (by omega), show (2 : Int) ^ (min (Int.toNat 1) (IntKind.bits .u64)) = 2 by decide, Int.fdiv_eq_ediv_of_nonneg _ (by decide), wrap64 (by omega) (by omega)]
  omega
end Go.Proofs.YtbgcadcpeabpgaaGreat
set_option maxRecDepth 100000
namespace Go.Proofs.YtbgcadcpeabpgaaGreat
def iN (l : List Nat) : List Int := l.map (fun (x : Nat) => (x : Int))
theorem iN_len (l : List Nat) : (iN l).length = l.length := by simp [iN]
theorem iN_D (l : List Nat) : (iN l).map D.int = l.map dP := by unfold iN; rw [List.map_map]; rfl
theorem dI_iN (l : List Nat) : dI (iN l) = D.sl (l.map dP) := by unfold dI; rw [iN_D]
theorem iN_of {l : List Int} (h : ∀ x ∈ l, 0 ≤ x) : ∃ m : List Nat, l = iN m := by
  refine ⟨l.map Int.toNat, ?_⟩
  unfold iN
  rw [List.map_map]
  conv => lhs; rw [← List.map_id l]
  refine List.map_congr_left (fun x hx => ?_)
  have := h x hx
  simp only [id, Function.comp]
  omega
theorem iN_inj : ∀ {a b : List Nat}, iN a = iN b → a = b
  | [], [], _ => rfl
  | [], _ :: _, h => by simp [iN] at h
  | _ :: _, [], h => by simp [iN] at h
  | x :: xs, y :: ys, h => by
    simp only [iN, List.map_cons, List.cons.injEq] at h
    rw [iN_inj (a := xs) (b := ys) h.2, show x = y by omega]
/-! Digits, the last axis first. -/
def digN : List Nat → Nat → List Nat
  | [], _ => []
  | x :: xs, n => n % x :: digN xs (n / x)
def prodN : List Nat → Nat
  | [] => 1
  | x :: xs => x * prodN xs
theorem digN_len : ∀ (l : List Nat) (n : Nat), (digN l n).length = l.length
  | [], _ => rfl
  | x :: xs, n => by simp [digN, digN_len xs]
theorem digN_app : ∀ (u v : List Nat) (n : Nat), digN (u ++ v) n = digN u n ++ digN v (n / prodN u)
  | [], v, n => by simp [digN, prodN]
  | x :: xs, v, n => by simp only [List.cons_append, digN, prodN, digN_app xs v, Nat.div_div_eq_div_mul]
theorem digN_mod : ∀ (u : List Nat) (n : Nat), digN u (n % prodN u) = digN u n
  | [], n => rfl
  | x :: xs, n => by
    simp only [digN, prodN]
    rw [Nat.mod_mul_right_mod, Nat.mod_mul_right_div_self, digN_mod xs]
theorem digN_zero : ∀ (l : List Nat), digN l 0 = List.replicate l.length 0
  | [] => rfl
  | x :: xs => by simp [digN, digN_zero xs, List.replicate_succ]
theorem digN_inj : ∀ {l : List Nat} {i j : Nat}, i < prodN l → j < prodN l → digN l i = digN l j → i = j
  | [], i, j, hi, hj, _ => by simp [prodN] at hi hj; omega
  | x :: xs, i, j, hi, hj, h => by
    simp only [digN, List.cons.injEq] at h
    simp only [prodN] at hi hj
    have h1 := digN_inj (Nat.div_lt_of_lt_mul hi) (Nat.div_lt_of_lt_mul hj) h.2
    rw [← Nat.div_add_mod i x, ← Nat.div_add_mod j x, h1, h.1]
def nxtN : List Nat → List Nat → List Nat
  | x :: xs, a :: as_ => if a + 1 < x then (a + 1) :: as_ else 0 :: nxtN xs as_
  | _, _ => []
theorem nxt_dig : ∀ (l : List Nat) (n : Nat), (∀ x ∈ l, 1 ≤ x) → nxtN l (digN l n) = digN l (n + 1)
  | [], _, _ => rfl
  | x :: xs, n, h => by
    have hx := h x (by simp)
    have ih := nxt_dig xs (n / x) (fun y hy => h y (by simp [hy]))
    have hn := Nat.div_add_mod n x
    have hr := Nat.mod_lt n hx
    simp only [digN, nxtN]
    split
    · rename_i hlt
      have e : n + 1 = x * (n / x) + (n % x + 1) := by omega
      rw [e, Nat.mul_add_mod, Nat.mod_eq_of_lt hlt, Nat.mul_add_div hx, Nat.div_eq_of_lt hlt]
      rfl
    · rename_i hlt
      have e : n + 1 = x * (n / x + 1) := by rw [Nat.mul_add, Nat.mul_one]; omega
      rw [ih, e, Nat.mul_mod_right, Nat.mul_div_cancel_left _ hx]
theorem digN_lt : ∀ (l : List Nat) (n : Nat), (∀ x ∈ l, 1 ≤ x) → ∀ (i : Nat) (a x : Nat), (digN l n)[i]? = some a → l[i]? = some x → a < x
  | [], _, _, i, a, x, h, _ => by simp [digN] at h
  | x :: xs, n, hl, 0, a, y, h, h' => by
    simp [digN] at h h'
    subst h; subst h'
    exact Nat.mod_lt _ (hl _ (by simp))
  | x :: xs, n, hl, i + 1, a, y, h, h' => digN_lt xs (n / x) (fun z hz => hl z (by simp [hz])) i a y (by simpa [digN] using h) (by simpa using h')
/-- The place of a cell. -/
def atN (s : List Nat) (n : Nat) : List Nat := (digN s.reverse n).reverse
theorem atN_len (s : List Nat) (n : Nat) : (atN s n).length = s.length := by simp [atN, digN_len]
/-- How many cells. -/
def cntN (s : List Nat) : Nat := (countS (iN s)).1.toNat
def plcN (s : List Nat) : List (List Nat) := if (countS (iN s)).2 = 0 then (List.range (cntN s)).map (atN s) else []
theorem prodS_N : ∀ (l : List Nat) (p : Nat), prodS (iN l) (p : Int) ≠ 0 → prodS (iN l) (p : Int) = ((p * prodN l : Nat) : Int)
  | [], p, _ => by simp [iN, prodS, prodN]
  | x :: xs, p, h => by
    simp only [iN, List.map_cons, prodS] at h ⊢
    split at h
    · exact absurd rfl h
    · rename_i h2
      rw [if_neg h2]
      have := prodS_N xs (p * x) (by simpa [iN] using h)
      simp only [iN, Int.natCast_mul] at this
      rw [this]
      simp only [prodN, Int.natCast_mul, Int.mul_assoc]
theorem prodN_rev : ∀ (l m : List Nat), prodN (l ++ m) = prodN l * prodN m
  | [], m => by simp [prodN]
  | x :: xs, m => by simp only [List.cons_append, prodN, prodN_rev xs m, Nat.mul_assoc]
theorem prodN_reverse : ∀ (l : List Nat), prodN l.reverse = prodN l
  | [] => rfl
  | x :: xs => by rw [List.reverse_cons, prodN_rev, prodN_reverse xs]; simp only [prodN]; rw [Nat.mul_one, Nat.mul_comm]
/-- No cell, or as many as the axes' lengths say. -/
theorem cntN_cases {s : List Nat} (h : (countS (iN s)).2 = 0) : s.length ≤ 6 ∧ ((0 ∈ s ∧ cntN s = 0) ∨ ((∀ x ∈ s, 1 ≤ x ∧ x ≤ 2048) ∧ cntN s = prodN s ∧ 1 ≤ cntN s ∧ cntN s ≤ 2048)) := by
  have hl := countS_le (iN s)
  obtain ⟨h1, h2⟩ := countS_cases (s := iN s) (c := (countS (iN s)).1) (Prod.ext rfl h)
  rw [iN_len] at h1
  refine ⟨h1, ?_⟩
  rcases h2 with ⟨h2, h3⟩ | ⟨h2, h3, h4⟩
  · refine .inl ⟨?_, by unfold cntN; rw [h3]; rfl⟩
    obtain ⟨x, hx, he⟩ := List.mem_map.1 h2
    have : x = 0 := by omega
    rw [← this]; exact hx
  · refine .inr ⟨fun x hx => ?_, ?_, ?_, ?_⟩
    · have := h2 (x : Int) (List.mem_map.2 ⟨x, hx, rfl⟩); omega
    · have := prodS_N s 1 (by rw [show ((1 : Nat) : Int) = 1 from rfl, h3]; exact h4)
      rw [show ((1 : Nat) : Int) = 1 from rfl, h3] at this
      unfold cntN
      rw [this]; omega
    · unfold cntN; omega
    · unfold cntN; omega
theorem ref07_next_sp (s p : List Nat) (hl : p.length = s.length) (hs : s.length ≤ 1000) (hp : ∀ x ∈ p, x ≤ 1000000) : Sp 129 [dI (iN s), dI (iN p)] [dI (iN (nxtN s.reverse p.reverse).reverse)] := by
  refine sound_ 2000 (ref07_next_tree _ _ _) ?_
  simp only [els_dI, iN_D, List.length_map]
  refine wp_dec (by simp only [bigN]; omega) ?_
  have key : ∀ (m : Nat) (sr pr st : List Nat) (z : Nat), sr.length = pr.length → pr.length < m → s = sr.reverse ++ st → (∀ x ∈ pr, x ≤ 1000000) → pr.length + z ≤ 1000 →
      Tw (ref07_next_l4 2000 m (dI (iN s)) ((pr.reverse ++ List.replicate z 0).map dP) ((pr.length : Int) - 1)) [D.sl (((nxtN sr pr).reverse ++ List.replicate z 0).map dP)] := by
    intro m
    induction m with
    | zero => intro sr pr st z _ h; omega
    | succ m ih =>
      intro sr pr st z h1 h2 h3 h4 h5
      match sr, pr, h1 with
      | [], [], _ =>
        simp only [ref07_next_l4_succ, List.length_nil]
        exact wp_ndec (by omega) (wp_ret (by simp [nxtN]))
      | x :: xs, y :: ys, h1 =>
        have hyl := h4 y (by simp)
        have hlen : xs.length = ys.length := by simpa using h1
        simp only [List.length_cons] at h2 h5
        have ei : (((y :: ys).length : Nat) : Int) - 1 = (ys.length : Int) := by simp only [List.length_cons]; omega
        have ed : (y :: ys).reverse ++ List.replicate z 0 = ys.reverse ++ y :: List.replicate z 0 := by rw [List.reverse_cons, List.append_assoc]; rfl
        have w1 : IntKind.wrap .i64 ((y : Int) + 1) = ((y + 1 : Nat) : Int) := by rw [wrap64 (by omega) (by omega)]; rfl
        have w2 : IntKind.wrap .i64 ((ys.length : Int) - 1) = (ys.length : Int) - 1 := wrap64 (by omega) (by omega)
        have g1 := at_app (A := ys.reverse) (x := y) (B := List.replicate z 0) (i := ys.length) (by rw [List.length_reverse])
        have g2 := set_app (A := ys.reverse) (x := y) (y := y + 1) (B := List.replicate z 0) (i := ys.length) (by rw [List.length_reverse])
        have g3 := at_app (A := ys.reverse) (x := y + 1) (B := List.replicate z 0) (i := ys.length) (by rw [List.length_reverse])
        have g4 := set_app (A := ys.reverse) (x := y + 1) (y := 0) (B := List.replicate z 0) (i := ys.length) (by rw [List.length_reverse])
        have gs : (s.map dP).getD ys.length D.nil = dP x := by
          rw [h3, List.reverse_cons, List.append_assoc]
          exact at_app (by rw [List.length_reverse]; exact hlen.symm)
        have ll : (ys.reverse ++ y :: List.replicate z 0).length = ys.length + 1 + z := by simp only [List.length_append, List.length_reverse, List.length_cons, List.length_replicate]; omega
        have ll2 : (ys.reverse ++ (y + 1) :: List.replicate z 0).length = ys.length + 1 + z := by simp only [List.length_append, List.length_reverse, List.length_cons, List.length_replicate]; omega
        have sl : s.length = xs.length + 1 + st.length := by rw [h3]; simp only [List.length_append, List.length_reverse, List.length_cons]
        have g2' : ((ys.reverse ++ y :: List.replicate z 0).map dP).set ys.length (D.int ((y + 1 : Nat) : Int)) = (ys.reverse ++ (y + 1) :: List.replicate z 0).map dP := g2
        have g4' : ((ys.reverse ++ (y + 1) :: List.replicate z 0).map dP).set ys.length (D.int 0) = (ys.reverse ++ 0 :: List.replicate z 0).map dP := g4
        have IH := ih xs ys (x :: st) (z + 1) hlen (by omega) (by rw [h3, List.reverse_cons, List.append_assoc]; rfl) (fun z hz => h4 z (List.mem_cons_of_mem _ hz)) (by omega)
        rw [ei, ed]
        simp only [ref07_next_l4_succ, Int.toNat_natCast, g1, dP_int, w1, w2, g2', g3, g4', els_dI, iN_D, gs, List.length_map, ll, ll2]
        refine wp_dec (by omega) (wp_dec (by omega) (wp_dec (by omega) (wp_dec (by omega) (wp_dec (by omega) (wp_dec (by omega) (wp_dec (by omega) (wp_dec (by omega) (wp_dec (by omega) (wp_decs (fun g => wp_ret ?_) (fun g => ?_))))))))))
        · rw [nxtN, if_pos (by omega), List.reverse_cons, List.append_assoc]; rfl
        · refine wp_dec (by omega) (wp_dec (by omega) ?_)
          rw [nxtN, if_neg (by omega), List.reverse_cons, List.append_assoc]
          exact IH
  have h := key 2000 s.reverse p.reverse [] 0 (by simp only [List.length_reverse]; exact hl.symm) (by rw [List.length_reverse]; omega) (by rw [List.reverse_reverse, List.append_nil]) (fun x hx => hp x (List.mem_reverse.1 hx)) (by rw [List.length_reverse]; omega)
  rw [List.reverse_reverse, List.replicate_zero, List.append_nil, List.append_nil, List.length_reverse] at h
  rw [show IntKind.wrap .i64 ((s.length : Int) - 1) = (p.length : Int) - 1 by rw [wrap64 (by omega) (by omega), hl]]
  rw [← dI_iN] at h
  exact h
theorem ref07_Places_sp (s : List Nat) : Sp 89 [dI (iN s)] [.sl ((plcN s).map (fun p => dI (iN p)))] := by
  refine sound_ 4096 (ref07_Places_tree _ _) (wp_call (ref07_Count_sp (iN s)) ?_)
  unfold plcN
  simp only [getD_c0, getD_c1, toInt_int, int_bne, els_dI, List.length_map, iN_len]
  refine wp_decs (fun h => wp_ret (by rw [if_neg h]; rfl)) (fun h => ?_)
  have h := Classical.not_not.1 h
  rw [if_pos h]
  obtain ⟨h6, hc⟩ := cntN_cases h
  have hcn : ((cntN s : Nat) : Int) = (countS (iN s)).1 := by have := countS_le (iN s); unfold cntN; omega
  rw [← hcn]
  refine wp_dec (by omega) (wp_dec (by omega) (wp_dec (by simp only [bigN]; omega) ?_))
  have hcl : cntN s ≤ 2048 := by omega
  have key := loop_up (P := Tryz.prog) (md := md) (cntN s) (fun m i (_ : Unit) => ref07_Places_l7 4096 m (dI (iN s)) ((cntN s : Nat) : Int) (((List.range i).map (atN s)).map (fun p => dI (iN p))) (dI (iN (atN s i))) (i : Int)) (fun _ _ => [.sl (((List.range (cntN s)).map (atN s)).map (fun p => dI (iN p)))]) (fun _ _ => True)
    (fun m t _ => by
      simp only [ref07_Places_l7_succ]
      exact wp_ndec (by omega) (wp_ret rfl))
    (fun m i t hi _ ih => by
      have ih := ih () trivial
      have hpos : ∀ x ∈ s, 1 ≤ x ∧ x ≤ 2048 := by
        rcases hc with ⟨_, h0⟩ | ⟨h1, _⟩
        · omega
        · exact h1
      have hd : ∀ x ∈ atN s i, x ≤ 1000000 := fun x hx => by
        obtain ⟨j, hj, rfl⟩ := List.mem_iff_getElem.1 (show x ∈ digN s.reverse i by simpa [atN] using hx)
        have hj2 : j < s.reverse.length := by rw [digN_len] at hj; exact hj
        have := digN_lt s.reverse i (fun y hy => (hpos y (by simpa using hy)).1) j _ _ (List.getElem?_eq_getElem hj) (List.getElem?_eq_getElem hj2)
        have := (hpos _ (List.mem_reverse.1 (List.getElem_mem hj2))).2
        omega
      have sp := ref07_next_sp s (atN s i) (atN_len s i) (by omega) hd
      rw [show (nxtN s.reverse (atN s i).reverse).reverse = atN s (i + 1) by
        unfold atN
        rw [List.reverse_reverse, nxt_dig _ _ (fun y hy => (hpos y (by simpa using hy)).1)]] at sp
      simp only [ref07_Places_l7_succ, List.length_map, List.length_range, List.length_cons, List.length_nil, wrap_succ (show i < 9223372036854775807 by omega)]
      refine wp_dec (by omega) (wp_dec (by simp only [bigN]; omega) (wp_call sp ?_))
      simp only [getD_c0]
      rw [List.range_succ, List.map_append, List.map_append] at ih
      exact ih)
    4096 0 () (by omega) (by omega) trivial
  have e0 : dI (iN (atN s 0)) = D.sl (List.replicate s.length (D.int 0)) := by
    rw [dI_iN]; unfold atN
    rw [digN_zero]
    simp
    exact .inr rfl
  rw [e0] at key
  simpa using key
/-- Where a place stands. -/
def fidN : List (List Nat) → List Nat → Nat → Int
  | [], _, _ => -1
  | p :: ps, at_, k => if p = at_ then (k : Int) else fidN ps at_ (k + 1)
theorem fid_at : ∀ (ps : List (List Nat)) (at_ : List Nat) (k i : Nat), ps[i]? = some at_ → (∀ j, j < i → ps[j]? ≠ some at_) → fidN ps at_ k = ((k + i : Nat) : Int)
  | [], at_, k, i, h, _ => by simp at h
  | p :: ps, at_, k, 0, h, _ => by simp at h; simp [fidN, h]
  | p :: ps, at_, k, i + 1, h, hn => by
    have h0 := hn 0 (by omega)
    simp at h0
    rw [fidN, if_neg h0, fid_at ps at_ (k + 1) i (by simpa using h) (fun j hj => by have := hn (j + 1) (by omega); simpa using this)]
    omega
theorem fid_plc {s : List Nat} (h : (countS (iN s)).2 = 0) {i : Nat} (hi : i < cntN s) : fidN (plcN s) (atN s i) 0 = (i : Int) := by
  obtain ⟨h6, hc⟩ := cntN_cases h
  have hc2 : cntN s = prodN s := by omega
  have e : plcN s = (List.range (cntN s)).map (atN s) := by unfold plcN; rw [if_pos h]
  have := fid_at (plcN s) (atN s i) 0 i (by rw [e, List.getElem?_map, List.getElem?_range hi]; rfl) (fun j hj hh => by
    rw [e, List.getElem?_map, List.getElem?_range (by omega)] at hh
    simp only [Option.map_some, Option.some.injEq] at hh
    have h2 : digN s.reverse j = digN s.reverse i := by
      unfold atN at hh
      exact List.reverse_inj.1 hh
    have := digN_inj (by rw [prodN_reverse]; omega) (by rw [prodN_reverse]; omega) h2
    omega)
  simpa using this
theorem ref07_Index_sp (s at_ : List Nat) (hl : at_.length ≤ 1000) : Sp 60 [dI (iN s), dI (iN at_)] [.int (fidN (plcN s) at_ 0)] := by
  refine sound_ 4096 (ref07_Index_tree _ _ _) (wp_call (ref07_Places_sp s) ?_)
  have hlen : (plcN s).length ≤ 2048 := by
    unfold plcN
    split
    · have := countS_le (iN s)
      rw [List.length_map, List.length_range]; unfold cntN; omega
    · simp
  have hpl : ∀ p ∈ plcN s, p.length ≤ 6 := by
    intro p hp
    unfold plcN at hp
    split at hp
    · rename_i h
      obtain ⟨i, _, rfl⟩ := List.mem_map.1 hp
      rw [atN_len]; exact (cntN_cases h).1
    · cases hp
  generalize plcN s = ps at *
  simp only [getD_c0]
  have key := loop_list (P := Tryz.prog) (md := md) ps (fun m k (_ : Unit) => ref07_Index_l3 4096 m (dI (iN at_)) (.sl (ps.map (fun p => dI (iN p)))) (k : Int)) (fun rest _ => [.int (fidN rest at_ (ps.length - rest.length))]) (fun _ _ => True)
    (fun m k t hk _ => by
      simp only [ref07_Index_l3_succ, els_sl, List.length_map]
      exact wp_ndec (by omega) (wp_ret rfl))
    (fun m k t p rest hd _ ih => by
      obtain ⟨h1, h2, h3⟩ := drop_cons hd
      have hle := congrArg List.length hd
      rw [List.length_drop, List.length_cons] at hle
      have hp := hpl p (List.mem_of_getElem? h2)
      simp only [ref07_Index_l3_succ, els_sl, List.length_map, Int.toNat_natCast, getD_map h2, wrap_succ (show k < 9223372036854775807 by omega)]
      refine wp_dec (by omega) (wp_dec (by omega) (wp_dec (by omega) (wp_call (ref07_Ints_sp (iN p) (iN at_) (by rw [iN_len]; omega)) ?_)))
      simp only [getD_c0, toBool_bool, fidN]
      have hk : ps.length - (p :: rest).length = k := by rw [List.length_cons]; omega
      have hk2 : ps.length - rest.length = k + 1 := by omega
      rw [hk]
      refine wp_decs (fun g => wp_ret (by rw [if_pos (iN_inj g)])) (fun g => ?_)
      rw [if_neg (fun hh => g (by rw [hh]))]
      have := ih () trivial
      rw [hk2] at this
      exact this)
    4096 0 () (by omega) (by omega) trivial
  simpa using key
theorem ref07_With_sp (s : List Nat) (x n : Nat) (hx : x < s.length) (hs : s.length ≤ 1000) : Sp 88 [dI (iN s), .int (x : Int), .int (n : Int)] [dI (iN (s.set x n)), .bool true] := by
  refine sound_ 0 (ref07_With_tree _ _ _ _) ?_
  simp only [els_dI, iN_D, List.length_map, toInt_int, Int.toNat_natCast]
  have w : IntKind.wrap .i64 ((x : Int) + 1) = ((x + 1 : Nat) : Int) := by rw [wrap64 (by omega) (by omega)]; rfl
  simp only [w, Int.toNat_natCast, List.length_take, List.length_map, List.length_append, List.length_cons, List.length_nil, List.length_drop]
  refine wp_ndec (by omega) (wp_ndec (by omega) (wp_dec (by omega) (wp_dec (by omega) (wp_dec (by simp only [bigN]; omega) (wp_dec (by simp only [bigN]; omega) (wp_dec (by omega) (wp_dec (by omega) (wp_dec (by simp only [bigN]; omega) (wp_ret ?_)))))))))
  rw [dI_iN, List.set_eq_take_append_cons_drop, if_pos hx]
  simp [dP]
end Go.Proofs.YtbgcadcpeabpgaaGreat
set_option maxRecDepth 100000
namespace Go
open Go.RowKit
theorem run_copy_wide (P : Program) (w : World) (dT sT ty elem : TypeId) (g o dLen dCap : Nat) (a : Addr) (sLen sCap sz : Nat) (cur : Array Value) (t : TypeId) (cs : List Value)
    (hu : P.underlying dT = some (.slice elem)) (hs : (P.info? elem).map (·.size) = some sz)
    (hg : w.heap[g]? = some (.cells cur t (0, 0))) (hn : cs.length = Nat.min sLen dLen * sz)
    (hsrc : ∀ j v, cs[j]? = some v → w.cell? (a.add j) = some v) (hfit : o + cs.length ≤ cur.size) (h1 : ∀ v ∈ cs, v.oneCell' = true) :
    (Builtin.copy_ #[dT, sT] ty #[.slice (some ⟨g, o, none⟩) dLen dCap, .slice (some a) sLen sCap]).run P w =
      .ok (goInt (Nat.min sLen dLen : Nat)) (w.setRow g (cur.toList.take o ++ cs ++ cur.toList.drop (o + cs.length)).toArray) := by
  have hl := run_loadCells_list (P := P) w a cs hsrc
  have hst := run_storeCells_at P g o t cs 0 cur w hg (by simpa using hfit) h1
  cases hq : P.info? elem with
  | none => simp [hq] at hs
  | some i =>
    have hi : i.size = sz := by simpa [hq] using hs
    rw [hn] at hl
    simp [Builtin.copy_, run_underlying hu, Builtin.lenOf, Builtin.firstCells, sizeOf, typeInfo, hq, hi, hl, hst]
theorem run_copy_none_wide (P : Program) (w : World) (dT sT ty elem : TypeId) (d a : Option Addr) (dLen dCap sLen sCap sz : Nat) (hu : P.underlying dT = some (.slice elem)) (hs : (P.info? elem).map (·.size) = some sz) (hn : Nat.min sLen dLen = 0) :
    (Builtin.copy_ #[dT, sT] ty #[.slice d dLen dCap, .slice a sLen sCap]).run P w = .ok (goInt 0) w := by
  cases hq : P.info? elem with
  | none => simp [hq] at hs
  | some i =>
    have hl : ∀ (x : Addr), (loadCells x 0).run P w = .ok #[] w := fun x => by simpa using run_loadCells_list (P := P) w x [] (by simp)
    cases d <;> cases a <;> simp [Builtin.copy_, run_underlying hu, Builtin.lenOf, Builtin.firstCells, sizeOf, typeInfo, hq, hn, storeCells, hl]
theorem wpList_copy_wide {P : Program} {w : World} {ops : Array Oper} {rest : List Oper} {o : Oper} {a : Act} {Q : Exit → Act → World → Prop} (hgd : o.guard = none) (d s : Operand) (dT sT : TypeId)
    (ho : o.op = .call { callee := .builtin .copy, args := #[d, s], argTypes := #[dT, sT] }) (elem : TypeId) (sz : Nat) (hz : 0 < sz) (hu : P.underlying dT = some (.slice elem)) (hsz : (P.info? elem).map (·.size) = some sz)
    (dp sp : Option Addr) (dLen dCap sLen sCap : Nat) (hd : a.eval d = .slice dp dLen dCap) (hs : a.eval s = .slice sp sLen sCap)
    (g off : Nat) (cur : List Value) (t : TypeId) (hg : w.heap[g]? = some (.cells cur.toArray t (0, 0))) (cs : List Value) (hn : cs.length = Nat.min sLen dLen * sz)
    (hpos : 0 < cs.length → dp = some ⟨g, off, none⟩ ∧ ∃ ad, sp = some ad ∧ ∀ j v, cs[j]? = some v → w.cell? (ad.add j) = some v)
    (hfit : off + cs.length ≤ cur.length) (h1 : ∀ v ∈ cs, v.oneCell' = true) (B : Nat) (w0 : World) (hb : Below B w0 w) (hBg : B ≤ g)
    (h : ∀ w', Hid (w'.heap[g]? = some (.cells (splice cur off cs).toArray t (0, 0))) → Below B w0 w' → wpList P ops Q rest (a.put o.dst (goInt (Nat.min sLen dLen : Nat))) w') :
    wpList P ops Q (o :: rest) a w := by
  refine wpList_plain hgd fun K hK => ?_
  by_cases h0 : cs.length = 0
  · have hm : Nat.min sLen dLen = 0 := by
      rcases Nat.eq_zero_or_pos (Nat.min sLen dLen) with h | h
      · exact h
      · have := Nat.mul_pos h hz; omega
    obtain rfl : cs = [] := List.eq_nil_of_length_eq_zero h0
    have hrun := run_copy_none_wide P w dT sT o.type elem dp sp dLen dCap sLen sCap sz hu hsz hm
    unfold Oper.wp
    simp [execOp, ho, resolve, invoke, builtin, hd, hs, hrun, Result.andThen]
    refine hK _ _ ?_
    have := h w (show _ = _ by simpa [splice] using hg) hb
    rw [hm] at this
    exact this
  · obtain ⟨rfl, ad, rfl, hsrc⟩ := hpos (by omega)
    have hrun := run_copy_wide P w dT sT o.type elem g off dLen dCap ad sLen sCap sz cur.toArray t cs hu hsz hg hn hsrc (by simpa using hfit) h1
    unfold Oper.wp
    simp [execOp, ho, resolve, invoke, builtin, hd, hs, hrun, Result.andThen]
    refine hK _ _ ?_
    exact h _ (show _ = _ by simpa [splice] using setRow_heap w g _ _ t _ hg) (below_setRow hb hBg _)
theorem step_copy_wide {P : Program} {ops : Array Oper} {o : Oper} {a : Act} {w : World} {K : Act → World → Prop} {Q : Exit → Act → World → Prop} {E : Prop} (hgd : o.guard = none) (d s : Operand) (dT sT : TypeId)
    (ho : o.op = .call { callee := .builtin .copy, args := #[d, s], argTypes := #[dT, sT] }) (elem : TypeId) (sz : Nat) (hz : 0 < sz) (hu : P.underlying dT = some (.slice elem)) (hsz : (P.info? elem).map (·.size) = some sz)
    (dp sp : Option Addr) (dLen dCap sLen sCap : Nat) (hd : a.eval d = .slice dp dLen dCap) (hs : a.eval s = .slice sp sLen sCap)
    (g off : Nat) (cur : List Value) (t : TypeId) (hg : w.heap[g]? = some (.cells cur.toArray t (0, 0))) (cs : List Value) (hn : cs.length = Nat.min sLen dLen * sz)
    (hpos : 0 < cs.length → dp = some ⟨g, off, none⟩ ∧ ∃ ad, sp = some ad ∧ ∀ j v, cs[j]? = some v → w.cell? (ad.add j) = some v)
    (hfit : off + cs.length ≤ cur.length) (h1 : ∀ v ∈ cs, v.oneCell' = true) (B : Nat) (w0 : World) (hb : RowKit.Below B w0 w) (hBg : B ≤ g)
    (h : ∀ w', RowKit.Hid (w'.heap[g]? = some (.cells (splice cur off cs).toArray t (0, 0))) → RowKit.Below B w0 w' → K (a.put o.dst (goInt (Nat.min sLen dLen : Nat))) w') :
    if Region.wanted o (yielded ops a.tmps) = true then Oper.wp P o a w K Q else E := by
  have hw : Region.wanted o (yielded ops a.tmps) = true := by simp [Region.wanted, hgd]
  rw [if_pos hw]
  by_cases h0 : cs.length = 0
  · have hm : Nat.min sLen dLen = 0 := by
      rcases Nat.eq_zero_or_pos (Nat.min sLen dLen) with h | h
      · exact h
      · have := Nat.mul_pos h hz; omega
    obtain rfl : cs = [] := List.eq_nil_of_length_eq_zero h0
    have hrun := run_copy_none_wide P w dT sT o.type elem dp sp dLen dCap sLen sCap sz hu hsz hm
    unfold Oper.wp
    simp [execOp, ho, resolve, invoke, builtin, hd, hs, hrun, Result.andThen]
    have := h w (show _ = _ by simpa [splice] using hg) hb
    rw [hm] at this
    exact this
  · obtain ⟨rfl, ad, rfl, hsrc⟩ := hpos (by omega)
    have hrun := run_copy_wide P w dT sT o.type elem g off dLen dCap ad sLen sCap sz cur.toArray t cs hu hsz hg hn hsrc (by simpa using hfit) h1
    unfold Oper.wp
    simp [execOp, ho, resolve, invoke, builtin, hd, hs, hrun, Result.andThen]
    exact h _ (show _ = _ by simpa [splice] using setRow_heap w g _ _ t _ hg) (below_setRow hb hBg _)
end Go
namespace Go.Proofs.YtbgcadcpeabpgaaGreat
open Go.RowKit
/-- So many times the same cells. -/
def reps (k : Nat) (xs : List Value) : List Value := (List.replicate k xs).flatten
theorem reps_len (k : Nat) (xs : List Value) : (reps k xs).length = k * xs.length := by unfold reps; rw [List.length_flatten]; simp
theorem reps_add (k m : Nat) (xs : List Value) : reps k xs ++ reps m xs = reps (k + m) xs := by
  unfold reps; rw [← List.flatten_append, List.replicate_append_replicate]
theorem reps_one (xs : List Value) : reps 1 xs = xs := by simp [reps]
theorem reps_succ (k : Nat) (xs : List Value) : reps (k + 1) xs = xs ++ reps k xs := by unfold reps; rw [List.replicate_succ]; rfl
theorem reps_mem {k : Nat} {xs : List Value} {v : Value} (h : v ∈ reps k xs) : v ∈ xs := by
  unfold reps at h
  obtain ⟨l, hl, hv⟩ := List.mem_flatten.1 h
  rwa [List.eq_of_mem_replicate hl] at hv
theorem reps_at {xs : List Value} : ∀ {k i j : Nat}, i < k → j < xs.length → (reps k xs)[i * xs.length + j]? = xs[j]?
  | 0, i, j, h, _ => by omega
  | k + 1, 0, j, _, hj => by rw [reps_succ, Nat.zero_mul, Nat.zero_add, List.getElem?_append_left hj]
  | k + 1, i + 1, j, h, hj => by
    rw [reps_succ, List.getElem?_append_right (by rw [Nat.succ_mul]; omega), show (i + 1) * xs.length + j - xs.length = i * xs.length + j by rw [Nat.succ_mul]; omega]
    exact reps_at (by omega) hj
theorem splice_reps {xs cur : List Value} {k m : Nat} (h : cur.take (k * xs.length) = reps k xs) (hk : (k + m) * xs.length ≤ cur.length) : (splice cur (k * xs.length) (reps m xs)).take ((k + m) * xs.length) = reps (k + m) xs ∧ (splice cur (k * xs.length) (reps m xs)).length = cur.length := by
  have e : (k + m) * xs.length = k * xs.length + m * xs.length := Nat.add_mul _ _ _
  refine ⟨?_, length_splice _ _ _ (by rw [reps_len]; omega)⟩
  unfold splice
  rw [h, ← List.append_assoc, reps_add, List.take_append_of_le_length (by rw [reps_len]; omega), List.take_of_length_le (by rw [reps_len]; omega)]
/-- So many are there. -/
def QInv (w2 : World) (G n : Nat) (xs : List Value) (iv : Value) (wr : World) : Prop := ∃ (k : Nat) (cur : List Value), iv = .int .i64 k ∧ k ≤ n ∧ (0 < n → 0 < k) ∧ cur.length = n * xs.length ∧ cur.take (k * xs.length) = reps k xs ∧ wr.heap[G]? = some (.cells cur.toArray 68 (0, 0)) ∧ Below G w2 wr
theorem QInv.start {w2 w3 : World} {G n : Nat} {xs X : List Value} (hX : X.length = n * xs.length) (h : w3.heap[G]? = some (.cells (splice X 0 (reps (Nat.min 1 n) xs)).toArray 68 (0, 0))) (hb : Below G w2 w3) : QInv w2 G n xs (.int .i64 ((Nat.min 1 n : Nat) : Int)) w3 := by
  have h2 : Nat.min 1 n ≤ n := Nat.min_le_right 1 n
  have h3 : Nat.min 1 n = if 1 ≤ n then 1 else n := Nat.min_def
  have hm := Nat.mul_le_mul_right xs.length h2
  obtain ⟨s1, s2⟩ := splice_reps (xs := xs) (cur := X) (k := 0) (m := Nat.min 1 n) (by rw [Nat.zero_mul]; rfl) (by rw [Nat.zero_add]; omega)
  rw [Nat.zero_add, Nat.zero_mul] at s1
  rw [Nat.zero_mul] at s2
  exact ⟨Nat.min 1 n, _, rfl, h2, fun h => by rw [h3]; split <;> omega, by omega, s1, h, hb⟩
theorem QInv.next {w2 w4 : World} {G n k : Nat} {xs cur : List Value} (hk : k < n) (hp : 0 < k) (hl : cur.length = n * xs.length) (ht : cur.take (k * xs.length) = reps k xs) (h : w4.heap[G]? = some (.cells (splice cur (k * xs.length) (reps (Nat.min k (n - k)) xs)).toArray 68 (0, 0))) (hb : Below G w2 w4) : QInv w2 G n xs (.int .i64 ((k + Nat.min k (n - k) : Nat) : Int)) w4 ∧ n - (k + Nat.min k (n - k)) < n - k := by
  have h3 : Nat.min k (n - k) = if k ≤ n - k then k else n - k := Nat.min_def
  have h4 : 0 < Nat.min k (n - k) ∧ k + Nat.min k (n - k) ≤ n := by rw [h3]; split <;> omega
  have hm := Nat.mul_le_mul_right xs.length h4.2
  obtain ⟨s1, s2⟩ := splice_reps (xs := xs) (cur := cur) (k := k) (m := Nat.min k (n - k)) ht (by omega)
  exact ⟨⟨_, _, rfl, h4.2, fun _ => by omega, by omega, s1, h, hb⟩, by omega⟩
/-- A row of its own is told, of so many. -/
def QRow (n : Nat) (xs : List Value) (w : World) (e : Ending) (w' : World) : Prop := ∃ G, e = .returned (.slice (some ⟨G, 0, none⟩) n n) ∧ w.heap.size ≤ G ∧ w'.heap[G]? = some (.cells (reps n xs).toArray 68 (0, 0)) ∧ Ext w w'
theorem elt_cell_ : Elt Tryz.prog 24 68 7 104 :=
  ⟨Tryz.underlying24, by
    obtain ⟨i, hi, h1, h2, h3⟩ := info_parts (P := Tryz.prog) (e := 68) (z := .agg #[.int .u64 0, .int .i64 0, .bool false, .slice none 0 0, .slice none 0 0, .int .i64 0, .slice none 0 0]) (size := 7) (bytes := 104) (by kernel_rfl)
    exact ⟨i, _, hi, h1, h2, h3, rfl⟩, by decide⟩
theorem src_cell {w w2 : World} {ad : Addr} {xs : List Value} (h : ∀ j v, xs[j]? = some v → w.cell? (ad.add j) = some v) (hx : Ext w w2) (m : Nat) (hm : m ≤ 1) : 0 < (reps m xs).length → ∃ ad', some ad = some ad' ∧ ∀ j v, (reps m xs)[j]? = some v → w2.cell? (ad'.add j) = some v := by
  intro hp
  have : m = 1 := by
    rcases Nat.lt_or_ge 0 m with h | h
    · omega
    · have : m = 0 := by omega
      subst this; simp [reps] at hp
  subst this
  rw [reps_one]
  refine ⟨ad, rfl, fun j v hv => ?_⟩
  have h0 := h j v hv
  have hb : ad.block < w.heap.size := by
    rcases Nat.lt_or_ge ad.block w.heap.size with g | g
    · exact g
    · have hn : w.heap[ad.block]? = none := Array.getElem?_eq_none g
      have e : (ad.add j).block = ad.block := by unfold Addr.add; split <;> rfl
      unfold World.cell? at h0
      rw [e, hn] at h0
      cases h0
  have e : (ad.add j).block = ad.block := by unfold Addr.add; split <;> rfl
  rw [← h0]
  exact World.cell?_of_block (by rw [e]; exact hx.block _ hb)
theorem src_reps {w : World} {G k : Nat} {xs cur : List Value} {T : TypeId} (h : w.heap[G]? = some (.cells cur.toArray T (0, 0))) (ht : cur.take (k * xs.length) = reps k xs) (m : Nat) (hm : m ≤ k) : ∀ j v, (reps m xs)[j]? = some v → w.cell? ((⟨G, 0, none⟩ : Addr).add j) = some v := by
  intro j v hv
  have hj := (List.getElem?_eq_some_iff.1 hv).1
  rw [reps_len] at hj
  have hmk := Nat.mul_le_mul_right xs.length hm
  have e : reps k xs = reps m xs ++ reps (k - m) xs := by rw [reps_add]; congr 1; omega
  have hcj : cur[j]? = some v := by
    have h1 : (cur.take (k * xs.length))[j]? = some v := by rw [ht, e, List.getElem?_append_left (by rw [reps_len]; exact hj)]; exact hv
    rw [List.getElem?_take, if_pos (by omega)] at h1
    exact h1
  have ea : (⟨G, 0, none⟩ : Addr).add j = ⟨G, j, none⟩ := by unfold Addr.add; split <;> simp_all
  rw [ea]
  unfold World.cell?
  simp [h, hcj]
set_option maxHeartbeats 2000000 in
theorem repeatC_any (ad : Addr) (c n : Nat) (xs : List Value) (w : World) (hn : n ≤ 1000000) (hx7 : xs.length = 7) (h1 : ∀ v ∈ xs, v.oneCell' = true) (hs : ∀ j v, xs[j]? = some v → w.cell? (ad.add j) = some v) : Calls Tryz.prog 87 #[.slice (some ad) 1 c, .int .i64 n] w (QRow n xs w) := by
  have HS := Lib.hid hs
  have HO := Lib.hid h1
  have H7 := Lib.hid hx7
  clear hs h1 hx7
  have hu : Tryz.prog.underlying 24 = some (.slice 68) := by kernel_rfl
  have hz : (Tryz.prog.info? 68).map (·.size) = some 7 := by kernel_rfl
  have HU := Lib.hid hu
  have HZ := Lib.hid hz
  clear hu hz
  go_enter Tryz.func87, Tryz.ntmps87
  go_wp2_with (first
    | (go_at_call 83; refine (mul_calls n (by omega) _).mono ?_; rintro e w1 ⟨rfl, hx1⟩)
    | (at_make; refine wpList_mkrow elt_cell_ rfl _ _ rfl n rfl rfl (by omega) (by omega) (by omega) (by unfold maxLen; omega) ?_; intro G w2 X hG HG hX hx2; have HX := Lib.hid hX; clear hX)
    | (refine wpList_copy_wide rfl (.tmp 31) (.tmp 32) 24 24 rfl 68 7 (by decide) HU.out HZ.out (some ⟨G, 0, none⟩) (some ad) n n 1 c (by simp [Act.eval, Act.put]) (by simp [Act.eval, Act.put]) G 0 X 68 HG.out (reps (Nat.min 1 n) xs) (by rw [reps_len, H7.out]) (fun hp => ⟨rfl, src_cell HS.out (hx1.trans hx2) _ (Nat.min_le_left _ _) hp⟩) (by have h1 := HX.out; have h2 : Nat.min 1 n ≤ n := Nat.min_le_right 1 n; rw [reps_len, H7.out]; omega) (fun v hv => HO.out v (reps_mem hv)) G w2 (Below.refl _ _) (Nat.le_refl _) ?_; intro w3 HG3 hb3))
  go_loopw [8] (QInv w2 G n xs) (fun iv _ => n - (intOf iv).toNat)
  case atStart => exact QInv.start (by rw [H7.out]; exact HX.out) HG3.out hb3
  case round =>
    obtain ⟨k, cur, rfl, hk, hp, hl, ht, hh, hb⟩ := hrel
    rw [H7.out] at hl ht
    have HT := Lib.hid ht
    have HH := Lib.hid hh
    have HB := Lib.hid hb
    have HL := Lib.hid hl
    clear ht hh hb hl
    by_cases hlt : k < n
    · have hpk : 0 < k := hp (by omega)
      clear hp
      have HSR := Lib.hid (src_reps (w := wr.drew) (xs := xs) HH.out (by rw [H7.out]; exact HT.out) (Nat.min k (n - k)) (Nat.min_le_left _ _))
      have HNE := Lib.hid (show (if n = k then some (⟨G, 0, none⟩ : Addr) else some ⟨G, k * 7, none⟩) = some ⟨G, k * 7, none⟩ from if_neg (by omega))
      go_wp2_with fail
      go_region_law (refine step_copy_wide rfl (.tmp 41) (.tmp 44) 24 24 rfl 68 7 (by decide) HU.out HZ.out (if n = k then some ⟨G, 0, none⟩ else some ⟨G, k * 7, none⟩) (some ⟨G, 0, none⟩) (n - k) (n - k) k n (by simp [Act.eval, Act.put]) (by simp [Act.eval, Act.put]) G (k * 7) cur 68 HH.out (reps (Nat.min k (n - k)) xs) (by rw [reps_len, H7.out]) (fun _ => ⟨HNE.out, _, rfl, HSR.out⟩) (by have h1 := HL.out; have h2 : Nat.min k (n - k) ≤ n - k := Nat.min_le_right k (n - k); rw [reps_len, H7.out]; omega) (fun v hv => HO.out v (reps_mem hv)) G w2 HB.out.drew (Nat.le_refl _) ?_; intro w4 HG4 hb4)
      go_wp2
      go_roundw
      case rel =>
        rw [rep_wrap hlt (by omega)]
        exact (QInv.next (xs := xs) (cur := cur) hlt hpk (by rw [H7.out]; exact HL.out) (by rw [H7.out]; exact HT.out) (by rw [H7.out]; exact HG4.out) hb4).1
      case measure =>
        rw [rep_wrap hlt (by omega)]
        exact (QInv.next (xs := xs) (cur := cur) hlt hpk (by rw [H7.out]; exact HL.out) (by rw [H7.out]; exact HT.out) (by rw [H7.out]; exact HG4.out) hb4).2
    · have hkn : k = n := by omega
      subst hkn
      go_wp2_with fail
      go_ret
      have hh := HH.out
      have hcur : cur = reps k xs := by
        have h1 := HT.out
        rw [List.take_of_length_le (by have := HL.out; omega)] at h1
        exact h1
      rw [hcur] at hh
      exact ⟨G, rfl, Nat.le_trans hx1.size hG, hh, Below.trans (hx1.trans hx2) (Below.mono HB.out (Nat.le_trans hx1.size hG))⟩
/-- What is said of slices.Repeat: of one cell. -/
theorem repeatC_sp (n : Nat) (x : Cell) (hn : n ≤ 1000000) : Sp 87 [.sl [dC x], .int (n : Int)] [.sl (List.replicate n (dC x))] := by
  refine spec_of wfP Tryz.func87 (by kernel_rfl) (by kernel_rfl) (by kernel_rfl) (fun w M vs hM _ hlv hrd => ?_)
  have hps : Tryz.f87.params.toList = [24, 3] := by kernel_rfl
  have hu : Tryz.prog.underlying 24 = some (.slice 68) := by kernel_rfl
  have hc7 : Tryz.prog.cellsOf 68 = 7 := by kernel_rfl
  have hlen : vs.length = 2 := by rw [hlv]; rfl
  match vs, hlen with
  | [va, vb], _ =>
    rw [hps] at hrd
    have ra := hrd 0 _ _ _ rfl rfl rfl
    obtain ⟨rfl, _⟩ := rd_i64 (hrd 1 _ _ _ rfl rfl rfl)
    have hva : ∃ A c, va = .slice A 1 c := by
      obtain ⟨h1, h2, h3⟩ := ra
      have ha : isAggV va = false := by rw [h3]; kernel_rfl
      cases h1 with
      | @sl _ e _ _ A cap bk off ht hc h4 h5 hA hh =>
        rw [cells_of ha] at hc
        exact ⟨A, cap, by simpa using hc⟩
    obtain ⟨A, c, rfl⟩ := hva
    obtain ⟨_, _, _, bk, off, hA, hel⟩ := sl_parts ra.rd hu
    obtain ⟨rfl, hMb, hbs⟩ := hA (by simp)
    obtain ⟨news, hnl, hsrc, hone, hnr⟩ := els_cells wfP (by rw [hc7]; decide) hel
    have hn7 : news.length = 7 := by rw [hnl, hc7]; rfl
    have hx0 := hnr 0 (dC x) rfl
    refine (repeatC_any _ c n news w hn hn7 hone hsrc).mono ?_
    rintro e w' ⟨G, rfl, hG, hv, hx⟩
    refine ⟨[_], rfl, rfl, fun i t u ht hu' => ?_, hx⟩
    rw [show Tryz.f87.resultTypes.toList = [24] by kernel_rfl] at ht
    match i with
    | 0 =>
      cases ht; cases hu'
      have hGs : ¬ M G := fun hm => by have := hM G hm; omega
      have hGl : G < w'.heap.size := (Array.getElem?_eq_some_iff.1 hv).1
      refine ⟨.sl (e := 68) (A := some ⟨G, 0, none⟩) (cap := n) (bk := G) (off := 0) hu (by simp; rfl) (by simp) (by unfold maxLen; omega) (fun _ => ⟨rfl, hGs, hGl⟩) (fun i y hy => ?_), by kernel_rfl, by kernel_rfl⟩
      have hi : i < n := by have := (List.getElem?_eq_some_iff.1 hy).1; simpa using this
      have hy' : y = dC x := by
        have := List.mem_of_getElem? hy
        exact List.eq_of_mem_replicate this
      subst hy'
      have h1 := hx0.mono (w' := w') (M' := M) hx.size (fun b _ hb => hx.block b hb) (fun b hb _ => hb)
      refine h1.congr (fun j hj => ?_) (by show 0 < Tryz.prog.cellsOf 68; rw [hc7]; decide)
      have hj7 : j < 7 := by
        have : j < Tryz.prog.cellsOf 68 := hj
        rwa [hc7] at this
      show w'.cell? ⟨G, 0 + (i * Tryz.prog.cellsOf 68 + j), none⟩ = news[0 * Tryz.prog.cellsOf 68 + j]?
      rw [hc7, Nat.zero_mul, Nat.zero_add, Nat.zero_add, ← reps_at (xs := news) hi (by omega), hn7]
      unfold World.cell?
      simp [hv]
    | i + 1 => simp at ht
end Go.Proofs.YtbgcadcpeabpgaaGreat
set_option maxRecDepth 100000
namespace Go.Proofs.YtbgcadcpeabpgaaGreat
/-! scrim/pick.Replicate -/
def pick_Replicate_orc : List (Nat × Orc) := [(18, ⟨[(3, none), (4, none), (6, none), (7, none), (9, some 23), (10, none), (11, none), (13, none), (64, some 23), (65, none), (66, none)], [(3, true), (4, true), (6, false), (7, false)], [(.slot 13, 1180, 3)]⟩), (25, ⟨[(3, none), (4, none), (6, none), (7, none), (9, some 23), (10, none), (11, none), (13, none), (14, none), (64, some 23), (65, none), (66, none), (79, none), (80, none)], [(3, true), (4, true), (6, false), (7, false)], [(.slot 13, 1250, 3)]⟩)]
def pick_Replicate_ps : List Nat := [26, 26, 4]
def pick_Replicate_rs : List ResultVar := [.cell 6 26, .cell 7 29]
def pick_Replicate_ts : List Nat := [26, 29]
noncomputable def pick_Replicate_l25 (n m18 m25 : Nat) (s9 : D) (axis10 : Int) (long11 : Int) (from13 : List D) (i14 : Int) (t64 : D) (t65 : Int) (t66 : Int) (t79 : Int) (t80 : Int) (nn3 : D) (a4 : D) (r6_0 : Int) (e7 : Int) : Tree :=
  evLoop Tryz.prog md (ev Tryz.prog md n pick_Replicate_orc (cAt (bodyOf Tryz.prog 12) [1, 1, 1, 1, 1, 1, 1, 1, 1, 1, 1, 1, 0, 1, 0, 0, 1, 1, 0, 0, 1, 1, 1, 1, 0, 0])) (orcAt pick_Replicate_orc 25) m25 ⟨[.undef, .undef, .undef, .ptr 3 [], .ptr 4 [], .undef, .ptr 6 [], .ptr 7 [], .undef, .d 23 s9, .i .i64 axis10, .i .i64 long11, .undef, .row 1250, .i .i64 i14, .undef, .undef, .undef, .undef, .undef, .undef, .undef, .undef, .undef, .undef, .undef, .undef, .undef, .undef, .undef, .undef, .undef, .undef, .undef, .undef, .undef, .undef, .undef, .undef, .undef, .undef, .undef, .undef, .undef, .undef, .undef, .undef, .undef, .undef, .undef, .undef, .undef, .undef, .undef, .undef, .undef, .undef, .undef, .undef, .undef, .undef, .undef, .undef, .undef, .d 23 t64, .i .i64 t65, .i .i64 t66, .undef, .undef, .undef, .undef, .undef, .undef, .undef, .undef, .undef, .undef, .undef, .undef, .i .i64 t79, .i .i64 t80, .undef, .undef, .undef, .undef, .undef, .undef, .undef, .undef, .undef, .undef, .undef, .undef, .undef, .undef, .undef], [(3, .var 26 (.d 26 nn3) true), (4, .var 26 (.d 26 a4) true), (6, .var 26 (.agg 26 [.i .u64 r6_0, .mt, .mt]) true), (7, .var 29 (.i .i64 e7) true), (1250, .row 3 from13 true)], [3, 4, 6, 7, 1250], [(39, [.ptr 6 [], .ptr 7 []])], []⟩
   (blockK 2 (blockK 1 (seqK (joinE Tryz.prog md (joinAt pick_Replicate_orc (cAt (bodyOf Tryz.prog 12) [1, 1, 1, 1, 1, 1, 1, 1, 1, 1, 1, 1, 0, 1, 0, 0, 1, 1, 1])) (ev Tryz.prog md n pick_Replicate_orc (cAt (bodyOf Tryz.prog 12) [1, 1, 1, 1, 1, 1, 1, 1, 1, 1, 1, 1, 0, 1, 0, 0, 1, 1, 1]))) (loopK Tryz.prog md (orcAt pick_Replicate_orc 18) (fun s1 => evLoop Tryz.prog md (ev Tryz.prog md n pick_Replicate_orc (cAt (bodyOf Tryz.prog 12) [1, 1, 1, 1, 1, 1, 1, 1, 1, 1, 1, 1, 0, 1, 0, 0])) (orcAt pick_Replicate_orc 18) m18 s1 (blockK 0 (seqK (joinE Tryz.prog md (joinAt pick_Replicate_orc (cAt (bodyOf Tryz.prog 12) [1, 1, 1, 1, 1, 1, 1, 1, 1, 1, 1, 1, 1])) (ev Tryz.prog md n pick_Replicate_orc (cAt (bodyOf Tryz.prog 12) [1, 1, 1, 1, 1, 1, 1, 1, 1, 1, 1, 1, 1]))) (retK Tryz.prog md (md 12) pick_Replicate_ps pick_Replicate_rs pick_Replicate_ts)))) (blockK 0 (seqK (joinE Tryz.prog md (joinAt pick_Replicate_orc (cAt (bodyOf Tryz.prog 12) [1, 1, 1, 1, 1, 1, 1, 1, 1, 1, 1, 1, 1])) (ev Tryz.prog md n pick_Replicate_orc (cAt (bodyOf Tryz.prog 12) [1, 1, 1, 1, 1, 1, 1, 1, 1, 1, 1, 1, 1]))) (retK Tryz.prog md (md 12) pick_Replicate_ps pick_Replicate_rs pick_Replicate_ts)))))))
noncomputable def pick_Replicate_l18 (n m18 : Nat) (s9 : D) (axis10 : Int) (long11 : Int) (from13 : List D) (t64 : D) (t65 : Int) (t66 : Int) (nn3 : D) (a4 : D) (r6_0 : Int) (e7 : Int) : Tree :=
  evLoop Tryz.prog md (ev Tryz.prog md n pick_Replicate_orc (cAt (bodyOf Tryz.prog 12) [1, 1, 1, 1, 1, 1, 1, 1, 1, 1, 1, 1, 0, 1, 0, 0])) (orcAt pick_Replicate_orc 18) m18 ⟨[.undef, .undef, .undef, .ptr 3 [], .ptr 4 [], .undef, .ptr 6 [], .ptr 7 [], .undef, .d 23 s9, .i .i64 axis10, .i .i64 long11, .undef, .row 1180, .undef, .undef, .undef, .undef, .undef, .undef, .undef, .undef, .undef, .undef, .undef, .undef, .undef, .undef, .undef, .undef, .undef, .undef, .undef, .undef, .undef, .undef, .undef, .undef, .undef, .undef, .undef, .undef, .undef, .undef, .undef, .undef, .undef, .undef, .undef, .undef, .undef, .undef, .undef, .undef, .undef, .undef, .undef, .undef, .undef, .undef, .undef, .undef, .undef, .undef, .d 23 t64, .i .i64 t65, .i .i64 t66, .undef, .undef, .undef, .undef, .undef, .undef, .undef, .undef, .undef, .undef, .undef, .undef, .undef, .undef, .undef, .undef, .undef, .undef, .undef, .undef, .undef, .undef, .undef, .undef, .undef, .undef, .undef, .undef, .undef], [(3, .var 26 (.d 26 nn3) true), (4, .var 26 (.d 26 a4) true), (6, .var 26 (.agg 26 [.i .u64 r6_0, .mt, .mt]) true), (7, .var 29 (.i .i64 e7) true), (1180, .row 3 from13 true)], [3, 4, 6, 7, 1180], [(39, [.ptr 6 [], .ptr 7 []])], []⟩
   (blockK 0 (seqK (joinE Tryz.prog md (joinAt pick_Replicate_orc (cAt (bodyOf Tryz.prog 12) [1, 1, 1, 1, 1, 1, 1, 1, 1, 1, 1, 1, 1])) (ev Tryz.prog md n pick_Replicate_orc (cAt (bodyOf Tryz.prog 12) [1, 1, 1, 1, 1, 1, 1, 1, 1, 1, 1, 1, 1]))) (retK Tryz.prog md (md 12) pick_Replicate_ps pick_Replicate_rs pick_Replicate_ts)))
theorem pick_Replicate_l25_succ (n m18 m25 : Nat) (s9 : D) (axis10 : Int) (long11 : Int) (from13 : List D) (i14 : Int) (t64 : D) (t65 : Int) (t66 : Int) (t79 : Int) (t80 : Int) (nn3 : D) (a4 : D) (r6_0 : Int) (e7 : Int) : pick_Replicate_l25 n m18 (m25 + 1) s9 axis10 long11 from13 i14 t64 t65 t66 t79 t80 nn3 a4 r6_0 e7 =
 .br (decide (t80 < t79)) (.br (decide (from13.length + [D.int i14].length ≤ bigN)) (pick_Replicate_l25 n m18 m25 s9 axis10 long11 (from13 ++ [D.int i14]) i14 t64 t65 t66 t79 (IntKind.wrap .i64 (t80 + 1)) nn3 a4 r6_0 e7) .fail)
 (pick_Replicate_l18 n m18 s9 axis10 long11 from13 t64 t65 (IntKind.wrap .i64 (t66 + 1)) nn3 a4 r6_0 e7) := by kernel_rfl
theorem pick_Replicate_l18_succ (n m18 : Nat) (s9 : D) (axis10 : Int) (long11 : Int) (from13 : List D) (t64 : D) (t65 : Int) (t66 : Int) (nn3 : D) (a4 : D) (r6_0 : Int) (e7 : Int) : pick_Replicate_l18 n (m18 + 1) s9 axis10 long11 from13 t64 t65 t66 nn3 a4 r6_0 e7 =
 .br (decide (t66 < t65)) (.br (decide (0 ≤ t66)) (.br (decide (t66 < (t64.els.length : Int))) (.br (decide ((IntKind.wrap .i64 (2048 - (from13.length : Int))) < ((t64.els.getD (Int.toNat t66) D.nil).toInt))) (.ret [D.agg [D.int 0, D.sl [], D.sl []], D.int 7])
 (.br (long11 == 1) (pick_Replicate_l25 n m18 n s9 axis10 long11 from13 0 t64 t65 t66 ((t64.els.getD (Int.toNat t66) D.nil).toInt) 0 nn3 a4 r6_0 e7)
 (pick_Replicate_l25 n m18 n s9 axis10 long11 from13 t66 t64 t65 t66 ((t64.els.getD (Int.toNat t66) D.nil).toInt) 0 nn3 a4 r6_0 e7))) .fail) .fail)
 (.call 45 [] [nn3, a4, s9, D.int axis10, D.sl from13] fun yy5 =>
 .ret [yy5.getD 0 D.nil, D.int ((yy5.getD 1 D.nil).toInt)]) := by kernel_rfl
theorem pick_Replicate_tree (n : Nat) (nn0 : D) (a1 : D) (first2 : D) : evFun Tryz.prog md pick_Replicate_orc n 12 [] [nn0, a1, first2] =
 .call 40 [] [nn0] fun yy1 =>
 .br (((yy1.getD 1 D.nil).toInt) != 0) (.ret [D.agg [D.int 0, D.sl [], D.sl []], D.int ((yy1.getD 1 D.nil).toInt)])
 (.call 41 [] [yy1.getD 0 D.nil, D.fn 42 [] []] fun yy2 =>
 .br ((yy2.getD 0 D.nil).toBool) (.ret [D.agg [D.int 0, D.sl [], D.sl []], D.int 3])
 (.call 43 [] [a1, D.bool first2.toBool] fun yy3 =>
 .br (decide (0 ≤ (yy3.getD 1 D.nil).toInt)) (.br (decide ((yy3.getD 1 D.nil).toInt < (((yy3.getD 0 D.nil).els).length : Int))) (.br (!((((nn0.fld 1).els).length : Int) == 0)) (.br (((((yy3.getD 0 D.nil).els).getD (Int.toNat ((yy3.getD 1 D.nil).toInt)) D.nil).toInt) != 1) (.br ((((yy1.getD 0 D.nil).els).length : Int) != ((((yy3.getD 0 D.nil).els).getD (Int.toNat ((yy3.getD 1 D.nil).toInt)) D.nil).toInt)) (.ret [D.agg [D.int 0, D.sl [], D.sl []], D.int 4])
 (.br (decide (2048 < ((((yy3.getD 0 D.nil).els).getD (Int.toNat ((yy3.getD 1 D.nil).toInt)) D.nil).toInt))) (.ret [D.agg [D.int 0, D.sl [], D.sl []], D.int 7])
 (.br ((((nn0.fld 1).els).length : Int) == 0) (.call 44 [] [yy1.getD 0 D.nil, D.int ((((yy3.getD 0 D.nil).els).getD (Int.toNat ((yy3.getD 1 D.nil).toInt)) D.nil).toInt)] fun yy4 =>
 pick_Replicate_l18 n n (yy3.getD 0 D.nil) ((yy3.getD 1 D.nil).toInt) ((((yy3.getD 0 D.nil).els).getD (Int.toNat ((yy3.getD 1 D.nil).toInt)) D.nil).toInt) [] (yy4.getD 0 D.nil) (((yy4.getD 0 D.nil).els).length : Int) 0 nn0 a1 0 ((yy1.getD 1 D.nil).toInt))
 (pick_Replicate_l18 n n (yy3.getD 0 D.nil) ((yy3.getD 1 D.nil).toInt) ((((yy3.getD 0 D.nil).els).getD (Int.toNat ((yy3.getD 1 D.nil).toInt)) D.nil).toInt) [] (yy1.getD 0 D.nil) (((yy1.getD 0 D.nil).els).length : Int) 0 nn0 a1 0 ((yy1.getD 1 D.nil).toInt)))))
 (.br (decide (2048 < ((((yy3.getD 0 D.nil).els).getD (Int.toNat ((yy3.getD 1 D.nil).toInt)) D.nil).toInt))) (.ret [D.agg [D.int 0, D.sl [], D.sl []], D.int 7])
 (.br ((((nn0.fld 1).els).length : Int) == 0) (.call 44 [] [yy1.getD 0 D.nil, D.int ((((yy3.getD 0 D.nil).els).getD (Int.toNat ((yy3.getD 1 D.nil).toInt)) D.nil).toInt)] fun yy6 =>
 pick_Replicate_l18 n n (yy3.getD 0 D.nil) ((yy3.getD 1 D.nil).toInt) ((((yy3.getD 0 D.nil).els).getD (Int.toNat ((yy3.getD 1 D.nil).toInt)) D.nil).toInt) [] (yy6.getD 0 D.nil) (((yy6.getD 0 D.nil).els).length : Int) 0 nn0 a1 0 ((yy1.getD 1 D.nil).toInt))
 (pick_Replicate_l18 n n (yy3.getD 0 D.nil) ((yy3.getD 1 D.nil).toInt) ((((yy3.getD 0 D.nil).els).getD (Int.toNat ((yy3.getD 1 D.nil).toInt)) D.nil).toInt) [] (yy1.getD 0 D.nil) (((yy1.getD 0 D.nil).els).length : Int) 0 nn0 a1 0 ((yy1.getD 1 D.nil).toInt)))))
 (.br (decide (2048 < ((((yy3.getD 0 D.nil).els).getD (Int.toNat ((yy3.getD 1 D.nil).toInt)) D.nil).toInt))) (.ret [D.agg [D.int 0, D.sl [], D.sl []], D.int 7])
 (.br ((((nn0.fld 1).els).length : Int) == 0) (.call 44 [] [yy1.getD 0 D.nil, D.int ((((yy3.getD 0 D.nil).els).getD (Int.toNat ((yy3.getD 1 D.nil).toInt)) D.nil).toInt)] fun yy7 =>
 pick_Replicate_l18 n n (yy3.getD 0 D.nil) ((yy3.getD 1 D.nil).toInt) ((((yy3.getD 0 D.nil).els).getD (Int.toNat ((yy3.getD 1 D.nil).toInt)) D.nil).toInt) [] (yy7.getD 0 D.nil) (((yy7.getD 0 D.nil).els).length : Int) 0 nn0 a1 0 ((yy1.getD 1 D.nil).toInt))
 (pick_Replicate_l18 n n (yy3.getD 0 D.nil) ((yy3.getD 1 D.nil).toInt) ((((yy3.getD 0 D.nil).els).getD (Int.toNat ((yy3.getD 1 D.nil).toInt)) D.nil).toInt) [] (yy1.getD 0 D.nil) (((yy1.getD 0 D.nil).els).length : Int) 0 nn0 a1 0 ((yy1.getD 1 D.nil).toInt))))) .fail) .fail)) := by kernel_rfl

/-! scrim/pick.Expand -/
def pick_Expand_orc : List (Nat × Orc) := [(11, ⟨[(3, none), (4, none), (6, none), (7, none), (9, some 23), (10, none), (11, none), (12, none), (39, some 23), (40, none), (41, none)], [(3, true), (4, true), (6, false), (7, false)], [(.slot 11, 1110, 3)]⟩), (20, ⟨[(3, none), (4, none), (6, none), (7, none), (9, some 23), (10, none), (11, none), (64, none), (65, none)], [(3, true), (4, true), (6, false), (7, false)], [(.slot 11, 1200, 3)]⟩)]
def pick_Expand_ps : List Nat := [26, 26, 4]
def pick_Expand_rs : List ResultVar := [.cell 6 26, .cell 7 29]
def pick_Expand_ts : List Nat := [26, 29]
noncomputable def pick_Expand_l20 (n m20 : Nat) (s9 : D) (axis10 : Int) (from11 : List D) (t64 : Int) (t65 : Int) (nn3 : D) (a4 : D) (r6_0 : Int) (e7 : Int) : Tree :=
  evLoop Tryz.prog md (ev Tryz.prog md n pick_Expand_orc (cAt (bodyOf Tryz.prog 16) [1, 1, 1, 1, 1, 1, 1, 1, 1, 0, 1, 0, 1, 0, 0])) (orcAt pick_Expand_orc 20) m20 ⟨[.undef, .undef, .undef, .ptr 3 [], .ptr 4 [], .undef, .ptr 6 [], .ptr 7 [], .undef, .d 23 s9, .i .i64 axis10, .row 1200, .undef, .undef, .undef, .undef, .undef, .undef, .undef, .undef, .undef, .undef, .undef, .undef, .undef, .undef, .undef, .undef, .undef, .undef, .undef, .undef, .undef, .undef, .undef, .undef, .undef, .undef, .undef, .undef, .undef, .undef, .undef, .undef, .undef, .undef, .undef, .undef, .undef, .undef, .undef, .undef, .undef, .undef, .undef, .undef, .undef, .undef, .undef, .undef, .undef, .undef, .undef, .undef, .i .i64 t64, .i .i64 t65, .undef, .undef, .undef, .undef, .undef, .undef, .undef, .undef, .undef, .undef, .undef, .undef, .undef, .undef, .undef, .undef, .undef, .undef, .undef, .undef, .undef, .undef, .undef, .undef, .undef, .undef], [(3, .var 26 (.d 26 nn3) true), (4, .var 26 (.d 26 a4) true), (6, .var 26 (.agg 26 [.i .u64 r6_0, .mt, .mt]) true), (7, .var 29 (.i .i64 e7) true), (1200, .row 3 from11 true)], [3, 4, 6, 7, 1200], [(51, [.ptr 6 [], .ptr 7 []])], []⟩
   (blockK 2 (seqK (joinE Tryz.prog md (joinAt pick_Expand_orc (cAt (bodyOf Tryz.prog 16) [1, 1, 1, 1, 1, 1, 1, 1, 1, 1])) (ev Tryz.prog md n pick_Expand_orc (cAt (bodyOf Tryz.prog 16) [1, 1, 1, 1, 1, 1, 1, 1, 1, 1]))) (retK Tryz.prog md (md 16) pick_Expand_ps pick_Expand_rs pick_Expand_ts)))
noncomputable def pick_Expand_l11 (n m11 : Nat) (s9 : D) (axis10 : Int) (from11 : List D) (ones12 : Int) (t39 : D) (t40 : Int) (t41 : Int) (nn3 : D) (a4 : D) (r6_0 : Int) (e7 : Int) : Tree :=
  evLoop Tryz.prog md (ev Tryz.prog md n pick_Expand_orc (cAt (bodyOf Tryz.prog 16) [1, 1, 1, 1, 1, 1, 1, 1, 0, 1, 0, 0])) (orcAt pick_Expand_orc 11) m11 ⟨[.undef, .undef, .undef, .ptr 3 [], .ptr 4 [], .undef, .ptr 6 [], .ptr 7 [], .undef, .d 23 s9, .i .i64 axis10, .row 1110, .i .i64 ones12, .undef, .undef, .undef, .undef, .undef, .undef, .undef, .undef, .undef, .undef, .undef, .undef, .undef, .undef, .undef, .undef, .undef, .undef, .undef, .undef, .undef, .undef, .undef, .undef, .undef, .undef, .d 23 t39, .i .i64 t40, .i .i64 t41, .undef, .undef, .undef, .undef, .undef, .undef, .undef, .undef, .undef, .undef, .undef, .undef, .undef, .undef, .undef, .undef, .undef, .undef, .undef, .undef, .undef, .undef, .undef, .undef, .undef, .undef, .undef, .undef, .undef, .undef, .undef, .undef, .undef, .undef, .undef, .undef, .undef, .undef, .undef, .undef, .undef, .undef, .undef, .undef, .undef, .undef, .undef, .undef, .undef, .undef], [(3, .var 26 (.d 26 nn3) true), (4, .var 26 (.d 26 a4) true), (6, .var 26 (.agg 26 [.i .u64 r6_0, .mt, .mt]) true), (7, .var 29 (.i .i64 e7) true), (1110, .row 3 from11 true)], [3, 4, 6, 7, 1110], [(51, [.ptr 6 [], .ptr 7 []])], []⟩
   (blockK 0 (seqK (joinE Tryz.prog md (joinAt pick_Expand_orc (cAt (bodyOf Tryz.prog 16) [1, 1, 1, 1, 1, 1, 1, 1, 1])) (ev Tryz.prog md n pick_Expand_orc (cAt (bodyOf Tryz.prog 16) [1, 1, 1, 1, 1, 1, 1, 1, 1]))) (retK Tryz.prog md (md 16) pick_Expand_ps pick_Expand_rs pick_Expand_ts)))
theorem pick_Expand_l20_succ (n m20 : Nat) (s9 : D) (axis10 : Int) (from11 : List D) (t64 : Int) (t65 : Int) (nn3 : D) (a4 : D) (r6_0 : Int) (e7 : Int) : pick_Expand_l20 n (m20 + 1) s9 axis10 from11 t64 t65 nn3 a4 r6_0 e7 =
 .br (decide (t65 < t64)) (.br (decide (0 ≤ t65)) (.br (decide (t65 < (from11.length : Int))) (.br (decide (0 ≤ t65)) (.br (decide (t65 < (from11.length : Int))) (pick_Expand_l20 n m20 s9 axis10 (from11.set (Int.toNat t65) (D.int (if 0 < ((from11.getD (Int.toNat t65) D.nil).toInt) then 0 else ((from11.getD (Int.toNat t65) D.nil).toInt)))) t64 (IntKind.wrap .i64 (t65 + 1)) nn3 a4 r6_0 e7) .fail) .fail) .fail) .fail)
 (.call 45 [] [nn3, a4, s9, D.int axis10, D.sl from11] fun yy4 =>
 .ret [yy4.getD 0 D.nil, D.int ((yy4.getD 1 D.nil).toInt)]) := by kernel_rfl
theorem pick_Expand_l11_succ (n m11 : Nat) (s9 : D) (axis10 : Int) (from11 : List D) (ones12 : Int) (t39 : D) (t40 : Int) (t41 : Int) (nn3 : D) (a4 : D) (r6_0 : Int) (e7 : Int) : pick_Expand_l11 n (m11 + 1) s9 axis10 from11 ones12 t39 t40 t41 nn3 a4 r6_0 e7 =
 .br (decide (t41 < t40)) (.br (decide (0 ≤ t41)) (.br (decide (t41 < (t39.els.length : Int))) (.br (decide (0 ≤ t41)) (.br (decide (t41 < (from11.length : Int))) (.br (((t39.els.getD (Int.toNat t41) D.nil).toInt) == 1) (.br (decide (0 ≤ t41)) (.br (decide (t41 < ((from11.set (Int.toNat t41) (D.int (-1))).length : Int))) (pick_Expand_l11 n m11 s9 axis10 ((from11.set (Int.toNat t41) (D.int (-1))).set (Int.toNat t41) (D.int ones12)) (IntKind.wrap .i64 (ones12 + 1)) t39 t40 (IntKind.wrap .i64 (t41 + 1)) nn3 a4 r6_0 e7) .fail) .fail)
 (pick_Expand_l11 n m11 s9 axis10 (from11.set (Int.toNat t41) (D.int (-1))) ones12 t39 t40 (IntKind.wrap .i64 (t41 + 1)) nn3 a4 r6_0 e7)) .fail) .fail) .fail) .fail)
 (.br (decide (0 ≤ axis10)) (.br (decide (axis10 < (s9.els.length : Int))) (.br (((s9.els.getD (Int.toNat axis10) D.nil).toInt) == 1) (pick_Expand_l20 n n s9 axis10 from11 (from11.length : Int) 0 nn3 a4 r6_0 e7)
 (.br (decide (0 ≤ axis10)) (.br (decide (axis10 < (s9.els.length : Int))) (.br (ones12 != ((s9.els.getD (Int.toNat axis10) D.nil).toInt)) (.ret [D.agg [D.int 0, D.sl [], D.sl []], D.int 4])
 (.call 45 [] [nn3, a4, s9, D.int axis10, D.sl from11] fun yy5 =>
 .ret [yy5.getD 0 D.nil, D.int ((yy5.getD 1 D.nil).toInt)])) .fail) .fail)) .fail) .fail) := by kernel_rfl
theorem pick_Expand_tree (n : Nat) (nn0 : D) (a1 : D) (first2 : D) : evFun Tryz.prog md pick_Expand_orc n 16 [] [nn0, a1, first2] =
 .call 40 [] [nn0] fun yy1 =>
 .br (((yy1.getD 1 D.nil).toInt) != 0) (.ret [D.agg [D.int 0, D.sl [], D.sl []], D.int ((yy1.getD 1 D.nil).toInt)])
 (.call 52 [] [yy1.getD 0 D.nil] fun yy2 =>
 .br (!((yy2.getD 0 D.nil).toBool)) (.ret [D.agg [D.int 0, D.sl [], D.sl []], D.int 3])
 (.call 43 [] [a1, D.bool first2.toBool] fun yy3 =>
 .br (decide (0 ≤ (((yy1.getD 0 D.nil).els).length : Int))) (.br (decide ((((yy1.getD 0 D.nil).els).length : Int) ≤ (((yy1.getD 0 D.nil).els).length : Int))) (.br (decide ((((yy1.getD 0 D.nil).els).length : Int) ≤ bigN)) (pick_Expand_l11 n n (yy3.getD 0 D.nil) ((yy3.getD 1 D.nil).toInt) (List.replicate (Int.toNat (((yy1.getD 0 D.nil).els).length : Int)) (D.int 0)) 0 (yy1.getD 0 D.nil) (((yy1.getD 0 D.nil).els).length : Int) 0 nn0 a1 0 ((yy1.getD 1 D.nil).toInt)) .fail) .fail) .fail)) := by kernel_rfl

/-! scrim/pick.At -/
def pick_At_orc : List (Nat × Orc) := [(7, ⟨[(1, some 40), (2, none), (4, none), (5, none), (7, some 23), (8, none), (26, some 23), (27, none), (28, none)], [(2, true), (4, false), (5, false)], [(.slot 8, 1070, 68)]⟩)]
def pick_At_ps : List Nat := [26, 40]
def pick_At_rs : List ResultVar := [.cell 4 26, .cell 5 29]
def pick_At_ts : List Nat := [26, 29]
noncomputable def pick_At_l7 (n m7 : Nat) (l1 : D) (s7 : D) (cells8 : List D) (t26 : D) (t27 : Int) (t28 : Int) (a2 : D) (r4_0 : Int) (e5 : Int) : Tree :=
  evLoop Tryz.prog md (ev Tryz.prog md n pick_At_orc (cAt (bodyOf Tryz.prog 19) [1, 1, 1, 1, 1, 0, 1, 0, 0])) (orcAt pick_At_orc 7) m7 ⟨[.undef, .d 40 l1, .ptr 2 [], .undef, .ptr 4 [], .ptr 5 [], .undef, .d 23 s7, .row 1070, .undef, .undef, .undef, .undef, .undef, .undef, .undef, .undef, .undef, .undef, .undef, .undef, .undef, .undef, .undef, .undef, .undef, .d 23 t26, .i .i64 t27, .i .i64 t28, .undef, .undef, .undef, .undef, .undef, .undef, .undef, .undef, .undef, .undef, .undef, .undef, .undef, .undef, .undef, .undef, .undef, .undef, .undef, .undef, .undef], [(2, .var 26 (.d 26 a2) true), (4, .var 26 (.agg 26 [.i .u64 r4_0, .mt, .mt]) true), (5, .var 29 (.i .i64 e5) true), (1070, .row 68 cells8 true)], [2, 4, 5, 1070], [(53, [.ptr 4 [], .ptr 5 []])], []⟩
   (blockK 0 (seqK (joinE Tryz.prog md (joinAt pick_At_orc (cAt (bodyOf Tryz.prog 19) [1, 1, 1, 1, 1, 1])) (ev Tryz.prog md n pick_At_orc (cAt (bodyOf Tryz.prog 19) [1, 1, 1, 1, 1, 1]))) (retK Tryz.prog md (md 19) pick_At_ps pick_At_rs pick_At_ts)))
theorem pick_At_l7_succ (n m7 : Nat) (l1 : D) (s7 : D) (cells8 : List D) (t26 : D) (t27 : Int) (t28 : Int) (a2 : D) (r4_0 : Int) (e5 : Int) : pick_At_l7 n (m7 + 1) l1 s7 cells8 t26 t27 t28 a2 r4_0 e5 =
 .br (decide (t28 < t27)) (.br (decide (0 ≤ t28)) (.br (decide (t28 < (t26.els.length : Int))) (.br (decide (0 ≤ (t26.els.getD (Int.toNat t28) D.nil).toInt)) (.br (decide ((t26.els.getD (Int.toNat t28) D.nil).toInt < (((a2.fld 2).els).length : Int))) (.br (decide (0 ≤ t28)) (.br (decide (t28 < (cells8.length : Int))) (pick_At_l7 n m7 l1 s7 (cells8.set (Int.toNat t28) (((a2.fld 2).els).getD (Int.toNat ((t26.els.getD (Int.toNat t28) D.nil).toInt)) D.nil)) t26 t27 (IntKind.wrap .i64 (t28 + 1)) a2 r4_0 e5) .fail) .fail) .fail) .fail) .fail) .fail)
 (.call 25 [] [l1] fun yy2 =>
 .call 54 [] [D.int ((a2.fld 0).toInt), D.int ((yy2.getD 0 D.nil).toInt)] fun yy3 =>
 .ret [D.agg [D.int ((yy3.getD 0 D.nil).toInt), s7, D.sl cells8], D.int 0]) := by kernel_rfl
theorem pick_At_tree (n : Nat) (a0 : D) (l1 : D) : evFun Tryz.prog md pick_At_orc n 19 [] [a0, l1] =
 .call 22 [] [a0, l1] fun yy1 =>
 .br (((yy1.getD 2 D.nil).toInt) != 0) (.ret [D.agg [D.int 0, D.sl [], D.sl []], D.int ((yy1.getD 2 D.nil).toInt)])
 (.br (decide (0 ≤ (((yy1.getD 0 D.nil).els).length : Int))) (.br (decide ((((yy1.getD 0 D.nil).els).length : Int) ≤ (((yy1.getD 0 D.nil).els).length : Int))) (.br (decide ((((yy1.getD 0 D.nil).els).length : Int) ≤ bigN)) (pick_At_l7 n n l1 (yy1.getD 1 D.nil) (List.replicate (Int.toNat (((yy1.getD 0 D.nil).els).length : Int)) (D.agg [D.int 0, D.int 0, D.agg [D.bool false, D.sl [], D.sl []], D.int 0, D.sl []])) (yy1.getD 0 D.nil) (((yy1.getD 0 D.nil).els).length : Int) 0 a0 0 ((yy1.getD 2 D.nil).toInt)) .fail) .fail) .fail) := by kernel_rfl

/-! scrim/pick.Places -/
def pick_Places_orc : List (Nat × Orc) := [(6, ⟨[(2, none), (4, none), (5, none), (6, none), (33, some 40), (34, none), (35, none)], [(2, true), (4, false), (5, false), (6, false)], [(.fld 4 [], 1060, 3), (.fld 5 [], 1061, 3)]⟩), (16, ⟨[(2, none), (4, none), (5, none), (6, none), (8, none), (9, none), (10, some 23), (12, none), (33, some 40), (34, none), (35, none), (66, some 23), (67, none), (68, none)], [(2, true), (4, true), (5, false), (6, false), (8, true)], [(.slot 12, 1160, 3), (.fld 5 [], 1161, 3)]⟩), (19, ⟨[(2, none), (4, none), (5, none), (6, none), (8, none), (9, none), (10, some 23), (12, none), (14, none), (33, some 40), (34, none), (35, none), (66, some 23), (67, none), (68, none), (72, some 23), (73, none), (74, none)], [(2, true), (4, true), (5, false), (6, false), (8, true)], [(.slot 12, 1190, 3), (.fld 5 [], 1191, 3)]⟩)]
def pick_Places_ps : List Nat := [26, 40]
def pick_Places_rs : List ResultVar := [.cell 4 23, .cell 5 23, .cell 6 29]
def pick_Places_ts : List Nat := [23, 23, 29]
noncomputable def pick_Places_l19 (n m6 m16 m19 : Nat) (long9 : Int) (part10 : D) (next12 : List D) (k14 : Int) (t33 : D) (t34 : Int) (t35 : Int) (t66 : D) (t67 : Int) (t68 : Int) (t72 : D) (t73 : Int) (t74 : Int) (a2 : D) (at4 : D) (s5 : List D) (e6 : Int) (p8 : D) : Tree :=
  evLoop Tryz.prog md (ev Tryz.prog md n pick_Places_orc (cAt (bodyOf Tryz.prog 22) [1, 1, 1, 1, 0, 1, 0, 0, 1, 1, 0, 0, 1, 1, 1, 1, 1, 1, 0, 1, 0, 0, 1, 1, 0, 0, 1, 1, 0, 0])) (orcAt pick_Places_orc 19) m19 ⟨[.undef, .undef, .ptr 2 [], .undef, .ptr 4 [], .ptr 5 [], .ptr 6 [], .undef, .ptr 8 [], .i .i64 long9, .d 23 part10, .undef, .row 1190, .undef, .i .i64 k14, .undef, .undef, .undef, .undef, .undef, .undef, .undef, .undef, .undef, .undef, .undef, .undef, .undef, .undef, .undef, .undef, .undef, .undef, .d 40 t33, .i .i64 t34, .i .i64 t35, .undef, .undef, .undef, .undef, .undef, .undef, .undef, .undef, .undef, .undef, .undef, .undef, .undef, .undef, .undef, .undef, .undef, .undef, .undef, .undef, .undef, .undef, .undef, .undef, .undef, .undef, .undef, .undef, .undef, .undef, .d 23 t66, .i .i64 t67, .i .i64 t68, .undef, .undef, .undef, .d 23 t72, .i .i64 t73, .i .i64 t74, .undef, .undef, .undef, .undef, .undef, .undef, .undef, .undef, .undef, .undef, .undef, .undef, .undef, .undef, .undef, .undef, .undef, .undef, .undef, .undef, .undef, .undef, .undef, .undef, .undef, .undef, .undef, .undef, .undef, .undef, .undef, .undef, .undef, .undef, .undef, .undef], [(2, .var 26 (.d 26 a2) true), (4, .var 23 (.d 23 at4) true), (5, .var 23 (.row 1191) true), (6, .var 29 (.i .i64 e6) true), (8, .var 53 (.d 53 p8) true), (1190, .row 3 next12 true), (1191, .row 3 s5 true)], [2, 4, 5, 6, 8, 1190, 1191], [(56, [.ptr 4 [], .ptr 5 [], .ptr 6 []])], []⟩
   (blockK 4 (blockK 3 (seqK (joinE Tryz.prog md (joinAt pick_Places_orc (cAt (bodyOf Tryz.prog 22) [1, 1, 1, 1, 0, 1, 0, 0, 1, 1, 0, 0, 1, 1, 1, 1, 1, 1, 0, 1, 0, 0, 1, 1, 1])) (ev Tryz.prog md n pick_Places_orc (cAt (bodyOf Tryz.prog 22) [1, 1, 1, 1, 0, 1, 0, 0, 1, 1, 0, 0, 1, 1, 1, 1, 1, 1, 0, 1, 0, 0, 1, 1, 1]))) (loopK Tryz.prog md (orcAt pick_Places_orc 16) (fun s1 => evLoop Tryz.prog md (ev Tryz.prog md n pick_Places_orc (cAt (bodyOf Tryz.prog 22) [1, 1, 1, 1, 0, 1, 0, 0, 1, 1, 0, 0, 1, 1, 1, 1, 1, 1, 0, 1, 0, 0])) (orcAt pick_Places_orc 16) m16 s1 (blockK 2 (seqK (joinE Tryz.prog md (joinAt pick_Places_orc (cAt (bodyOf Tryz.prog 22) [1, 1, 1, 1, 0, 1, 0, 0, 1, 1, 0, 0, 1, 1, 1, 1, 1, 1, 1])) (ev Tryz.prog md n pick_Places_orc (cAt (bodyOf Tryz.prog 22) [1, 1, 1, 1, 0, 1, 0, 0, 1, 1, 0, 0, 1, 1, 1, 1, 1, 1, 1]))) (blockK 1 (seqK (joinE Tryz.prog md (joinAt pick_Places_orc (cAt (bodyOf Tryz.prog 22) [1, 1, 1, 1, 0, 1, 0, 0, 1, 1, 1])) (ev Tryz.prog md n pick_Places_orc (cAt (bodyOf Tryz.prog 22) [1, 1, 1, 1, 0, 1, 0, 0, 1, 1, 1]))) (loopK Tryz.prog md (orcAt pick_Places_orc 6) (fun s1 => evLoop Tryz.prog md (ev Tryz.prog md n pick_Places_orc (cAt (bodyOf Tryz.prog 22) [1, 1, 1, 1, 0, 1, 0, 0])) (orcAt pick_Places_orc 6) m6 s1 (blockK 0 (seqK (joinE Tryz.prog md (joinAt pick_Places_orc (cAt (bodyOf Tryz.prog 22) [1, 1, 1, 1, 1])) (ev Tryz.prog md n pick_Places_orc (cAt (bodyOf Tryz.prog 22) [1, 1, 1, 1, 1]))) (retK Tryz.prog md (md 22) pick_Places_ps pick_Places_rs pick_Places_ts)))) (blockK 0 (seqK (joinE Tryz.prog md (joinAt pick_Places_orc (cAt (bodyOf Tryz.prog 22) [1, 1, 1, 1, 1])) (ev Tryz.prog md n pick_Places_orc (cAt (bodyOf Tryz.prog 22) [1, 1, 1, 1, 1]))) (retK Tryz.prog md (md 22) pick_Places_ps pick_Places_rs pick_Places_ts))))))))) (blockK 2 (seqK (joinE Tryz.prog md (joinAt pick_Places_orc (cAt (bodyOf Tryz.prog 22) [1, 1, 1, 1, 0, 1, 0, 0, 1, 1, 0, 0, 1, 1, 1, 1, 1, 1, 1])) (ev Tryz.prog md n pick_Places_orc (cAt (bodyOf Tryz.prog 22) [1, 1, 1, 1, 0, 1, 0, 0, 1, 1, 0, 0, 1, 1, 1, 1, 1, 1, 1]))) (blockK 1 (seqK (joinE Tryz.prog md (joinAt pick_Places_orc (cAt (bodyOf Tryz.prog 22) [1, 1, 1, 1, 0, 1, 0, 0, 1, 1, 1])) (ev Tryz.prog md n pick_Places_orc (cAt (bodyOf Tryz.prog 22) [1, 1, 1, 1, 0, 1, 0, 0, 1, 1, 1]))) (loopK Tryz.prog md (orcAt pick_Places_orc 6) (fun s1 => evLoop Tryz.prog md (ev Tryz.prog md n pick_Places_orc (cAt (bodyOf Tryz.prog 22) [1, 1, 1, 1, 0, 1, 0, 0])) (orcAt pick_Places_orc 6) m6 s1 (blockK 0 (seqK (joinE Tryz.prog md (joinAt pick_Places_orc (cAt (bodyOf Tryz.prog 22) [1, 1, 1, 1, 1])) (ev Tryz.prog md n pick_Places_orc (cAt (bodyOf Tryz.prog 22) [1, 1, 1, 1, 1]))) (retK Tryz.prog md (md 22) pick_Places_ps pick_Places_rs pick_Places_ts)))) (blockK 0 (seqK (joinE Tryz.prog md (joinAt pick_Places_orc (cAt (bodyOf Tryz.prog 22) [1, 1, 1, 1, 1])) (ev Tryz.prog md n pick_Places_orc (cAt (bodyOf Tryz.prog 22) [1, 1, 1, 1, 1]))) (retK Tryz.prog md (md 22) pick_Places_ps pick_Places_rs pick_Places_ts))))))))))))
noncomputable def pick_Places_l16 (n m6 m16 : Nat) (long9 : Int) (part10 : D) (next12 : List D) (t33 : D) (t34 : Int) (t35 : Int) (t66 : D) (t67 : Int) (t68 : Int) (a2 : D) (at4 : D) (s5 : List D) (e6 : Int) (p8 : D) : Tree :=
  evLoop Tryz.prog md (ev Tryz.prog md n pick_Places_orc (cAt (bodyOf Tryz.prog 22) [1, 1, 1, 1, 0, 1, 0, 0, 1, 1, 0, 0, 1, 1, 1, 1, 1, 1, 0, 1, 0, 0])) (orcAt pick_Places_orc 16) m16 ⟨[.undef, .undef, .ptr 2 [], .undef, .ptr 4 [], .ptr 5 [], .ptr 6 [], .undef, .ptr 8 [], .i .i64 long9, .d 23 part10, .undef, .row 1160, .undef, .undef, .undef, .undef, .undef, .undef, .undef, .undef, .undef, .undef, .undef, .undef, .undef, .undef, .undef, .undef, .undef, .undef, .undef, .undef, .d 40 t33, .i .i64 t34, .i .i64 t35, .undef, .undef, .undef, .undef, .undef, .undef, .undef, .undef, .undef, .undef, .undef, .undef, .undef, .undef, .undef, .undef, .undef, .undef, .undef, .undef, .undef, .undef, .undef, .undef, .undef, .undef, .undef, .undef, .undef, .undef, .d 23 t66, .i .i64 t67, .i .i64 t68, .undef, .undef, .undef, .undef, .undef, .undef, .undef, .undef, .undef, .undef, .undef, .undef, .undef, .undef, .undef, .undef, .undef, .undef, .undef, .undef, .undef, .undef, .undef, .undef, .undef, .undef, .undef, .undef, .undef, .undef, .undef, .undef, .undef, .undef, .undef, .undef, .undef, .undef, .undef, .undef, .undef, .undef], [(2, .var 26 (.d 26 a2) true), (4, .var 23 (.d 23 at4) true), (5, .var 23 (.row 1161) true), (6, .var 29 (.i .i64 e6) true), (8, .var 53 (.d 53 p8) true), (1160, .row 3 next12 true), (1161, .row 3 s5 true)], [2, 4, 5, 6, 8, 1160, 1161], [(56, [.ptr 4 [], .ptr 5 [], .ptr 6 []])], []⟩
   (blockK 2 (seqK (joinE Tryz.prog md (joinAt pick_Places_orc (cAt (bodyOf Tryz.prog 22) [1, 1, 1, 1, 0, 1, 0, 0, 1, 1, 0, 0, 1, 1, 1, 1, 1, 1, 1])) (ev Tryz.prog md n pick_Places_orc (cAt (bodyOf Tryz.prog 22) [1, 1, 1, 1, 0, 1, 0, 0, 1, 1, 0, 0, 1, 1, 1, 1, 1, 1, 1]))) (blockK 1 (seqK (joinE Tryz.prog md (joinAt pick_Places_orc (cAt (bodyOf Tryz.prog 22) [1, 1, 1, 1, 0, 1, 0, 0, 1, 1, 1])) (ev Tryz.prog md n pick_Places_orc (cAt (bodyOf Tryz.prog 22) [1, 1, 1, 1, 0, 1, 0, 0, 1, 1, 1]))) (loopK Tryz.prog md (orcAt pick_Places_orc 6) (fun s1 => evLoop Tryz.prog md (ev Tryz.prog md n pick_Places_orc (cAt (bodyOf Tryz.prog 22) [1, 1, 1, 1, 0, 1, 0, 0])) (orcAt pick_Places_orc 6) m6 s1 (blockK 0 (seqK (joinE Tryz.prog md (joinAt pick_Places_orc (cAt (bodyOf Tryz.prog 22) [1, 1, 1, 1, 1])) (ev Tryz.prog md n pick_Places_orc (cAt (bodyOf Tryz.prog 22) [1, 1, 1, 1, 1]))) (retK Tryz.prog md (md 22) pick_Places_ps pick_Places_rs pick_Places_ts)))) (blockK 0 (seqK (joinE Tryz.prog md (joinAt pick_Places_orc (cAt (bodyOf Tryz.prog 22) [1, 1, 1, 1, 1])) (ev Tryz.prog md n pick_Places_orc (cAt (bodyOf Tryz.prog 22) [1, 1, 1, 1, 1]))) (retK Tryz.prog md (md 22) pick_Places_ps pick_Places_rs pick_Places_ts))))))))
noncomputable def pick_Places_l6 (n m6 : Nat) (t33 : D) (t34 : Int) (t35 : Int) (a2 : D) (at4 : List D) (s5 : List D) (e6 : Int) : Tree :=
  evLoop Tryz.prog md (ev Tryz.prog md n pick_Places_orc (cAt (bodyOf Tryz.prog 22) [1, 1, 1, 1, 0, 1, 0, 0])) (orcAt pick_Places_orc 6) m6 ⟨[.undef, .undef, .ptr 2 [], .undef, .ptr 4 [], .ptr 5 [], .ptr 6 [], .undef, .undef, .undef, .undef, .undef, .undef, .undef, .undef, .undef, .undef, .undef, .undef, .undef, .undef, .undef, .undef, .undef, .undef, .undef, .undef, .undef, .undef, .undef, .undef, .undef, .undef, .d 40 t33, .i .i64 t34, .i .i64 t35, .undef, .undef, .undef, .undef, .undef, .undef, .undef, .undef, .undef, .undef, .undef, .undef, .undef, .undef, .undef, .undef, .undef, .undef, .undef, .undef, .undef, .undef, .undef, .undef, .undef, .undef, .undef, .undef, .undef, .undef, .undef, .undef, .undef, .undef, .undef, .undef, .undef, .undef, .undef, .undef, .undef, .undef, .undef, .undef, .undef, .undef, .undef, .undef, .undef, .undef, .undef, .undef, .undef, .undef, .undef, .undef, .undef, .undef, .undef, .undef, .undef, .undef, .undef, .undef, .undef, .undef, .undef, .undef, .undef, .undef, .undef, .undef, .undef, .undef, .undef], [(2, .var 26 (.d 26 a2) true), (4, .var 23 (.row 1060) true), (5, .var 23 (.row 1061) true), (6, .var 29 (.i .i64 e6) true), (1060, .row 3 at4 true), (1061, .row 3 s5 true)], [2, 4, 5, 6, 1060, 1061], [(56, [.ptr 4 [], .ptr 5 [], .ptr 6 []])], []⟩
   (blockK 0 (seqK (joinE Tryz.prog md (joinAt pick_Places_orc (cAt (bodyOf Tryz.prog 22) [1, 1, 1, 1, 1])) (ev Tryz.prog md n pick_Places_orc (cAt (bodyOf Tryz.prog 22) [1, 1, 1, 1, 1]))) (retK Tryz.prog md (md 22) pick_Places_ps pick_Places_rs pick_Places_ts)))
theorem pick_Places_l19_succ (n m6 m16 m19 : Nat) (long9 : Int) (part10 : D) (next12 : List D) (k14 : Int) (t33 : D) (t34 : Int) (t35 : Int) (t66 : D) (t67 : Int) (t68 : Int) (t72 : D) (t73 : Int) (t74 : Int) (a2 : D) (at4 : D) (s5 : List D) (e6 : Int) (p8 : D) : pick_Places_l19 n m6 m16 (m19 + 1) long9 part10 next12 k14 t33 t34 t35 t66 t67 t68 t72 t73 t74 a2 at4 s5 e6 p8 =
 .br (decide (t74 < t73)) (.br (decide (0 ≤ t74)) (.br (decide (t74 < (t72.els.length : Int))) (.br (decide (next12.length + [D.int (IntKind.wrap .i64 ((IntKind.wrap .i64 (k14 * long9)) + ((t72.els.getD (Int.toNat t74) D.nil).toInt)))].length ≤ bigN)) (pick_Places_l19 n m6 m16 m19 long9 part10 (next12 ++ [D.int (IntKind.wrap .i64 ((IntKind.wrap .i64 (k14 * long9)) + ((t72.els.getD (Int.toNat t74) D.nil).toInt)))]) k14 t33 t34 t35 t66 t67 t68 t72 t73 (IntKind.wrap .i64 (t74 + 1)) a2 at4 s5 e6 p8) .fail) .fail) .fail)
 (pick_Places_l16 n m6 m16 long9 part10 next12 t33 t34 t35 t66 t67 (IntKind.wrap .i64 (t68 + 1)) a2 at4 s5 e6 p8) := by kernel_rfl
theorem pick_Places_l16_succ (n m6 m16 : Nat) (long9 : Int) (part10 : D) (next12 : List D) (t33 : D) (t34 : Int) (t35 : Int) (t66 : D) (t67 : Int) (t68 : Int) (a2 : D) (at4 : D) (s5 : List D) (e6 : Int) (p8 : D) : pick_Places_l16 n m6 (m16 + 1) long9 part10 next12 t33 t34 t35 t66 t67 t68 a2 at4 s5 e6 p8 =
 .br (decide (t68 < t67)) (.br (decide (0 ≤ t68)) (.br (decide (t68 < (t66.els.length : Int))) (pick_Places_l19 n m6 m16 n long9 part10 next12 ((t66.els.getD (Int.toNat t68) D.nil).toInt) t33 t34 t35 t66 t67 t68 part10 (part10.els.length : Int) 0 a2 at4 s5 e6 p8) .fail) .fail)
 (.br ((p8.fld 0).toBool) (.br (decide (s5.length + [D.int long9].length ≤ bigN)) (pick_Places_l6 n m6 t33 t34 (IntKind.wrap .i64 (t35 + 1)) a2 next12 (s5 ++ [D.int long9]) e6) .fail)
 (.br (decide (s5.length + (((p8.fld 1).fld 1).els).length ≤ bigN)) (pick_Places_l6 n m6 t33 t34 (IntKind.wrap .i64 (t35 + 1)) a2 next12 (s5 ++ (((p8.fld 1).fld 1).els)) e6) .fail)) := by kernel_rfl
theorem pick_Places_l6_succ (n m6 : Nat) (t33 : D) (t34 : Int) (t35 : Int) (a2 : D) (at4 : List D) (s5 : List D) (e6 : Int) : pick_Places_l6 n (m6 + 1) t33 t34 t35 a2 at4 s5 e6 =
 .br (decide (t35 < t34)) (.br (decide (0 ≤ t35)) (.br (decide (t35 < (t33.els.length : Int))) (.br (decide (0 ≤ t35)) (.br (decide (t35 < (((a2.fld 1).els).length : Int))) (.call 57 [] [t33.els.getD (Int.toNat t35) D.nil, D.int ((((a2.fld 1).els).getD (Int.toNat t35) D.nil).toInt)] fun yy1 =>
 .br (((yy1.getD 1 D.nil).toInt) != 0) (.ret [D.sl [], D.sl [], D.int ((yy1.getD 1 D.nil).toInt)])
 (.br (decide (2048 < (IntKind.wrap .i64 ((at4.length : Int) * (((yy1.getD 0 D.nil).els).length : Int))))) (.ret [D.sl [], D.sl [], D.int 7])
 (.br (decide (0 ≤ 0)) (.br (decide (0 ≤ IntKind.wrap .i64 ((at4.length : Int) * (((yy1.getD 0 D.nil).els).length : Int)))) (.br (decide (IntKind.wrap .i64 ((at4.length : Int) * (((yy1.getD 0 D.nil).els).length : Int)) ≤ bigN)) (pick_Places_l16 n m6 n ((((a2.fld 1).els).getD (Int.toNat t35) D.nil).toInt) (yy1.getD 0 D.nil) (List.replicate (Int.toNat 0) (D.int 0)) t33 t34 t35 (D.sl at4) (at4.length : Int) 0 a2 (D.sl at4) s5 e6 (t33.els.getD (Int.toNat t35) D.nil)) .fail) .fail) .fail))) .fail) .fail) .fail) .fail)
 (.call 58 [] [D.sl s5] fun yy2 =>
 .br (((yy2.getD 1 D.nil).toInt) != 0) (.ret [D.sl [], D.sl [], D.int ((yy2.getD 1 D.nil).toInt)])
 (.ret [D.sl at4, D.sl s5, D.int 0])) := by kernel_rfl
theorem pick_Places_tree (n : Nat) (a0 : D) (l1 : D) : evFun Tryz.prog md pick_Places_orc n 22 [] [a0, l1] =
 .br ((l1.els.length : Int) == 0) (.ret [D.sl [], D.sl [], D.int 5])
 (.br ((l1.els.length : Int) != (((a0.fld 1).els).length : Int)) (.ret [D.sl [], D.sl [], D.int 5])
 (pick_Places_l6 n n l1 (l1.els.length : Int) 0 a0 [D.int 0] [] 0)) := by kernel_rfl

/-! scrim/pick.Total -/
def pick_Total_orc : List (Nat × Orc) := [(3, ⟨[(3, none), (6, some 40), (7, none), (8, none)], [], []⟩)]
def pick_Total_ps : List Nat := [40]
def pick_Total_rs : List ResultVar := [.tmp 2]
def pick_Total_ts : List Nat := [22]
noncomputable def pick_Total_l3 (n m3 : Nat) (r3 : Int) (t6 : D) (t7 : Int) (t8 : Int) : Tree :=
  evLoop Tryz.prog md (ev Tryz.prog md n pick_Total_orc (cAt (bodyOf Tryz.prog 25) [1, 1, 0, 1, 0, 0])) (orcAt pick_Total_orc 3) m3 ⟨[.undef, .undef, .undef, .i .u64 r3, .undef, .undef, .d 40 t6, .i .i64 t7, .i .i64 t8, .undef, .undef, .undef, .undef, .undef, .undef, .undef, .undef, .undef, .undef, .undef, .undef, .undef], [], [], [], []⟩
   (blockK 0 (seqK (joinE Tryz.prog md (joinAt pick_Total_orc (cAt (bodyOf Tryz.prog 25) [1, 1, 1])) (ev Tryz.prog md n pick_Total_orc (cAt (bodyOf Tryz.prog 25) [1, 1, 1]))) (retK Tryz.prog md (md 25) pick_Total_ps pick_Total_rs pick_Total_ts)))
theorem pick_Total_l3_succ (n m3 : Nat) (r3 : Int) (t6 : D) (t7 : Int) (t8 : Int) : pick_Total_l3 n (m3 + 1) r3 t6 t7 t8 =
 .br (decide (t8 < t7)) (.br (decide (0 ≤ t8)) (.br (decide (t8 < (t6.els.length : Int))) (.br (!(((t6.els.getD (Int.toNat t8) D.nil).fld 0).toBool)) (.call 61 [] [(t6.els.getD (Int.toNat t8) D.nil).fld 1] fun yy1 =>
 .call 54 [] [D.int r3, D.int ((yy1.getD 0 D.nil).toInt)] fun yy2 =>
 pick_Total_l3 n m3 ((yy2.getD 0 D.nil).toInt) t6 t7 (IntKind.wrap .i64 (t8 + 1)))
 (pick_Total_l3 n m3 r3 t6 t7 (IntKind.wrap .i64 (t8 + 1)))) .fail) .fail)
 (.ret [D.int r3]) := by kernel_rfl
theorem pick_Total_tree (n : Nat) (l0 : D) : evFun Tryz.prog md pick_Total_orc n 25 [] [l0] =
 pick_Total_l3 n n 0 l0 (l0.els.length : Int) 0 := by kernel_rfl

/-! scrim/pick.Where -/
def pick_Where_orc : List (Nat × Orc) := [(10, ⟨[(1, none), (2, none), (6, none), (28, some 23), (29, none), (30, none)], [(1, true), (2, false)], [(.slot 6, 1100, 68)]⟩)]
def pick_Where_ps : List Nat := [26]
def pick_Where_rs : List ResultVar := [.cell 2 26, .tmp 3]
def pick_Where_ts : List Nat := [26, 29]
noncomputable def pick_Where_l10 (n m10 : Nat) (cells6 : List D) (t28 : D) (t29 : Int) (t30 : Int) (a1 : D) (t2_0 : Int) : Tree :=
  evLoop Tryz.prog md (ev Tryz.prog md n pick_Where_orc (cAt (bodyOf Tryz.prog 28) [1, 1, 1, 1, 1, 1, 0, 1, 0, 0])) (orcAt pick_Where_orc 10) m10 ⟨[.undef, .ptr 1 [], .ptr 2 [], .undef, .undef, .undef, .row 1100, .undef, .undef, .undef, .undef, .undef, .undef, .undef, .undef, .undef, .undef, .undef, .undef, .undef, .undef, .undef, .undef, .undef, .undef, .undef, .undef, .undef, .d 23 t28, .i .i64 t29, .i .i64 t30, .undef, .undef, .undef, .undef, .undef, .undef, .undef, .undef, .undef, .undef, .undef, .undef, .undef, .undef, .undef, .undef, .undef, .undef], [(1, .var 26 (.d 26 a1) true), (2, .var 26 (.agg 26 [.i .u64 t2_0, .mt, .mt]) true), (1100, .row 68 cells6 true)], [1, 2, 1100], [], []⟩
   (blockK 0 (seqK (joinE Tryz.prog md (joinAt pick_Where_orc (cAt (bodyOf Tryz.prog 28) [1, 1, 1, 1, 1, 1, 1])) (ev Tryz.prog md n pick_Where_orc (cAt (bodyOf Tryz.prog 28) [1, 1, 1, 1, 1, 1, 1]))) (retK Tryz.prog md (md 28) pick_Where_ps pick_Where_rs pick_Where_ts)))
theorem pick_Where_l10_succ (n m10 : Nat) (cells6 : List D) (t28 : D) (t29 : Int) (t30 : Int) (a1 : D) (t2_0 : Int) : pick_Where_l10 n (m10 + 1) cells6 t28 t29 t30 a1 t2_0 =
 .br (decide (t30 < t29)) (.br (decide (0 ≤ t30)) (.br (decide (t30 < (t28.els.length : Int))) (.br (((t28.els.getD (Int.toNat t30) D.nil).toInt) == 1) (.call 64 [] [D.int (IntKind.wrap .i64 (t30 + 1))] fun yy3 =>
 .br (decide (cells6.length + [yy3.getD 0 D.nil].length ≤ bigN)) (pick_Where_l10 n m10 (cells6 ++ [yy3.getD 0 D.nil]) t28 t29 (IntKind.wrap .i64 (t30 + 1)) a1 t2_0) .fail)
 (pick_Where_l10 n m10 cells6 t28 t29 (IntKind.wrap .i64 (t30 + 1)) a1 t2_0)) .fail) .fail)
 (.call 66 [] [D.sl cells6] fun yy4 =>
 .call 61 [] [a1] fun yy5 =>
 .call 65 [] [yy4.getD 0 D.nil, D.int ((yy5.getD 0 D.nil).toInt)] fun yy6 =>
 .ret [yy6.getD 0 D.nil, D.int 0]) := by kernel_rfl
theorem pick_Where_tree (n : Nat) (a0 : D) : evFun Tryz.prog md pick_Where_orc n 28 [] [a0] =
 .call 40 [] [a0] fun yy1 =>
 .br (((yy1.getD 1 D.nil).toInt) != 0) (.ret [D.agg [D.int 0, D.sl [], D.sl []], D.int ((yy1.getD 1 D.nil).toInt)])
 (.br ((((a0.fld 1).els).length : Int) == 0) (.ret [D.agg [D.int 0, D.sl [], D.sl []], D.int 5])
 (.call 52 [] [yy1.getD 0 D.nil] fun yy2 =>
 .br (!((yy2.getD 0 D.nil).toBool)) (.ret [D.agg [D.int 0, D.sl [], D.sl []], D.int 3])
 (pick_Where_l10 n n [] (yy1.getD 0 D.nil) (((yy1.getD 0 D.nil).els).length : Int) 0 a0 0))) := by kernel_rfl

/-! scrim/pick.Replicate$2 -/
def pick_Replicate_2_orc : List (Nat × Orc) := []
theorem pick_Replicate_2_tree (n : Nat) (k0 : D) : evFun Tryz.prog md pick_Replicate_2_orc n 42 [] [k0] =
 .ret [D.bool (decide (k0.toInt < 0))] := by kernel_rfl

/-! scrim/pick.axes -/
def pick_axes_orc : List (Nat × Orc) := []
theorem pick_axes_tree (n : Nat) (a0 : D) (first1 : D) : evFun Tryz.prog md pick_axes_orc n 43 [] [a0, first1] =
 .br ((((a0.fld 1).els).length : Int) == 0) (.ret [D.sl [D.int 1], D.int 0])
 (.br first1.toBool (.call 82 [] [a0.fld 1] fun yy1 =>
 .ret [D.sl ((yy1.getD 0 D.nil).els), D.int 0])
 (.call 82 [] [a0.fld 1] fun yy2 =>
 .ret [D.sl ((yy2.getD 0 D.nil).els), D.int (IntKind.wrap .i64 ((((a0.fld 1).els).length : Int) - 1))])) := by kernel_rfl

/-! scrim/pick.rows -/
def pick_rows_orc : List (Nat × Orc) := [(9, ⟨[(2, some 23), (3, none), (4, some 23), (5, none), (6, none), (10, none), (12, some 23), (18, none), (20, none), (21, none), (55, none), (56, none)], [(5, true), (6, true), (10, false), (20, true)], [(.slot 21, 1090, 68)]⟩), (12, ⟨[(2, some 23), (3, none), (4, some 23), (5, none), (6, none), (10, none), (12, some 23), (18, none), (20, none), (21, none), (22, none), (55, none), (56, none), (59, some 23), (60, none), (61, none)], [(5, true), (6, true), (10, false), (20, true)], [(.slot 21, 1120, 68)]⟩)]
def pick_rows_ps : List Nat := [26, 26, 23, 3, 23]
def pick_rows_rs : List ResultVar := [.cell 10 26, .tmp 11]
def pick_rows_ts : List Nat := [26, 29]
noncomputable def pick_rows_l12 (n m9 m12 : Nat) (s2 : D) (axis3 : Int) (from4 : D) (t12 : D) (behind18 : Int) (cells21 : List D) (i22 : Int) (t55 : Int) (t56 : Int) (t59 : D) (t60 : Int) (t61 : Int) (nn5 : D) (a6 : D) (t10_0 : Int) (fill20 : D) : Tree :=
  evLoop Tryz.prog md (ev Tryz.prog md n pick_rows_orc (cAt (bodyOf Tryz.prog 45) [1, 1, 1, 1, 1, 1, 1, 0, 1, 0, 0, 1, 1, 0, 0, 1, 1, 0, 0])) (orcAt pick_rows_orc 12) m12 ⟨[.undef, .undef, .d 23 s2, .i .i64 axis3, .d 23 from4, .ptr 5 [], .ptr 6 [], .undef, .undef, .undef, .ptr 10 [], .undef, .d 23 t12, .undef, .undef, .undef, .undef, .undef, .i .i64 behind18, .undef, .ptr 20 [], .row 1120, .i .i64 i22, .undef, .undef, .undef, .undef, .undef, .undef, .undef, .undef, .undef, .undef, .undef, .undef, .undef, .undef, .undef, .undef, .undef, .undef, .undef, .undef, .undef, .undef, .undef, .undef, .undef, .undef, .undef, .undef, .undef, .undef, .undef, .undef, .i .i64 t55, .i .i64 t56, .undef, .undef, .d 23 t59, .i .i64 t60, .i .i64 t61, .undef, .undef, .undef, .undef, .undef, .undef, .undef, .undef, .undef, .undef, .undef, .undef, .undef, .undef, .undef, .undef, .undef, .undef, .undef, .undef, .undef, .undef, .undef, .undef, .undef, .undef, .undef, .undef, .undef, .undef, .undef, .undef, .undef, .undef, .undef, .undef, .undef, .undef, .undef, .undef], [(5, .var 26 (.d 26 nn5) true), (6, .var 26 (.d 26 a6) true), (10, .var 26 (.agg 26 [.i .u64 t10_0, .mt, .mt]) true), (20, .var 68 (.d 68 fill20) true), (1120, .row 68 cells21 true)], [5, 6, 10, 20, 1120], [], []⟩
   (blockK 2 (blockK 1 (seqK (joinE Tryz.prog md (joinAt pick_rows_orc (cAt (bodyOf Tryz.prog 45) [1, 1, 1, 1, 1, 1, 1, 0, 1, 0, 0, 1, 1, 1])) (ev Tryz.prog md n pick_rows_orc (cAt (bodyOf Tryz.prog 45) [1, 1, 1, 1, 1, 1, 1, 0, 1, 0, 0, 1, 1, 1]))) (loopK Tryz.prog md (orcAt pick_rows_orc 9) (fun s1 => evLoop Tryz.prog md (ev Tryz.prog md n pick_rows_orc (cAt (bodyOf Tryz.prog 45) [1, 1, 1, 1, 1, 1, 1, 0, 1, 0, 0])) (orcAt pick_rows_orc 9) m9 s1 (blockK 0 (seqK (joinE Tryz.prog md (joinAt pick_rows_orc (cAt (bodyOf Tryz.prog 45) [1, 1, 1, 1, 1, 1, 1, 1])) (ev Tryz.prog md n pick_rows_orc (cAt (bodyOf Tryz.prog 45) [1, 1, 1, 1, 1, 1, 1, 1]))) (retK Tryz.prog md (md 45) pick_rows_ps pick_rows_rs pick_rows_ts)))) (blockK 0 (seqK (joinE Tryz.prog md (joinAt pick_rows_orc (cAt (bodyOf Tryz.prog 45) [1, 1, 1, 1, 1, 1, 1, 1])) (ev Tryz.prog md n pick_rows_orc (cAt (bodyOf Tryz.prog 45) [1, 1, 1, 1, 1, 1, 1, 1]))) (retK Tryz.prog md (md 45) pick_rows_ps pick_rows_rs pick_rows_ts)))))))
noncomputable def pick_rows_l9 (n m9 : Nat) (s2 : D) (axis3 : Int) (from4 : D) (t12 : D) (behind18 : Int) (cells21 : List D) (t55 : Int) (t56 : Int) (nn5 : D) (a6 : D) (t10_0 : Int) (fill20 : D) : Tree :=
  evLoop Tryz.prog md (ev Tryz.prog md n pick_rows_orc (cAt (bodyOf Tryz.prog 45) [1, 1, 1, 1, 1, 1, 1, 0, 1, 0, 0])) (orcAt pick_rows_orc 9) m9 ⟨[.undef, .undef, .d 23 s2, .i .i64 axis3, .d 23 from4, .ptr 5 [], .ptr 6 [], .undef, .undef, .undef, .ptr 10 [], .undef, .d 23 t12, .undef, .undef, .undef, .undef, .undef, .i .i64 behind18, .undef, .ptr 20 [], .row 1090, .undef, .undef, .undef, .undef, .undef, .undef, .undef, .undef, .undef, .undef, .undef, .undef, .undef, .undef, .undef, .undef, .undef, .undef, .undef, .undef, .undef, .undef, .undef, .undef, .undef, .undef, .undef, .undef, .undef, .undef, .undef, .undef, .undef, .i .i64 t55, .i .i64 t56, .undef, .undef, .undef, .undef, .undef, .undef, .undef, .undef, .undef, .undef, .undef, .undef, .undef, .undef, .undef, .undef, .undef, .undef, .undef, .undef, .undef, .undef, .undef, .undef, .undef, .undef, .undef, .undef, .undef, .undef, .undef, .undef, .undef, .undef, .undef, .undef, .undef, .undef, .undef, .undef, .undef, .undef, .undef, .undef, .undef], [(5, .var 26 (.d 26 nn5) true), (6, .var 26 (.d 26 a6) true), (10, .var 26 (.agg 26 [.i .u64 t10_0, .mt, .mt]) true), (20, .var 68 (.d 68 fill20) true), (1090, .row 68 cells21 true)], [5, 6, 10, 20, 1090], [], []⟩
   (blockK 0 (seqK (joinE Tryz.prog md (joinAt pick_rows_orc (cAt (bodyOf Tryz.prog 45) [1, 1, 1, 1, 1, 1, 1, 1])) (ev Tryz.prog md n pick_rows_orc (cAt (bodyOf Tryz.prog 45) [1, 1, 1, 1, 1, 1, 1, 1]))) (retK Tryz.prog md (md 45) pick_rows_ps pick_rows_rs pick_rows_ts)))
theorem pick_rows_l12_succ (n m9 m12 : Nat) (s2 : D) (axis3 : Int) (from4 : D) (t12 : D) (behind18 : Int) (cells21 : List D) (i22 : Int) (t55 : Int) (t56 : Int) (t59 : D) (t60 : Int) (t61 : Int) (nn5 : D) (a6 : D) (t10_0 : Int) (fill20 : D) : pick_rows_l12 n m9 (m12 + 1) s2 axis3 from4 t12 behind18 cells21 i22 t55 t56 t59 t60 t61 nn5 a6 t10_0 fill20 =
 .br (decide (t61 < t60)) (.br (decide (0 ≤ t61)) (.br (decide (t61 < (t59.els.length : Int))) (.br (decide (((t59.els.getD (Int.toNat t61) D.nil).toInt) < 0)) (.call 87 [] [D.sl [fill20], D.int behind18] fun yy5 =>
 .br (decide (cells21.length + ((yy5.getD 0 D.nil).els).length ≤ bigN)) (pick_rows_l12 n m9 m12 s2 axis3 from4 t12 behind18 (cells21 ++ ((yy5.getD 0 D.nil).els)) i22 t55 t56 t59 t60 (IntKind.wrap .i64 (t61 + 1)) nn5 a6 t10_0 fill20) .fail)
 (.br (decide (0 ≤ axis3)) (.br (decide (axis3 < (s2.els.length : Int))) (.br (decide (0 ≤ IntKind.wrap .i64 ((IntKind.wrap .i64 ((IntKind.wrap .i64 (i22 * ((s2.els.getD (Int.toNat axis3) D.nil).toInt))) + ((t59.els.getD (Int.toNat t61) D.nil).toInt))) * behind18))) (.br (decide (IntKind.wrap .i64 ((IntKind.wrap .i64 ((IntKind.wrap .i64 (i22 * ((s2.els.getD (Int.toNat axis3) D.nil).toInt))) + ((t59.els.getD (Int.toNat t61) D.nil).toInt))) * behind18) ≤ IntKind.wrap .i64 ((IntKind.wrap .i64 ((IntKind.wrap .i64 ((IntKind.wrap .i64 (i22 * ((s2.els.getD (Int.toNat axis3) D.nil).toInt))) + ((t59.els.getD (Int.toNat t61) D.nil).toInt))) * behind18)) + behind18))) (.br (decide (IntKind.wrap .i64 ((IntKind.wrap .i64 ((IntKind.wrap .i64 ((IntKind.wrap .i64 (i22 * ((s2.els.getD (Int.toNat axis3) D.nil).toInt))) + ((t59.els.getD (Int.toNat t61) D.nil).toInt))) * behind18)) + behind18) ≤ (((a6.fld 2).els).length : Int))) (.br (decide (cells21.length + ((((a6.fld 2).els).take (Int.toNat (IntKind.wrap .i64 ((IntKind.wrap .i64 ((IntKind.wrap .i64 ((IntKind.wrap .i64 (i22 * ((s2.els.getD (Int.toNat axis3) D.nil).toInt))) + ((t59.els.getD (Int.toNat t61) D.nil).toInt))) * behind18)) + behind18)))).drop (Int.toNat (IntKind.wrap .i64 ((IntKind.wrap .i64 ((IntKind.wrap .i64 (i22 * ((s2.els.getD (Int.toNat axis3) D.nil).toInt))) + ((t59.els.getD (Int.toNat t61) D.nil).toInt))) * behind18)))).length ≤ bigN)) (pick_rows_l12 n m9 m12 s2 axis3 from4 t12 behind18 (cells21 ++ ((((a6.fld 2).els).take (Int.toNat (IntKind.wrap .i64 ((IntKind.wrap .i64 ((IntKind.wrap .i64 ((IntKind.wrap .i64 (i22 * ((s2.els.getD (Int.toNat axis3) D.nil).toInt))) + ((t59.els.getD (Int.toNat t61) D.nil).toInt))) * behind18)) + behind18)))).drop (Int.toNat (IntKind.wrap .i64 ((IntKind.wrap .i64 ((IntKind.wrap .i64 (i22 * ((s2.els.getD (Int.toNat axis3) D.nil).toInt))) + ((t59.els.getD (Int.toNat t61) D.nil).toInt))) * behind18))))) i22 t55 t56 t59 t60 (IntKind.wrap .i64 (t61 + 1)) nn5 a6 t10_0 fill20) .fail) .fail) .fail) .fail) .fail) .fail)) .fail) .fail)
 (pick_rows_l9 n m9 s2 axis3 from4 t12 behind18 cells21 t55 (IntKind.wrap .i64 (t56 + 1)) nn5 a6 t10_0 fill20) := by kernel_rfl
theorem pick_rows_l9_succ (n m9 : Nat) (s2 : D) (axis3 : Int) (from4 : D) (t12 : D) (behind18 : Int) (cells21 : List D) (t55 : Int) (t56 : Int) (nn5 : D) (a6 : D) (t10_0 : Int) (fill20 : D) : pick_rows_l9 n (m9 + 1) s2 axis3 from4 t12 behind18 cells21 t55 t56 nn5 a6 t10_0 fill20 =
 .br (decide (t56 < t55)) (pick_rows_l12 n m9 n s2 axis3 from4 t12 behind18 cells21 t56 t55 t56 from4 (from4.els.length : Int) 0 nn5 a6 t10_0 fill20)
 (.call 61 [] [nn5] fun yy6 =>
 .call 54 [] [D.int ((a6.fld 0).toInt), D.int ((yy6.getD 0 D.nil).toInt)] fun yy7 =>
 .ret [D.agg [D.int ((yy7.getD 0 D.nil).toInt), t12, D.sl cells21], D.int 0]) := by kernel_rfl
theorem pick_rows_tree (n : Nat) (nn0 : D) (a1 : D) (s2 : D) (axis3 : D) (from4 : D) : evFun Tryz.prog md pick_rows_orc n 45 [] [nn0, a1, s2, axis3, from4] =
 .call 84 [] [s2, D.int axis3.toInt, D.int (from4.els.length : Int)] fun yy1 =>
 .call 58 [] [yy1.getD 0 D.nil] fun yy2 =>
 .br (((yy2.getD 1 D.nil).toInt) != 0) (.ret [D.agg [D.int 0, D.sl [], D.sl []], D.int ((yy2.getD 1 D.nil).toInt)])
 (.call 85 [] [yy1.getD 0 D.nil, D.int axis3.toInt] fun yy3 =>
 .call 86 [] [a1] fun yy4 =>
 .br (decide (0 ≤ 0)) (.br (decide (0 ≤ (yy2.getD 0 D.nil).toInt)) (.br (decide ((yy2.getD 0 D.nil).toInt ≤ bigN)) (pick_rows_l9 n n s2 axis3.toInt from4 (yy1.getD 0 D.nil) ((yy3.getD 2 D.nil).toInt) (List.replicate (Int.toNat 0) (D.agg [D.int 0, D.int 0, D.agg [D.bool false, D.sl [], D.sl []], D.int 0, D.sl []])) ((yy3.getD 0 D.nil).toInt) 0 nn0 a1 0 (yy4.getD 0 D.nil)) .fail) .fail) .fail) := by kernel_rfl

/-! scrim/pick.bits -/
def pick_bits_orc : List (Nat × Orc) := [(2, ⟨[(5, some 23), (6, none), (7, none)], [], []⟩)]
def pick_bits_ps : List Nat := [23]
def pick_bits_rs : List ResultVar := [.tmp 2]
def pick_bits_ts : List Nat := [4]
noncomputable def pick_bits_l2 (n m2 : Nat) (t5 : D) (t6 : Int) (t7 : Int) : Tree :=
  evLoop Tryz.prog md (ev Tryz.prog md n pick_bits_orc (cAt (bodyOf Tryz.prog 52) [1, 0, 1, 0, 0])) (orcAt pick_bits_orc 2) m2 ⟨[.undef, .undef, .undef, .undef, .undef, .d 23 t5, .i .i64 t6, .i .i64 t7, .undef, .undef, .undef, .undef, .undef, .undef, .undef, .undef, .undef, .undef], [], [], [], []⟩
   (blockK 0 (seqK (joinE Tryz.prog md (joinAt pick_bits_orc (cAt (bodyOf Tryz.prog 52) [1, 1])) (ev Tryz.prog md n pick_bits_orc (cAt (bodyOf Tryz.prog 52) [1, 1]))) (retK Tryz.prog md (md 52) pick_bits_ps pick_bits_rs pick_bits_ts)))
theorem pick_bits_l2_succ (n m2 : Nat) (t5 : D) (t6 : Int) (t7 : Int) : pick_bits_l2 n (m2 + 1) t5 t6 t7 =
 .br (decide (t7 < t6)) (.br (decide (0 ≤ t7)) (.br (decide (t7 < (t5.els.length : Int))) (.br (((t5.els.getD (Int.toNat t7) D.nil).toInt) != 0) (.br (((t5.els.getD (Int.toNat t7) D.nil).toInt) != 1) (.ret [D.bool false])
 (pick_bits_l2 n m2 t5 t6 (IntKind.wrap .i64 (t7 + 1))))
 (pick_bits_l2 n m2 t5 t6 (IntKind.wrap .i64 (t7 + 1)))) .fail) .fail)
 (.ret [D.bool true]) := by kernel_rfl
theorem pick_bits_tree (n : Nat) (l0 : D) : evFun Tryz.prog md pick_bits_orc n 52 [] [l0] =
 pick_bits_l2 n n l0 (l0.els.length : Int) 0 := by kernel_rfl

/-! (scrim/pick.Axis).part -/
def pick_Axis_part_orc : List (Nat × Orc) := [(6, ⟨[(6, none), (20, none), (21, none)], [], [(.slot 6, 1060, 3)]⟩), (16, ⟨[(1, none), (10, none), (44, some 23), (45, none), (46, none)], [], [(.slot 10, 1160, 3)]⟩)]
def pick_Axis_part_ps : List Nat := [53, 3]
def pick_Axis_part_rs : List ResultVar := [.tmp 4, .tmp 5]
def pick_Axis_part_ts : List Nat := [23, 29]
noncomputable def pick_Axis_part_l6 (n m6 : Nat) (r6 : List D) (t20 : Int) (t21 : Int) : Tree :=
  evLoop Tryz.prog md (ev Tryz.prog md n pick_Axis_part_orc (cAt (bodyOf Tryz.prog 57) [1, 0, 1, 0, 1, 1, 0, 1, 0, 0])) (orcAt pick_Axis_part_orc 6) m6 ⟨[.undef, .undef, .undef, .undef, .undef, .undef, .row 1060, .undef, .undef, .undef, .undef, .undef, .undef, .undef, .undef, .undef, .undef, .undef, .undef, .undef, .i .i64 t20, .i .i64 t21, .undef, .undef, .undef, .undef, .undef, .undef, .undef, .undef, .undef, .undef, .undef, .undef, .undef, .undef, .undef, .undef, .undef, .undef, .undef, .undef, .undef, .undef, .undef, .undef, .undef, .undef, .undef, .undef, .undef, .undef, .undef, .undef, .undef, .undef, .undef, .undef, .undef, .undef, .undef, .undef, .undef, .undef, .undef], [(1060, .row 3 r6 true)], [1060], [], []⟩
   (blockK 0 (seqK (joinE Tryz.prog md (joinAt pick_Axis_part_orc (cAt (bodyOf Tryz.prog 57) [1, 0, 1, 0, 1, 1, 1])) (ev Tryz.prog md n pick_Axis_part_orc (cAt (bodyOf Tryz.prog 57) [1, 0, 1, 0, 1, 1, 1]))) (seqK (joinE Tryz.prog md (joinAt pick_Axis_part_orc (cAt (bodyOf Tryz.prog 57) [1, 1])) (ev Tryz.prog md n pick_Axis_part_orc (cAt (bodyOf Tryz.prog 57) [1, 1]))) (retK Tryz.prog md (md 57) pick_Axis_part_ps pick_Axis_part_rs pick_Axis_part_ts))))
noncomputable def pick_Axis_part_l16 (n m16 : Nat) (long1 : Int) (r10 : List D) (t44 : D) (t45 : Int) (t46 : Int) : Tree :=
  evLoop Tryz.prog md (ev Tryz.prog md n pick_Axis_part_orc (cAt (bodyOf Tryz.prog 57) [1, 1, 1, 1, 1, 0, 1, 0, 0])) (orcAt pick_Axis_part_orc 16) m16 ⟨[.undef, .i .i64 long1, .undef, .undef, .undef, .undef, .undef, .undef, .undef, .undef, .row 1160, .undef, .undef, .undef, .undef, .undef, .undef, .undef, .undef, .undef, .undef, .undef, .undef, .undef, .undef, .undef, .undef, .undef, .undef, .undef, .undef, .undef, .undef, .undef, .undef, .undef, .undef, .undef, .undef, .undef, .undef, .undef, .undef, .undef, .d 23 t44, .i .i64 t45, .i .i64 t46, .undef, .undef, .undef, .undef, .undef, .undef, .undef, .undef, .undef, .undef, .undef, .undef, .undef, .undef, .undef, .undef, .undef, .undef], [(1160, .row 3 r10 true)], [1160], [], []⟩
   (blockK 2 (seqK (joinE Tryz.prog md (joinAt pick_Axis_part_orc (cAt (bodyOf Tryz.prog 57) [1, 1, 1, 1, 1, 1])) (ev Tryz.prog md n pick_Axis_part_orc (cAt (bodyOf Tryz.prog 57) [1, 1, 1, 1, 1, 1]))) (retK Tryz.prog md (md 57) pick_Axis_part_ps pick_Axis_part_rs pick_Axis_part_ts)))
theorem pick_Axis_part_l6_succ (n m6 : Nat) (r6 : List D) (t20 : Int) (t21 : Int) : pick_Axis_part_l6 n (m6 + 1) r6 t20 t21 =
 .br (decide (t21 < t20)) (.br (decide (0 ≤ t21)) (.br (decide (t21 < (r6.length : Int))) (pick_Axis_part_l6 n m6 (r6.set (Int.toNat t21) (D.int t21)) t20 (IntKind.wrap .i64 (t21 + 1))) .fail) .fail)
 (.ret [D.sl r6, D.int 0]) := by kernel_rfl
theorem pick_Axis_part_l16_succ (n m16 : Nat) (long1 : Int) (r10 : List D) (t44 : D) (t45 : Int) (t46 : Int) : pick_Axis_part_l16 n (m16 + 1) long1 r10 t44 t45 t46 =
 .br (decide (t46 < t45)) (.br (decide (0 ≤ t46)) (.br (decide (t46 < (t44.els.length : Int))) (.br (decide (((t44.els.getD (Int.toNat t46) D.nil).toInt) < 1)) (.ret [D.sl [], D.int 6])
 (.br (decide (long1 < ((t44.els.getD (Int.toNat t46) D.nil).toInt))) (.ret [D.sl [], D.int 6])
 (.br (decide (0 ≤ t46)) (.br (decide (t46 < (r10.length : Int))) (pick_Axis_part_l16 n m16 long1 (r10.set (Int.toNat t46) (D.int (IntKind.wrap .i64 (((t44.els.getD (Int.toNat t46) D.nil).toInt) - 1)))) t44 t45 (IntKind.wrap .i64 (t46 + 1))) .fail) .fail))) .fail) .fail)
 (.ret [D.sl r10, D.int 0]) := by kernel_rfl
theorem pick_Axis_part_tree (n : Nat) (p0 : D) (long1 : D) : evFun Tryz.prog md pick_Axis_part_orc n 57 [] [p0, long1] =
 .br ((p0.fld 0).toBool) (.br (decide (2048 < long1.toInt)) (.ret [D.sl [], D.int 7])
 (.br (decide (0 ≤ long1.toInt)) (.br (decide (long1.toInt ≤ long1.toInt)) (.br (decide (long1.toInt ≤ bigN)) (pick_Axis_part_l6 n n (List.replicate (Int.toNat long1.toInt) (D.int 0)) ((List.replicate (Int.toNat long1.toInt) (D.int 0)).length : Int) 0) .fail) .fail) .fail))
 (.call 66 [] [(p0.fld 1).fld 2] fun yy1 =>
 .call 40 [] [yy1.getD 0 D.nil] fun yy2 =>
 .br (((yy2.getD 1 D.nil).toInt) != 0) (.ret [D.sl [], D.int ((yy2.getD 1 D.nil).toInt)])
 (.br (decide (0 ≤ (((yy2.getD 0 D.nil).els).length : Int))) (.br (decide ((((yy2.getD 0 D.nil).els).length : Int) ≤ (((yy2.getD 0 D.nil).els).length : Int))) (.br (decide ((((yy2.getD 0 D.nil).els).length : Int) ≤ bigN)) (pick_Axis_part_l16 n n long1.toInt (List.replicate (Int.toNat (((yy2.getD 0 D.nil).els).length : Int)) (D.int 0)) (yy2.getD 0 D.nil) (((yy2.getD 0 D.nil).els).length : Int) 0) .fail) .fail) .fail)) := by kernel_rfl

end Go.Proofs.YtbgcadcpeabpgaaGreat
