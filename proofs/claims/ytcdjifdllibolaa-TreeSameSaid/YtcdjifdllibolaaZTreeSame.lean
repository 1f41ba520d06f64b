/- Proved: for any arguments, the law TreeSame returns true and changes nothing. No condition. -/
import Derived.Test.YtcdjifdllibolaaRows
import Derived.WalkKit
import Derived.WalkSpells
import Derived.WalkLawsBesides
import Derived.Lib.Hide
import Derived.Laws.CopyOwn
import Derived.Deep.QuietTactic
import Derived.BigQuiet
import Derived.Orders
import Derived.Defers
import Derived.ProofKit
import Derived.OpenShut
import Derived.Recover
import Derived.Test.YtcdjifdllibolaaProg
import Derived.KernelRfl
import Derived.Test.YtcdjifdllibolaaZ6d8e353a
set_option linter.unusedSimpArgs false
set_option linter.unusedVariables false
set_option maxRecDepth 100000
namespace Go.Proofs.Ytcdjifdllibolaa
open Go.RowKit

section
variable {P : Program} {md : Nat → FMode}
/-- A result, as data. -/
def ResV (P : Program) (md : Nat → FMode) (w : World) (M : Nat → Prop) (t : Nat) (y : D) (u : Value) : Prop := ∃ look β, VL P md w (Mof M look β) look β (ofD P t y) u
theorem ResV.int {w : World} {M : Nat → Prop} {t : Nat} {k : IntKind} {n : Int} {u : Value} (h : ResV P md w M t (.int n) u) (ht : P.underlying t = some (.int k)) : u = .int k n ∧ k.min ≤ n ∧ n ≤ k.max := by
  obtain ⟨look, β, h⟩ := h
  unfold ofD at h
  rw [ht] at h
  exact vl_i h
theorem ResV.bool {w : World} {M : Nat → Prop} {t : Nat} {b : Bool} {u : Value} (h : ResV P md w M t (.bool b) u) (ht : P.underlying t = some .bool) : u = .bool b := by
  obtain ⟨look, β, h⟩ := h
  unfold ofD at h
  rw [ht] at h
  exact vl_b h
theorem ResV.rd {w : World} {M : Nat → Prop} {t : Nat} {y : D} {u : Value} (h : ResV P md w M t y u) (ht : ofD P t y = .d t y) : Rd P md w M (.ty t) y u := by
  obtain ⟨look, β, h⟩ := h
  rw [ht] at h
  obtain ⟨h1, h2⟩ := vl_ne h (by simp) (by simp) (by simp)
  cases h1 with
  | d h1 => exact ⟨h1.mono (Nat.le_refl _) (fun _ _ _ => rfl) (fun b hb _ => .inl hb), h2.size, h2.agg⟩
theorem rd_weak {w w' : World} {M M' : Nat → Prop} {t : CT} {x : D} {v : Value} (h : Rd P md w M t x v) (hx : Ext w w') (hM : ∀ b, M' b → b < w.heap.size → M b) : Rd P md w' M' t x v :=
  ⟨h.rd.mono hx.size (fun b _ hb => hx.block b hb) hM, h.size, h.agg⟩
/-- ████ A call of a function that lends nothing, and tells no row of its own. -/
theorem sp_calls {F : Nat} {fn : Func} {xs ys : List D} {vs : List Value} {W : World} {M : Nat → Prop} (hs : Spec P md F [] xs ys) (hfn : P.funcs[F]? = some fn) (hm : md F = {}) (hM : ∀ b, M b → b < W.heap.size)
    (hlx : xs.length = fn.params.size) (hlv : vs.length = fn.params.size) (hrd : ∀ (i t : Nat) (x : D) (v : Value), fn.params.toList[i]? = some t → xs[i]? = some x → vs[i]? = some v → Rd P md W M (.ty t) x v) :
    Calls P F vs.toArray W (fun e w' => ∃ us, e = .returned (retV us) ∧ us.length = fn.resultTypes.size ∧ (∀ (i t : Nat) (u : Value), fn.resultTypes.toList[i]? = some t → us[i]? = some u → ResV P md w' M t (ys.getD i .nil) u) ∧ Ext W w') := by
  obtain ⟨fn', h1, _, _, h⟩ := hs
  rw [hfn] at h1
  injection h1 with h1
  subst h1
  have nol : ∀ b, ¬ lentN (md F) vs b := fun b ⟨p, v, h1, _⟩ => by rw [hm] at h1; cases h1
  refine (h W M vs 0 1 (fun k hk => by rw [hm] at hk; cases hk) ⟨by simp [hlx], by simp [hlv], fun b hb => ⟨hM b hb, nol b⟩, ?_, fun p hp => by rw [hm] at hp; cases hp⟩).mono ?_
  · intro i ct x v hc hx hv _
    simp only [List.append_nil, List.getElem?_map, Option.map_eq_some_iff] at hc
    obtain ⟨t, ht, rfl⟩ := hc
    have := hrd i t x v ht hx hv
    exact ⟨this.rd.mono (Nat.le_refl _) (fun _ _ _ => rfl) (fun b hb _ => hb.elim id (fun h => (nol b h).elim)), this.size, this.agg⟩
  · rintro e w' ⟨us, β', hp⟩
    refine ⟨us, hp.ending, by simpa using hp.len, fun i t u ht hu => ?_, ?_⟩
    · have := hp.vl (resL P fn.resultTypes.toList ys 0) (by rw [hm]; rfl) i _ u (resL_at ht) hu
      rw [Nat.zero_add] at this
      exact ⟨_, _, this⟩
    · exact Stp.ext (hp.stp.weak fun b hb => (nol b hb).elim)
theorem one_of {us : List Value} {n : Nat} (h : us.length = n) (hn : n = 1) : ∃ u, us = [u] := by
  subst hn
  match us, h with
  | [u], _ => exact ⟨u, rfl⟩
theorem sp_int {F : Nat} {fn : Func} {xs : List D} {n : Int} {vs : List Value} {W : World} {M : Nat → Prop} {t : Nat} {k : IntKind} (hs : Spec P md F [] xs [.int n]) (hfn : P.funcs[F]? = some fn) (hm : md F = {}) (hM : ∀ b, M b → b < W.heap.size)
    (hlx : xs.length = fn.params.size) (hlv : vs.length = fn.params.size) (hrd : ∀ (i t : Nat) (x : D) (v : Value), fn.params.toList[i]? = some t → xs[i]? = some x → vs[i]? = some v → Rd P md W M (.ty t) x v)
    (hrt : fn.resultTypes = #[t]) (ht : P.underlying t = some (.int k)) : Calls P F vs.toArray W (fun e w' => e = .returned (.int k n) ∧ (k.min ≤ n ∧ n ≤ k.max) ∧ Ext W w') := by
  refine (sp_calls hs hfn hm hM hlx hlv hrd).mono ?_
  rintro e w' ⟨us, rfl, hl, hh, hx⟩
  obtain ⟨u, rfl⟩ := one_of hl (by rw [hrt]; rfl)
  obtain ⟨rfl, h2⟩ := (hh 0 t u (by rw [hrt]; rfl) rfl).int ht
  exact ⟨rfl, h2, hx⟩
theorem sp_sl {F : Nat} {fn : Func} {xs : List D} {y : D} {vs : List Value} {W : World} {M : Nat → Prop} {t : Nat} (hs : Spec P md F [] xs [y]) (hfn : P.funcs[F]? = some fn) (hm : md F = {}) (hM : ∀ b, M b → b < W.heap.size)
    (hlx : xs.length = fn.params.size) (hlv : vs.length = fn.params.size) (hrd : ∀ (i t : Nat) (x : D) (v : Value), fn.params.toList[i]? = some t → xs[i]? = some x → vs[i]? = some v → Rd P md W M (.ty t) x v)
    (hrt : fn.resultTypes = #[t]) (ht : ofD P t y = .d t y) : Calls P F vs.toArray W (fun e w' => ∃ u, e = .returned u ∧ Rd P md w' M (.ty t) y u ∧ Ext W w') := by
  refine (sp_calls hs hfn hm hM hlx hlv hrd).mono ?_
  rintro e w' ⟨us, rfl, hl, hh, hx⟩
  obtain ⟨u, rfl⟩ := one_of hl (by rw [hrt]; rfl)
  exact ⟨u, rfl, (hh 0 t u (by rw [hrt]; rfl) rfl).rd ht, hx⟩
/-- ████ A call of a function that tells one row of its own, not empty. -/
theorem own_calls {F : Nat} {fn : Func} {xs es : List D} {vs : List Value} {W : World} {M : Nat → Prop} {t e : Nat} (hs : Spec P md F [] xs [.sl es]) (hfn : P.funcs[F]? = some fn) (hm : md F = { own := [(0, [])] }) (hM : ∀ b, M b → b < W.heap.size)
    (hlx : xs.length = fn.params.size) (hlv : vs.length = fn.params.size) (hrd : ∀ (i t : Nat) (x : D) (v : Value), fn.params.toList[i]? = some t → xs[i]? = some x → vs[i]? = some v → Rd P md W M (.ty t) x v)
    (hrt : fn.resultTypes = #[t]) (ht : tElem P t = some e) (h1 : one P t = true) (hne : es ≠ []) :
    Calls P F vs.toArray W (fun en w' => ∃ G cap cur, en = .returned (.slice (some ⟨G, 0, none⟩) es.length cap) ∧ W.heap.size ≤ G ∧ G < w'.heap.size ∧ w'.heap[G]? = some (.cells cur e (0, 0)) ∧ es.length ≤ cap ∧ cap ≤ maxLen ∧ cur.size = cap * P.cellsOf e ∧
      (∀ (i : Nat) (x : D), es[i]? = some x → ∃ M', RdC P md w' M' (.ty e) x (fun j => cur[i * P.cellsOf e + j]?)) ∧ Ext W w') := by
  obtain ⟨fn', g1, _, _, h⟩ := hs
  rw [hfn] at g1
  injection g1 with g1
  subst g1
  have nol : ∀ b, ¬ lentN (md F) vs b := fun b ⟨p, v, h1, _⟩ => by rw [hm] at h1; cases h1
  refine (h W M vs 0 1 (fun k hk => by rw [hm] at hk; simp at hk; omega) ⟨by simp [hlx], by simp [hlv], fun b hb => ⟨hM b hb, nol b⟩, ?_, fun p hp => by rw [hm] at hp; cases hp⟩).mono ?_
  · intro i ct x v hc hx hv _
    simp only [List.append_nil, List.getElem?_map, Option.map_eq_some_iff] at hc
    obtain ⟨t, ht, rfl⟩ := hc
    have := hrd i t x v ht hx hv
    exact ⟨this.rd.mono (Nat.le_refl _) (fun _ _ _ => rfl) (fun b hb _ => hb.elim id (fun h => (nol b h).elim)), this.size, this.agg⟩
  · rintro en w' ⟨us, β', hp⟩
    have hl := hp.len
    rw [hrt] at hl
    obtain ⟨u, rfl⟩ := one_of hl rfl
    have hot : ownT P [t] (0, []) = some e := by simp [ownT, typeAt, h1, ht]
    have hlook : postLook P (md F) fn.params.toList fn.resultTypes.toList [.sl es] 0 1 0 = some (.row e es true) := by
      rw [hm, hrt]
      simp [postLook, backEff, ownEff, effF, updN, hot, D.path, D.els, List.getD]
    have hv := hp.vl [.row 0] (by rw [hm, hrt]; simp [resL, setOwn, setL]) 0 (.row 0) u rfl rfl
    have hu := vl_row hv hlook
    have hb := hp.blks 0 _ hlook
    have ho := fun B => hp.own 0 _ B hlook
    obtain ⟨A, cap, hA, hb⟩ := hb
    rcases hb with ⟨hn, _⟩ | ⟨B, cur, rfl, hc0, hB, hlen, hcap, hsz, hpos, hrd'⟩
    · exact absurd hn hne
    · have hob := ho B (by rw [hA]; simp [ownB]; omega)
      have hG := hob.1.resolve_right (nol B)
      refine ⟨B, cap, cur, ?_, hG, hob.2, hB, hlen, hcap, hsz, fun i x hx => ⟨_, hrd' i x hx⟩, Stp.ext (hp.stp.weak fun b hb => (nol b hb).elim)⟩
      rw [hp.ending, hu, hA]; rfl
theorem rd_all1 {w : World} {M : Nat → Prop} {ps : List Nat} {t : Nat} {x : D} {v : Value} (hp : ps = [t]) (h : Rd P md w M (.ty t) x v) : ∀ (i t' : Nat) (x' : D) (v' : Value), ps[i]? = some t' → [x][i]? = some x' → [v][i]? = some v' → Rd P md w M (.ty t') x' v' := by
  intro i t' x' v' h1 h2 h3
  subst hp
  match i with
  | 0 => cases h1; cases h2; cases h3; exact h
  | i + 1 => simp at h1
theorem rd_all2 {w : World} {M : Nat → Prop} {ps : List Nat} {t u : Nat} {x y : D} {v z : Value} (hp : ps = [t, u]) (h : Rd P md w M (.ty t) x v) (h' : Rd P md w M (.ty u) y z) : ∀ (i t' : Nat) (x' : D) (v' : Value), ps[i]? = some t' → [x, y][i]? = some x' → [v, z][i]? = some v' → Rd P md w M (.ty t') x' v' := by
  intro i t' x' v' h1 h2 h3
  subst hp
  match i with
  | 0 => cases h1; cases h2; cases h3; exact h
  | 1 => cases h1; cases h2; cases h3; exact h'
  | i + 2 => simp at h1
theorem rd_num_ {w : World} {M : Nat → Prop} {t : Nat} {k : IntKind} {n : Int} (ht : P.underlying t = some (.int k)) (hs : P.cellsOf t = 1) (ha : isAggT P t = false) (h1 : k.min ≤ n) (h2 : n ≤ k.max) : Rd P md w M (.ty t) (.int n) (.int k n) :=
  ⟨.int ht h1 h2 rfl, hs.symm, ha.symm⟩
/-- ████ What is said of a function, by a walk of it. -/
theorem spec_of (hP : WfP P) {F : Nat} {fn : Func} {cts : List CT} {xs ys : List D} (hfn : P.funcs[F]? = some fn) (hb : fn.body.isSome = true) (hn : (fn.name == "runtime.NumGoroutine") = false) (hm : md F = {})
    (h : ∀ (w : World) (M : Nat → Prop) (vs : List Value), (∀ b, M b → b < w.heap.size) → xs.length = fn.params.size + cts.length → vs.length = fn.params.size + cts.length → (∀ (i : Nat) (t : CT) (x : D) (v : Value), (fn.params.toList.map CT.ty ++ cts)[i]? = some t → xs[i]? = some x → vs[i]? = some v → Rd P md w M t x v) →
      Calls P F vs.toArray w (fun e w' => ∃ us, e = .returned (retV us) ∧ us.length = fn.resultTypes.size ∧ (∀ (i t : Nat) (u : Value), fn.resultTypes.toList[i]? = some t → us[i]? = some u → Rd P md w' M (.ty t) (ys.getD i .nil) u) ∧ Ext w w')) : Spec P md F cts xs ys := by
  refine ⟨fn, hfn, hb, hn, fun w M vs d bid _ hp => ?_⟩
  have nol : ∀ b, ¬ lentN (md F) vs b := fun b ⟨p, v, h1, _⟩ => by rw [hm] at h1; cases h1
  have hlook : postLook P (md F) fn.params.toList fn.resultTypes.toList ys d bid = fun _ => none := by rw [hm]; rfl
  refine (h w M vs (fun b hb => (hp.m b hb).1) (by simpa using hp.lenx) (by simpa using hp.lenv) (fun i t x v h1 h2 h3 => ?_)).mono ?_
  · have := hp.rd i t x v h1 h2 h3 (by rw [hm]; simp)
    exact ⟨this.rd.mono (Nat.le_refl _) (fun _ _ _ => rfl) (fun b hb _ => .inl hb), this.size, this.agg⟩
  · rintro e w' ⟨us, rfl, hl, hh, hx⟩
    refine ⟨us, fun _ => undef, rfl, by simpa using hl, (Stp.of_ext hx).weak (fun _ h => h), ?_, ?_, ?_, ?_, ?_⟩
    · intro ls hls i l u hi hu
      rw [hm] at hls
      simp only [setOwn, Option.some.injEq] at hls
      subst hls
      obtain ⟨t, ht⟩ : ∃ t, fn.resultTypes.toList[i]? = some t := by
        have := (List.getElem?_eq_some_iff.1 hi).1
        rw [resL_len] at this
        exact ⟨_, List.getElem?_eq_getElem this⟩
      have hr := hh i t u ht hu
      rw [resL_at ht, Nat.zero_add] at hi
      injection hi with hi
      subst hi
      have hr' : Rd P md w' (Mof M (postLook P (md F) fn.params.toList fn.resultTypes.toList ys d bid) (fun _ => undef)) (.ty t) (ys.getD i .nil) u := by
        refine rd_weak hr (Ext.refl _) (fun b hb _ => ?_)
        rcases hb with hb | ⟨r, k, hk, _⟩
        · exact hb
        · rw [hlook] at hk; cases hk
      exact (rd_vl' hP hr').1
    · intro r b hb; rw [hlook] at hb; cases hb
    · intro r b B hb; rw [hlook] at hb; cases hb
    · intro r q b c B hb; rw [hlook] at hb; cases hb
    · intro hb; rw [hm] at hb; cases hb
end
end Go.Proofs.Ytcdjifdllibolaa

set_option maxRecDepth 100000
namespace Go.Proofs.Ytcdjifdllibolaa
open Go.RowKit

/-- What a guess comes to. -/
theorem to_exact {U Y g P o b : Nat} (hY : 0 < Y) (hYP : Y ≤ P) (h1 : U / Y ≤ g) (h2 : g ≤ U / Y + 1) (ho : o < P) (hb : b ≤ 1) (h : o + g * Y = U + P * b) :
    (b = 0 → g = U / Y ∧ o = U % Y) ∧ (b ≠ 0 → g = U / Y + 1 ∧ ∀ o2 b2, o2 < P → o2 + P * b2 = o + Y → o2 = U % Y) := by
  have hdm := Nat.div_add_mod U Y
  have hm := Nat.mod_lt U hY
  rw [Nat.mul_comm] at hdm
  generalize U / Y = q at *
  generalize U % Y = r at *
  refine ⟨fun h0 => ?_, fun h0 => ?_⟩
  · subst h0
    rcases Nat.lt_or_ge q g with h3 | h3
    · obtain rfl : g = q + 1 := by omega
      rw [Nat.add_mul] at h; omega
    · obtain rfl : g = q := by omega
      exact ⟨rfl, by omega⟩
  · obtain rfl : b = 1 := by omega
    rcases Nat.lt_or_ge q g with h3 | h3
    · obtain rfl : g = q + 1 := by omega
      refine ⟨rfl, fun o2 b2 h4 h5 => ?_⟩
      rw [Nat.add_mul] at h
      match b2 with
      | 0 => omega
      | 1 => omega
      | b2 + 2 => rw [Nat.mul_add] at h5; omega
    · obtain rfl : g = q := by omega
      omega
/-- The window of a round. -/
theorem long_win {R : List Limb} {n j Y : Nat} (hj : j + (n + 1) ≤ R.length) (hY : Y < B ^ n) (h : nv R < Y * B ^ (j + 1)) :
    R = R.take j ++ (R.drop j).take (n + 1) ++ R.drop (j + (n + 1)) ∧ (R.take j).length = j ∧ ((R.drop j).take (n + 1)).length = n + 1 ∧ nv ((R.drop j).take (n + 1)) < B * Y ∧
    ∀ out : List Limb, out.length = n + 1 → nv out = nv ((R.drop j).take (n + 1)) % Y → (R.take j ++ out ++ R.drop (j + (n + 1))).length = R.length ∧ nv (R.take j ++ out ++ R.drop (j + (n + 1))) < Y * B ^ j ∧
      nv (R.take j ++ out ++ R.drop (j + (n + 1))) + Y * (B ^ j * (nv ((R.drop j).take (n + 1)) / Y)) = nv R := by
  have e1 : R = R.take j ++ (R.drop j).take (n + 1) ++ R.drop (j + (n + 1)) := by
    rw [List.append_assoc, ← List.drop_drop, List.take_append_drop, List.take_append_drop]
  have l1 : (R.take j).length = j := by rw [List.length_take]; omega
  have l2 : ((R.drop j).take (n + 1)).length = n + 1 := by rw [List.length_take, List.length_drop]; omega
  have hlo := nv_lt (R.take j)
  rw [l1] at hlo
  have hv : nv R = nv (R.take j) + B ^ j * nv ((R.drop j).take (n + 1)) + B ^ (j + (n + 1)) * nv (R.drop (j + (n + 1))) := by
    have : nv R = nv (R.take j ++ (R.drop j).take (n + 1) ++ R.drop (j + (n + 1))) := by rw [← e1]
    rw [this, nv_append, nv_append, List.length_append, l1, l2]
  have hY0 : 0 < Y := by
    rcases Nat.eq_zero_or_pos Y with h0 | h0
    · rw [h0] at h; omega
    · exact h0
  have hp := Bp j
  have hi0 : nv (R.drop (j + (n + 1))) = 0 := by
    rcases Nat.eq_zero_or_pos (nv (R.drop (j + (n + 1)))) with h0 | h0
    · exact h0
    · exfalso
      have h3 : B ^ (j + (n + 1)) * 1 ≤ B ^ (j + (n + 1)) * nv (R.drop (j + (n + 1))) := Nat.mul_le_mul_left _ h0
      have h4 : Y * B ^ (j + 1) ≤ B ^ n * B ^ (j + 1) := Nat.mul_le_mul_right _ (Nat.le_of_lt hY)
      rw [← Nat.pow_add, show n + (j + 1) = j + (n + 1) by omega] at h4
      omega
  generalize R.take j = lo at *
  generalize (R.drop j).take (n + 1) = xs at *
  generalize R.drop (j + (n + 1)) = hi at *
  rw [hi0, Nat.mul_zero, Nat.add_zero] at hv
  refine ⟨e1, l1, l2, ?_, fun out ho hn => ⟨?_, ?_, ?_⟩⟩
  · have h5 : B ^ j * nv xs < B ^ j * (B * Y) := by
      have : Y * B ^ (j + 1) = B ^ j * (B * Y) := by rw [Nat.pow_succ, Nat.mul_comm Y, Nat.mul_assoc]
      omega
    exact Nat.lt_of_mul_lt_mul_left h5
  · rw [e1]; simp [ho, l2]
  · rw [nv_append, nv_append, hi0, l1, hn, Nat.mul_zero, Nat.add_zero]
    have h6 : B ^ j * (nv xs % Y) + B ^ j ≤ B ^ j * Y := by
      rw [← Nat.mul_succ]; exact Nat.mul_le_mul_left _ (Nat.mod_lt _ hY0)
    rw [Nat.mul_comm Y]; omega
  · rw [nv_append, nv_append, hi0, l1, hn, Nat.mul_zero, Nat.add_zero, hv, Nat.mul_left_comm Y, Nat.add_assoc, ← Nat.mul_add, Nat.mod_add_div]
theorem rd_slL {w : World} {M : Nat → Prop} {v : Value} {l : List Limb} (h : Rd Try.prog md w M (.ty 28) (dL l) v) : SlL w v l := by
  obtain ⟨h1, h2, h3⟩ := h
  have hc1 : Try.prog.cellsOf 51 = 1 := by kernel_rfl
  unfold dL at h1
  cases h1 with
  | @sl _ e _ _ A cap bk off ht hc h4 h5 hA hh =>
    have he : e = 51 := by
      have : Try.prog.underlying 28 = some (.slice e) := ht
      rw [show Try.prog.underlying 28 = some (.slice 51) by kernel_rfl] at this
      injection this with this; injection this with this; exact this.symm
    subst he
    have hv : v = .slice A (l.map dB).length cap := by
      have ha : isAggV v = false := by rw [h3]; kernel_rfl
      rw [cells_of ha] at hc
      simpa using hc
    refine ⟨A, cap, by rw [hv]; simp, by simpa using h4, by simp, fun i x hx => ?_⟩
    rw [List.map_map, List.getElem?_map, Option.map_eq_some_iff] at hx
    obtain ⟨b, hb, rfl⟩ := hx
    have hne : l.map dB ≠ [] := fun e => by rw [List.map_eq_nil_iff.1 e] at hb; simp at hb
    obtain ⟨a1, a2, a3⟩ := hA hne
    have := hh i (dB b) (by rw [List.getElem?_map, hb]; rfl)
    rw [hc1] at this
    refine ⟨_, a1, a3, ?_⟩
    unfold dB at this
    cases this with
    | @int _ k _ _ ht' h1' h2' hc' =>
      have hk : k = .u32 := by
        have : Try.prog.underlying 51 = some (.int k) := ht'
        rw [show Try.prog.underlying 51 = some (.int .u32) by kernel_rfl] at this
        injection this with this; injection this with this; exact this.symm
      subst hk
      simp only [Nat.mul_one, Nat.add_zero] at hc'
      have ea : (⟨bk, off, none⟩ : Addr).add i = ⟨bk, off + i, none⟩ := by unfold Addr.add; split <;> simp_all
      rw [ea]; exact hc'
theorem win_rd {w : World} {M : Nat → Prop} {G off n c : Nat} {l : List Limb} (h : SlL w (.slice (some ⟨G, off, none⟩) n c) l) (hc : c ≤ maxLen) (hG : ¬ M G) : Rd Try.prog md w M (.ty 28) (dL l) (.slice (some ⟨G, off, none⟩) n c) := by
  obtain ⟨h1, h2⟩ := h.len
  have hc1 : Try.prog.cellsOf 51 = 1 := by kernel_rfl
  rw [List.length_map] at h1
  refine ⟨.sl (e := 51) (A := some ⟨G, off, none⟩) (cap := c) (bk := G) (off := off) (by kernel_rfl) (by rw [h1, List.length_map]; rfl) (by rw [List.length_map]; omega) hc (fun hne => ?_) (fun i x hx => ?_), by kernel_rfl, by kernel_rfl⟩
  · have : 0 < (l.map iB).length := by
      rw [List.length_map]; exact List.length_pos_iff.2 (fun e => hne (by rw [e]; rfl))
    obtain ⟨ad, ha, hb, _⟩ := h.cellAt 0 this
    cases ha
    exact ⟨rfl, hG, hb⟩
  · rw [List.getElem?_map, Option.map_eq_some_iff] at hx
    obtain ⟨b, hb, rfl⟩ := hx
    have hi : i < (l.map iB).length := by rw [List.length_map]; exact (List.getElem?_eq_some_iff.1 hb).1
    obtain ⟨ad, ha, _, hcell⟩ := h.cellAt i hi
    cases ha
    have ea : (⟨G, off, none⟩ : Addr).add i = ⟨G, off + i, none⟩ := by unfold Addr.add; split <;> simp_all
    rw [ea] at hcell
    have hx : (l.map iB)[i] = (b.toNat : Int) := by simp [iB, (List.getElem?_eq_some_iff.1 hb).2]
    rw [hx] at hcell
    have := b.isLt
    unfold dB
    exact .int (k := .u32) (by kernel_rfl) (by show (0 : Int) ≤ _; omega) (by show _ ≤ (4294967295 : Int); omega) (by rw [hc1]; simpa using hcell)
/-- A window of a row of limbs. -/
theorem OwL.win {w0 w : World} {G cap : Nat} {l : List Limb} (h : OwL w0 w G cap l) {j n c : Nat} (hj : j + n ≤ l.length) (hc : n ≤ c) : SlL w (.slice (some ⟨G, j, none⟩) n c) ((l.drop j).take n) := by
  have hl : (((l.drop j).take n).map iB).length = n := by simp; omega
  refine ⟨some ⟨G, j, none⟩, c, by rw [hl], by rw [hl]; exact hc, by simp, fun i x hx => ?_⟩
  rw [List.getElem?_map, Option.map_eq_some_iff] at hx
  obtain ⟨z, hz, rfl⟩ := hx
  have hi : i < n := by rw [← hl]; exact (List.getElem?_eq_some_iff.1 hz).1
  obtain ⟨h1, h2, h3, h4⟩ := h.cell (j + i) (by omega)
  refine ⟨_, rfl, h4, ?_⟩
  have ea : (⟨G, j, none⟩ : Addr).add i = ⟨G, j + i, none⟩ := by unfold Addr.add; split <;> simp_all
  rw [ea, h1]
  rw [List.getElem?_map, List.getElem?_take, if_pos hi, List.getElem?_drop, List.getElem?_eq_getElem (by omega)] at hz
  simp only [Option.map_some, Option.some.injEq] at hz
  rw [← hz]; rfl
end Go.Proofs.Ytcdjifdllibolaa

set_option maxRecDepth 100000
namespace Go.Proofs.Ytcdjifdllibolaa
open Go.RowKit

theorem elt_u32 : Elt Try.prog 28 51 1 4 :=
  ⟨Try.underlying28, by
    obtain ⟨i, hi, h1, h2, h3⟩ := info_parts (P := Try.prog) (e := 51) (z := .int .u32 0) (size := 1) (bytes := 4) (by kernel_rfl)
    exact ⟨i, _, hi, h1, h2, h3, rfl⟩, by decide⟩

theorem zero_u32 {z : Value} (h : ∃ i, Try.prog.info? 51 = some i ∧ i.zero = some z) : z = .int .u32 0 := by
  obtain ⟨i, hi, hz⟩ := h
  obtain ⟨j, hj, h1, _⟩ := info_parts (P := Try.prog) (e := 51) (z := .int .u32 0) (size := 1) (bytes := 4) (by kernel_rfl)
  rw [hi] at hj
  cases hj
  rw [hz] at h1
  exact Option.some.inj h1
theorem made_u32 {z : Value} (h : ∃ i, Try.prog.info? 51 = some i ∧ i.zero = some z) (n : Nat) : (madeCells z.cells (n * 1)).toList = (List.replicate n (0 : Int)).map (.int .u32) := by
  rw [zero_u32 h, made_one _ rfl]; simp
/-- A row of limbs, just told. -/
theorem own_limbs {w w' : World} {G cap : Nat} {cur : Array Value} {q : List Limb} (hG : w.heap.size ≤ G) (hB : w'.heap[G]? = some (.cells cur 51 (0, 0))) (hle : q.length ≤ cap) (hcap : cap ≤ maxLen) (hsz : cur.size = cap * Try.prog.cellsOf 51)
    (h : ∀ (i : Nat) (x : D), (q.map dB)[i]? = some x → ∃ M', RdC Try.prog md w' M' (.ty 51) x (fun j => cur[i * Try.prog.cellsOf 51 + j]?)) (hx : Ext w w') : OwL w w' G cap q := by
  have hc1 : Try.prog.cellsOf 51 = 1 := by kernel_rfl
  rw [hc1] at hsz h
  refine ⟨⟨by simp, .inr ⟨G, cap, cur, rfl, hG, hB, hle, hcap, hsz, ?_⟩⟩, hx⟩
  apply List.ext_getElem
  · simp; omega
  intro i h1 h2
  simp only [List.length_map] at h2
  obtain ⟨M', hr⟩ := h i (dB q[i]) (by simp [h2])
  simp only [Nat.mul_one, Nat.add_zero] at hr
  unfold dB at hr
  cases hr with
  | @int _ k _ _ ht' h1' h2' hc' =>
    have hk : k = .u32 := by
      have : Try.prog.underlying 51 = some (.int k) := ht'
      rw [show Try.prog.underlying 51 = some (.int .u32) by kernel_rfl] at this
      injection this with this; injection this with this; exact this.symm
    subst hk
    simp only [Nat.add_zero] at hc'
    have hi : i < cur.size := by omega
    rw [Array.getElem?_eq_getElem hi] at hc'
    simp only [List.getElem_take, Array.getElem_toList, List.getElem_map, iB]
    exact Option.some.inj hc'
theorem OwL.far {w0 w w' : World} {G G' cap : Nat} {l : List Limb} (h : OwL w0 w G cap l) (hg : w.grownBy w' (some G')) (hne : G ≠ G') (hG : w0.heap.size ≤ G') : OwL w0 w' G cap l :=
  ⟨h.own.kept hg (.inr (by simp only [Value.ownBlock]; intro e; injection e with e; exact hne e)), h.ext.grown hg (fun k hk => by injection hk with hk; omega)⟩
theorem to_calls {w w5 : World} {lo xs hi q1 : List Limb} {G1 G2 c1 c2 n j g c' : Nat} (hn : n ≤ q1.length) (hc1 : n ≤ c1) (l1 : lo.length = j) (l2 : xs.length = n + 1) (hlen : (lo ++ xs ++ hi).length ≤ 1000000000) (hc' : n + 1 ≤ c') (hg2 : w.heap.size ≤ G2) (h12 : G1 ≠ G2)
    (ow2 : OwL w w5 G2 c2 (lo ++ xs ++ hi)) (ow1 : OwL w w5 G1 c1 q1) (hg : g < B) : Calls Try.prog 83 #[.slice (some ⟨G2, j, none⟩) (n + 1) c', .slice (some ⟨G1, 0, none⟩) n c1, .int .u64 g] w5 (RetTO w w5 lo xs hi (q1.take n) G2 c2 g) := by
  have ld : (q1.take n).length = n := by rw [List.length_take]; omega
  have := takeOff_any w w5 lo xs hi (q1.take n) G2 c2 c' g (.slice (some ⟨G1, 0, none⟩) n c1) (by omega) hlen (by omega) ow2 (fun w' hg => by
    have := (ow1.far hg h12 hg2).win (j := 0) (n := n) (c := c1) (by omega) hc1
    rwa [List.drop_zero] at this) hg
  rwa [l1, l2] at this
theorem pb_calls {w w5 : World} {lo xs hi q1 : List Limb} {G1 G2 c1 c2 n j c' : Nat} (hn : n ≤ q1.length) (hc1 : n ≤ c1) (l1 : lo.length = j) (l2 : xs.length = n + 1) (hlen : (lo ++ xs ++ hi).length ≤ 1000000000) (hc' : n + 1 ≤ c') (hg2 : w.heap.size ≤ G2) (h12 : G1 ≠ G2)
    (ow2 : OwL w w5 G2 c2 (lo ++ xs ++ hi)) (ow1 : OwL w w5 G1 c1 q1) : Calls Try.prog 84 #[.slice (some ⟨G2, j, none⟩) (n + 1) c', .slice (some ⟨G1, 0, none⟩) n c1] w5 (RetPB w w5 lo xs hi (q1.take n) G2 c2) := by
  have ld : (q1.take n).length = n := by rw [List.length_take]; omega
  have := putBack_any w w5 lo xs hi (q1.take n) G2 c2 c' (.slice (some ⟨G1, 0, none⟩) n c1) (by omega) hlen (by omega) ow2 (fun w' hg => by
    have := (ow1.far hg h12 hg2).win (j := 0) (n := n) (c := c1) (by omega) hc1
    rwa [List.drop_zero] at this)
  rwa [l1, l2] at this
/-- The quotient's next limb. -/
theorem quo_set {qh : List Limb} {j : Nat} (x : Limb) : (List.replicate (j + 1) (0 : Limb) ++ qh).set j x = List.replicate j 0 ++ (x :: qh) := by
  rw [List.replicate_succ', List.append_assoc, List.set_append_right _ _ (by simp), List.length_replicate, Nat.sub_self]; rfl
def RetLong (x y : Nat) (w : World) (e : Ending) (w' : World) : Prop := ∃ u1 u2, e = .returned (.tuple #[u1, u2]) ∧ Rd Try.prog md w' (fun b => b < w.heap.size) (.ty 28) (dL (lb (x / y))) u1 ∧ Rd Try.prog md w' (fun b => b < w.heap.size) (.ty 28) (dL (lb (x % y))) u2 ∧ Ext w w'

/-- How far the divisor is shifted. -/
theorem norm_facts {y n s t : Nat} (hn : (lb y).length = n + 1) (ht : t = y / B ^ n) (h1 : t * 2 ^ s < B) (h2 : B ≤ 2 * (t * 2 ^ s)) (hs : s < 32) : y * 2 ^ s < B ^ (n + 1) ∧ B ^ (n + 1) ≤ 2 * (y * 2 ^ s) := by
  have hp := Bp n
  have hs0 : 0 < 2 ^ s := Nat.pow_pos (by decide)
  have hB : B = 2 ^ (32 - s) * 2 ^ s := by rw [← Nat.pow_add, show 32 - s + s = 32 by omega]; rfl
  have h3 : t < 2 ^ (32 - s) := by rw [hB] at h1; exact Nat.lt_of_mul_lt_mul_right h1
  have h4 : (t + 1) * 2 ^ s ≤ B := by rw [hB]; exact Nat.mul_le_mul_right _ h3
  have h5 : y < (t + 1) * B ^ n := by rw [ht, Nat.mul_comm]; exact Nat.lt_mul_div_succ y hp
  have h6 : t * B ^ n ≤ y := by rw [ht]; exact Nat.div_mul_le_self _ _
  rw [Nat.pow_succ]
  constructor
  · calc y * 2 ^ s < (t + 1) * B ^ n * 2 ^ s := Nat.mul_lt_mul_of_pos_right h5 hs0
      _ = B ^ n * ((t + 1) * 2 ^ s) := by rw [Nat.mul_comm (t + 1), Nat.mul_assoc]
      _ ≤ B ^ n * B := Nat.mul_le_mul_left _ h4
  · calc B ^ n * B ≤ B ^ n * (2 * (t * 2 ^ s)) := Nat.mul_le_mul_left _ h2
      _ = 2 * (t * B ^ n * 2 ^ s) := by rw [Nat.mul_left_comm, Nat.mul_comm t (B ^ n), Nat.mul_assoc]
      _ ≤ 2 * (y * 2 ^ s) := Nat.mul_le_mul_left _ (Nat.mul_le_mul_right _ h6)
theorem nv_take_all {q : List Limb} {n v : Nat} (h : nv q = v) (hv : v < B ^ n) (hn : n ≤ q.length) : nv (q.take n) = v := by
  have := nv_append (q.take n) (q.drop n)
  rw [List.take_append_drop, List.length_take, Nat.min_eq_left hn, h] at this
  rcases Nat.eq_zero_or_pos (nv (q.drop n)) with h0 | h0
  · rw [h0] at this; omega
  · have : B ^ n * 1 ≤ B ^ n * nv (q.drop n) := Nat.mul_le_mul_left _ h0
    omega

/-- What holds ahead of a round. -/
def LInv (X Y m n : Nat) (w wr : World) (G1 c1 G2 c2 G3 c3 : Nat) (q1 : List Limb) (k : Nat) (R qh : List Limb) : Prop :=
  k ≤ m - n + 1 ∧ R.length = m + 1 ∧ qh.length = m - n + 1 - k ∧ nv R < Y * B ^ k ∧ nv R + Y * (B ^ k * nv qh) = X ∧ OwL w wr G2 c2 R ∧ OwL w wr G3 c3 (List.replicate k 0 ++ qh) ∧ OwL w wr G1 c1 q1
theorem LInv.start {X Y m n : Nat} {w wr : World} {G1 c1 G2 c2 G3 c3 : Nat} {q1 q2 : List Limb} (h2 : q2.length = m + 1) (hv : nv q2 = X) (hX : X < Y * B ^ (m - n + 1)) (o1 : OwL w wr G1 c1 q1) (o2 : OwL w wr G2 c2 q2) (o3 : OwL w wr G3 c3 (List.replicate (m - n + 1) 0)) : LInv X Y m n w wr G1 c1 G2 c2 G3 c3 q1 (m - n + 1) q2 [] :=
  ⟨Nat.le_refl _, h2, by rw [Nat.sub_self]; rfl, by rw [hv]; exact hX, by rw [nv, Nat.mul_zero, Nat.mul_zero]; exact hv, o2, by rw [List.append_nil]; exact o3, o1⟩
set_option maxHeartbeats 4000000 in
theorem long_any (x y : Nat) (va vb : Value) (w : World) (M : Nat → Prop) (ha : Rd Try.prog md w M (.ty 28) (dL (lb x)) va) (hb : Rd Try.prog md w M (.ty 28) (dL (lb y)) vb) (hM : ∀ b, M b → b < w.heap.size)
    (h1 : 1 < (lb y).length) (hxy : y ≤ x) (hl : (lb x).length ≤ 100000) : Calls Try.prog 79 #[va, vb] w (RetLong x y w) := by
  have hyx : (lb y).length ≤ (lb x).length := lb_len.2 (Nat.lt_of_le_of_lt hxy (lb_len.1 (Nat.le_refl _)))
  obtain ⟨n, hn⟩ : ∃ n, (lb y).length = n := ⟨_, rfl⟩
  obtain ⟨m, hm⟩ : ∃ m, (lb x).length = m := ⟨_, rfl⟩
  rw [hn, hm] at hyx
  rw [hm] at hl
  rw [hn] at h1
  obtain ⟨A, ca, rfl, hca, _⟩ := (rd_slL ha).form
  obtain ⟨Ab, cb, rfl, hcb, hcel⟩ := (rd_slL hb).form
  rw [List.length_map, hm] at ha hca
  rw [List.length_map, hn] at hb hcb
  have HA := Lib.hid ha
  have HB := Lib.hid hb
  clear ha hb
  obtain ⟨ad, rfl, hb1, hce⟩ := hcel (n - 1) (by simp; omega)
  have hk : ((lb y).map iB)[n - 1]'(by simp; omega) = (((lb y)[n - 1]'(by omega)).toNat : Int) := by simp [iB]
  rw [hk, nv_limb (lb y) (n - 1) (by omega), nv_lb] at hce
  have hyl := (lb_len (n := y) (k := n)).1 (by omega)
  have hyg := can_len (x := y) (k := n - 1) (by omega)
  have htB : y / B ^ (n - 1) < B := by rw [Nat.div_lt_iff_lt_mul (Bp _), Nat.mul_comm, ← Nat.pow_succ, show (n - 1).succ = n by omega]; exact hyl
  rw [Nat.mod_eq_of_lt htB] at hce
  have ht0 : 0 < y / B ^ (n - 1) := Nat.div_pos hyg (Bp _)
  obtain ⟨s, hLZ, hs32, hs1, hs2⟩ := bits_Lz_ex _ htB ht0
  obtain ⟨hY1, hY2⟩ := norm_facts (n := n - 1) (by omega) rfl hs1 hs2 hs32
  rw [show n - 1 + 1 = n by omega] at hY1 hY2
  obtain ⟨q1, hq1, hq1v, sp1⟩ := nat_up_ex (lb y) s hs32 (by omega)
  obtain ⟨q2, hq2, hq2v, sp2⟩ := nat_up_ex (lb x) s hs32 (by omega)
  rw [nv_lb] at hq1v hq2v
  rw [hn] at hq1
  rw [hm] at hq2
  have hdv := nv_take_all hq1v hY1 (by omega)
  have hX1 : x * 2 ^ s < (y * 2 ^ s) * B ^ (m - n + 1) := by
    have h2 : x < B ^ m := lb_len.1 (by omega)
    have h3 : B ^ n * B ^ (m - n + 1) ≤ 2 * (y * 2 ^ s) * B ^ (m - n + 1) := Nat.mul_le_mul_right _ hY2
    rw [← Nat.pow_add, show n + (m - n + 1) = m + 1 by omega] at h3
    have h4 : 2 ^ s ≤ 2 ^ 31 := Nat.pow_le_pow_right (by decide) (by omega)
    have h5 : x * 2 ^ s ≤ x * 2 ^ 31 := Nat.mul_le_mul_left _ h4
    rw [Nat.mul_assoc] at h3
    rw [Nat.pow_succ, B_eq] at h3
    rw [B_eq] at h2 ⊢
    omega
  generalize y / B ^ (n - 1) = top at *
  have HLZ := Lib.hid hLZ
  have SP1 := Lib.hid sp1
  have SP2 := Lib.hid sp2
  have HM := Lib.hid hM
  have X1 := Lib.hid hX1
  have Y1 := Lib.hid hY1
  have Y2 := Lib.hid hY2
  clear hcel hk hLZ sp1 sp2 hM hX1 hY1 hY2 hyg hyl
  simp only [List.length_map, hn, hm]
  go_enter Try.func79, Try.ntmps79
  go_wp2_with (first
    | (go_at_call 80; refine (sp_int (t := 3) (vs := [_]) (M := fun _ => False) HLZ.out Try.func80 (by kernel_rfl) (fun _ h => h.elim) (by kernel_rfl) rfl (rd_all1 (by kernel_rfl) (rd_num_ (t := 51) (k := .u32) (by kernel_rfl) (by kernel_rfl) (by kernel_rfl) (by show (0 : Int) ≤ _; omega) (by show _ ≤ (4294967295 : Int); rw [B_eq] at htB; omega))) (by kernel_rfl) (k := .i64) (by kernel_rfl)).mono ?_; rintro e w1 ⟨rfl, _, hx1⟩)
    | (go_at_call_of 81 (Value.slice (some ad) n cb); refine (own_calls (t := 28) (e := 51) (vs := [_, _]) (M := M) SP1.out Try.func81 (by kernel_rfl) (fun b h => Nat.lt_of_lt_of_le (HM.out b h) hx1.size) (by kernel_rfl) rfl (rd_all2 (by kernel_rfl) (rd_weak (t := .ty 28) HB.out hx1 (fun _ h _ => h)) (rd_num_ (t := 3) (k := .i64) (by kernel_rfl) (by kernel_rfl) (by kernel_rfl) (by show (-9223372036854775808 : Int) ≤ _; omega) (by show _ ≤ (9223372036854775807 : Int); omega))) (by kernel_rfl) (by kernel_rfl) (by kernel_rfl) (fun e => by have := congrArg List.length e; simp [hq1] at this)).mono ?_; rintro e w2 ⟨G1, c1, cur1, rfl, hG1, hG1l, hB1, hle1, hc1, hsz1, hr1, hx2⟩; rw [List.length_map, hq1] at hle1 ⊢)
    | (go_at_call_of 81 (Value.slice A m ca); refine (own_calls (t := 28) (e := 51) (vs := [_, _]) (M := M) SP2.out Try.func81 (by kernel_rfl) (fun b h => Nat.lt_of_lt_of_le (HM.out b h) (hx1.trans hx2).size) (by kernel_rfl) rfl (rd_all2 (by kernel_rfl) (rd_weak (t := .ty 28) HA.out (hx1.trans hx2) (fun _ h _ => h)) (rd_num_ (t := 3) (k := .i64) (by kernel_rfl) (by kernel_rfl) (by kernel_rfl) (by show (-9223372036854775808 : Int) ≤ _; omega) (by show _ ≤ (9223372036854775807 : Int); omega))) (by kernel_rfl) (by kernel_rfl) (by kernel_rfl) (fun e => by have := congrArg List.length e; simp [hq2] at this)).mono ?_; rintro e w3 ⟨G2, c2, cur2, rfl, hG2, hG2l, hB2, hle2, hc2, hsz2, hr2, hx3⟩; rw [List.length_map, hq2] at hle2 ⊢)
    | (at_make; refine wpList_mknc (w0 := w3) elt_u32 rfl _ _ rfl (Ext.refl w3) (m - n + 1) (m - n + 1) rfl rfl (by omega) (by omega) (by omega) (by omega) (by unfold maxLen; omega) ?_; intro v4 w4 z hz hown4 hx4; rw [made_u32 hz] at hown4; have HO4 := Lib.hid hown4; rcases hown4.own.2 with ⟨_, hh⟩ | ⟨G3, c3, cur3, rfl, hG3, _, hnc3, c3m, _, _⟩; (exact absurd hh (by omega)); clear hown4 hz))
  have ow1 : OwL w w4 G1 c1 q1 := ((own_limbs hG1 hB1 (by omega) hc1 hsz1 hr1 hx2).base hx1).step (hx3.trans hx4)
  have ow2 : OwL w w4 G2 c2 q2 := ((own_limbs hG2 hB2 (by omega) hc2 hsz2 hr2 hx3).base (hx1.trans hx2)).step hx4
  have ow3 : OwL w w4 G3 c3 (List.replicate (m - n + 1) 0) := by
    have := HO4.out.base (hx1.trans (hx2.trans hx3))
    unfold OwL
    rw [List.length_replicate, List.map_replicate, show iB 0 = 0 from rfl]
    exact this
  have h12 : G1 ≠ G2 := by omega
  have h13 : G1 ≠ G3 := by have := hx3.size; omega
  have h23 : G2 ≠ G3 := by omega
  have hg1 : w.heap.size ≤ G1 := Nat.le_trans hx1.size hG1
  have hg2 : w.heap.size ≤ G2 := Nat.le_trans (hx1.trans hx2).size hG2
  have hg3 : w.heap.size ≤ G3 := Nat.le_trans (hx1.trans (hx2.trans hx3)).size hG3
  have O1 := Lib.hid ow1
  have O2 := Lib.hid ow2
  have O3 := Lib.hid ow3
  have DV := Lib.hid hdv
  have Q1 := Lib.hid hq1
  have Q2 := Lib.hid hq2
  have Q2v := Lib.hid hq2v
  clear ow1 ow2 ow3 HO4 hB1 hB2 hsz1 hsz2 hr1 hr2 hG1l hG2l hdv hq1 hq2 hq1v hq2v hce
  go_loopw [11] (fun jv wr => ∃ (k : Nat) (R qh : List Limb), jv = .int .i64 ((k : Int) - 1) ∧ LInv (x * 2 ^ s) (y * 2 ^ s) m n w wr G1 c1 G2 c2 G3 c3 q1 k R qh) (fun jv _ => (intOf jv + 1).toNat)
  case atStart => exact ⟨m - n + 1, q2, [], by congr 1; omega, LInv.start Q2.out Q2v.out X1.out O1.out O2.out O3.out⟩
  case round =>
    obtain ⟨k, R, qh, rfl, hk, hR, hql, hlt, heq, ow2, ow3, ow1⟩ := hrel
    by_cases hk0 : k = 0
    · subst hk0
      rw [Nat.pow_zero, Nat.mul_one] at hlt
      rw [Nat.pow_zero, Nat.one_mul] at heq
      rw [List.replicate_zero, List.nil_append] at ow3
      have Y0 : 0 < y * 2 ^ s := Nat.lt_of_le_of_lt (Nat.zero_le _) hlt
      have s0 : 0 < 2 ^ s := Nat.pow_pos (by decide)
      have q1e : nv qh = x / y := by
        have h1 : (x * 2 ^ s) / (y * 2 ^ s) = x / y := Nat.mul_div_mul_right _ _ s0
        rw [← h1, ← heq, Nat.add_mul_div_left _ _ Y0, Nat.div_eq_of_lt hlt, Nat.zero_add]
      have q2e : nv (R.take n) / 2 ^ s = x % y := by
        rw [nv_take_all rfl (Nat.lt_trans hlt Y1.out) (by omega)]
        have h1 : (x * 2 ^ s) % (y * 2 ^ s) = x % y * 2 ^ s := Nat.mul_mod_mul_right _ _ _
        have h2 : nv R = x % y * 2 ^ s := by rw [← h1, ← heq, Nat.add_mul_mod_self_left, Nat.mod_eq_of_lt hlt]
        rw [h2, Nat.mul_div_cancel _ s0]
      have TR := nat_trim_sp qh (by omega)
      have DN := nat_down_sp (R.take n) s hs32 (by rw [List.length_take]; omega)
      rw [q1e] at TR
      rw [q2e] at DN
      have hqw := ow3.win (j := 0) (n := m - n + 1) (c := c3) (by omega) hnc3
      rw [List.drop_zero, List.take_of_length_le (by omega)] at hqw
      have hrw := ow2.win (j := 0) (n := n) (c := c2) (by omega) (by omega)
      rw [List.drop_zero] at hrw
      have HTR := Lib.hid TR
      have HDN := Lib.hid DN
      have QWN := Lib.hid hqw
      have RWN := Lib.hid hrw
      have XT := Lib.hid ow3.ext
      clear TR DN hqw hrw ow1 ow2 ow3 q1e q2e hlt heq
      go_wp2_with fail
      refine region_growL 9 [[], [(0, 77)], [], [], [(2, 79), (3, 80)], [], [(4, 81), (5, 82)], [(1, 78)], [(6, 83)]] [(0, 77), (1, 78), (2, 79), (3, 80), (4, 81), (5, 82), (6, 83), (7, 4), (8, 5)] (by kernel_rfl) (by kernel_rfl) (by kernel_rfl) (by kernel_rfl) ?_
      apply Grow.step
      · intro w2 hw2
        intro K hK
        go_wp2_with fail
        first | exact hK _ _ (Ext.refl _) EqV.rfl_ | trace "op 0"
      · first | exact stay_eq _ | (intro v w w1 h hx; exact SlI.keep h hx) | (intro v w w1 h hx; exact IntV.keep h hx) | (intro v w w1 h hx; exact SlN.keep h hx) | (intro v w w1 h hx; exact h)
      apply Grow.step
      · intro w2 hw2
        intro n1 h1
        simp only [upd, reduceIte, Nat.reduceEqDiff, Nat.reduceAdd] at h1
        first | (unfold EqV at h1; subst h1) | skip
        intro K hK
        go_wp2_with fail
        (refine (sp_sl (t := 28) (vs := [_]) (M := fun b ↦ b < w.heap.size) HTR.out Try.func71 (by kernel_rfl) (fun b h ↦ Nat.lt_of_lt_of_le h (XT.out.trans (((Ext.refl _).drew).trans hw2)).size) (by kernel_rfl) rfl (rd_all1 (t := 28) (by kernel_rfl) (win_rd (SlI.keep QWN.out (((Ext.refl _).drew).trans hw2)) c3m (by omega))) (by kernel_rfl) (by kernel_rfl)).mono ?_; rintro e w' ⟨u5, rfl, hu5, hx5⟩; (go_wp2_with fail); exact hK _ _ hx5 hu5)
      · (intro v w1 w2 h hx; exact rd_weak h hx (fun _ h _ => h))
      apply Grow.step
      · intro w2 hw2
        intro K hK
        go_wp2_with fail
        first | exact hK _ _ (Ext.refl _) EqV.rfl_ | trace "op 2"
      · first | exact stay_eq _ | (intro v w w1 h hx; exact SlI.keep h hx) | (intro v w w1 h hx; exact IntV.keep h hx) | (intro v w w1 h hx; exact SlN.keep h hx) | (intro v w w1 h hx; exact h)
      apply Grow.step
      · intro w2 hw2
        intro K hK
        go_wp2_with fail
        first | exact hK _ _ (Ext.refl _) EqV.rfl_ | trace "op 3"
      · first | exact stay_eq _ | (intro v w w1 h hx; exact SlI.keep h hx) | (intro v w w1 h hx; exact IntV.keep h hx) | (intro v w w1 h hx; exact SlN.keep h hx) | (intro v w w1 h hx; exact h)
      apply Grow.step
      · intro w2 hw2
        intro n1 h1
        simp only [upd, reduceIte, Nat.reduceEqDiff, Nat.reduceAdd] at h1
        first | (unfold EqV at h1; subst h1) | skip
        intro n2 h2
        simp only [upd, reduceIte, Nat.reduceEqDiff, Nat.reduceAdd] at h2
        first | (unfold EqV at h2; subst h2) | skip
        intro K hK
        go_wp2_with fail
        first | exact hK _ _ (Ext.refl _) EqV.rfl_ | exact hK _ _ (Ext.refl _) h1 | exact hK _ _ (Ext.refl _) h2 | trace "op 4"
      · first | exact stay_eq _ | (intro v w w1 h hx; exact SlI.keep h hx) | (intro v w w1 h hx; exact IntV.keep h hx) | (intro v w w1 h hx; exact SlN.keep h hx) | (intro v w w1 h hx; exact h)
      apply Grow.step
      · intro w2 hw2
        intro K hK
        go_wp2_with fail
        first | exact hK _ _ (Ext.refl _) EqV.rfl_ | trace "op 5"
      · first | exact stay_eq _ | (intro v w w1 h hx; exact SlI.keep h hx) | (intro v w w1 h hx; exact IntV.keep h hx) | (intro v w w1 h hx; exact SlN.keep h hx) | (intro v w w1 h hx; exact h)
      apply Grow.step
      · intro w2 hw2
        intro n1 h1
        simp only [upd, reduceIte, Nat.reduceEqDiff, Nat.reduceAdd] at h1
        first | (unfold EqV at h1; subst h1) | skip
        intro n2 h2
        simp only [upd, reduceIte, Nat.reduceEqDiff, Nat.reduceAdd] at h2
        first | (unfold EqV at h2; subst h2) | skip
        intro K hK
        go_wp2_with fail
        (refine (sp_sl (t := 28) (vs := [_, _]) (M := fun b ↦ b < w.heap.size) HDN.out Try.func85 (by kernel_rfl) (fun b h ↦ Nat.lt_of_lt_of_le h (XT.out.trans (((Ext.refl _).drew).trans hw2)).size) (by kernel_rfl) rfl (rd_all2 (t := 28) (by kernel_rfl) (win_rd (SlI.keep RWN.out (((Ext.refl _).drew).trans hw2)) hc2 (by omega)) (rd_num_ (t := 3) (k := .i64) (by kernel_rfl) (by kernel_rfl) (by kernel_rfl) (by show (-9223372036854775808 : Int) ≤ _; omega) (by show _ ≤ (9223372036854775807 : Int); omega))) (by kernel_rfl) (by kernel_rfl)).mono ?_; rintro e w' ⟨u5, rfl, hu5, hx5⟩; (go_wp2_with fail); exact hK _ _ hx5 hu5)
      · (intro v w1 w2 h hx; exact rd_weak h hx (fun _ h _ => h))
      apply Grow.step
      · intro w2 hw2
        intro n1 h1
        simp only [upd, reduceIte, Nat.reduceEqDiff, Nat.reduceAdd] at h1
        first | (unfold EqV at h1; subst h1) | skip
        intro K hK
        go_wp2_with fail
        ((first | exact hK _ _ (Ext.refl _) h1 | exact hK _ _ (Ext.refl _) h2))
      · (intro v w1 w2 h hx; exact rd_weak h hx (fun _ h _ => h))
      apply Grow.step
      · intro w2 hw2
        intro n1 h1
        simp only [upd, reduceIte, Nat.reduceEqDiff, Nat.reduceAdd] at h1
        first | (unfold EqV at h1; subst h1) | skip
        intro K hK
        go_wp2_with fail
        ((first | exact hK _ _ (Ext.refl _) h1 | exact hK _ _ (Ext.refl _) h2))
      · (intro v w1 w2 h hx; exact rd_weak h hx (fun _ h _ => h))
      refine Grow.last (fun w2 hw2 => ?_)
      intro n77 h77; simp only [upd, reduceIte, Nat.reduceEqDiff, Nat.reduceAdd] at h77; (first | (unfold EqV at h77; subst h77) | skip)
      intro n78 h78; simp only [upd, reduceIte, Nat.reduceEqDiff, Nat.reduceAdd] at h78; (first | (unfold EqV at h78; subst h78) | skip)
      intro n79 h79; simp only [upd, reduceIte, Nat.reduceEqDiff, Nat.reduceAdd] at h79; (first | (unfold EqV at h79; subst h79) | skip)
      intro n80 h80; simp only [upd, reduceIte, Nat.reduceEqDiff, Nat.reduceAdd] at h80; (first | (unfold EqV at h80; subst h80) | skip)
      intro n81 h81; simp only [upd, reduceIte, Nat.reduceEqDiff, Nat.reduceAdd] at h81; (first | (unfold EqV at h81; subst h81) | skip)
      intro n82 h82; simp only [upd, reduceIte, Nat.reduceEqDiff, Nat.reduceAdd] at h82; (first | (unfold EqV at h82; subst h82) | skip)
      intro n83 h83; simp only [upd, reduceIte, Nat.reduceEqDiff, Nat.reduceAdd] at h83; (first | (unfold EqV at h83; subst h83) | skip)
      intro n4 h4; simp only [upd, reduceIte, Nat.reduceEqDiff, Nat.reduceAdd] at h4; (first | (unfold EqV at h4; subst h4) | skip)
      intro n5 h5; simp only [upd, reduceIte, Nat.reduceEqDiff, Nat.reduceAdd] at h5; (first | (unfold EqV at h5; subst h5) | skip)
      refine Need.done ?_
      simp only [List.drop_succ_cons, List.drop_zero]
      go_simp
      go_wp2_with fail
      go_ret2
      exact ⟨_, _, rfl, h4, h5, XT.out.trans (((Ext.refl _).drew).trans hw2)⟩
    · obtain ⟨j, rfl⟩ : ∃ j, k = j + 1 := ⟨k - 1, by omega⟩
      obtain ⟨e1, l1, l2, l3, l4⟩ := long_win (R := R) (n := n) (j := j) (by omega) Y1.out hlt
      have RW := Lib.hid ow2
      have QW := Lib.hid ow3
      have DW := Lib.hid ow1
      have L4 := Lib.hid l4
      have L3 := Lib.hid l3
      have L2 := Lib.hid l2
      have L1 := Lib.hid l1
      have E1 := Lib.hid e1
      have LT := Lib.hid hlt
      have EQ := Lib.hid heq
      clear ow1 ow2 ow3 l1 l2 l3 l4 e1 hlt heq
      have DS : Hid (SlL wr (.slice (some ⟨G1, 0, none⟩) n c1) (q1.take n)) := by
        have := DW.out.win (j := 0) (n := n) (c := c1) (by have := Q1.out; omega) (by omega)
        rwa [List.drop_zero] at this
      have WIN := Lib.hid (RW.out.win (j := j) (n := n + 1) (c := c2 - j) (by omega) (by omega))
      obtain ⟨g, spE, hgl, hgu, hgB⟩ := nat_estimate_ex ((R.drop j).take (n + 1)) (q1.take n) (n - 2) (by have := Q1.out; rw [List.length_take]; omega) (by rw [L2.out]; omega) (by omega) (by rw [DV.out, show n - 2 + 2 = n by omega]; exact Y2.out) (by rw [DV.out]; exact L3.out)
      rw [DV.out] at hgl hgu
      have SPE := Lib.hid spE
      have GL := Lib.hid hgl
      have GU := Lib.hid hgu
      have GB := Lib.hid hgB
      clear spE hgl hgu
      rw [B_eq] at hgB
      have en : j + n + 1 - j = n + 1 := by omega
      go_wp2_with (go_at_call 82; rw [en]; refine (sp_int (t := 60) (vs := [_, _]) (M := fun _ => False) SPE.out Try.func82 (by kernel_rfl) (fun _ h => h.elim) (by kernel_rfl) rfl (rd_all2 (t := 28) (u := 28) (by kernel_rfl) (win_rd WIN.out (by omega) id) (win_rd DS.out (by omega) id)) (by kernel_rfl) (k := .u64) (by kernel_rfl)).mono ?_; rintro e w5 ⟨rfl, _, hx5⟩)
      have LEN : Hid ((R.take j ++ (R.drop j).take (n + 1) ++ R.drop (j + (n + 1))).length ≤ 1000000000) := by show _ ≤ _; rw [← E1.out]; omega
      have hq1n : n ≤ q1.length := by have := Q1.out; omega
      have RW5 : Hid (OwL w w5 G2 c2 (R.take j ++ (R.drop j).take (n + 1) ++ R.drop (j + (n + 1)))) := by show OwL _ _ _ _ _; rw [← E1.out]; exact RW.out.step hx5
      have QW5 : Hid (OwL w w5 G3 c3 (List.replicate (j + 1) 0 ++ qh)) := QW.out.step hx5
      have DW5 : Hid (OwL w w5 G1 c1 q1) := DW.out.step hx5
      refine (to_calls hq1n (by omega) L1.out L2.out LEN.out (by omega) hg2 h12 RW5.out DW5.out GB.out).mono ?_
      rintro e w6 ⟨out, b, hb01, rfl, hol, hov, how, hgr⟩
      rw [L2.out] at hol hov
      rw [DV.out] at hov
      have Y0 : Hid (0 < y * 2 ^ s) := by
        rcases Nat.eq_zero_or_pos (y * 2 ^ s) with h0 | h0
        · have := LT.out; rw [h0] at this; omega
        · exact h0
      have YP : Hid (y * 2 ^ s ≤ B ^ (n + 1)) := Nat.le_trans (Nat.le_of_lt Y1.out) (Nat.pow_le_pow_right B_pos (by omega))
      have EX := Lib.hid (to_exact Y0.out YP.out GL.out GU.out (by have := nv_lt out; rwa [hol] at this) hb01 hov)
      have QW6 : Hid (OwL w w6 G3 c3 (List.replicate (j + 1) 0 ++ qh)) := QW5.out.far hgr h23.symm hg2
      have DW6 : Hid (OwL w w6 G1 c1 q1) := DW5.out.far hgr h12 hg2
      have HOW := Lib.hid how
      have HOL := Lib.hid hol
      clear hov how hgr hol
      -- the end of a round
      have fin : Hid (∀ (w7 : World) (o2 : List Limb) (g2 : Nat), o2.length = n + 1 → nv o2 = nv ((R.drop j).take (n + 1)) % (y * 2 ^ s) → g2 = nv ((R.drop j).take (n + 1)) / (y * 2 ^ s) → OwL w w7 G2 c2 (R.take j ++ o2 ++ R.drop (j + (n + 1))) → OwL w w7 G3 c3 (List.replicate (j + 1) 0 ++ qh) → OwL w w7 G1 c1 q1 → g2 < B →
          ∃ (k : Nat) (R' qh' : List Limb), Value.int IntKind.i64 ((j : Int) - 1) = .int .i64 ((k : Int) - 1) ∧ LInv (x * 2 ^ s) (y * 2 ^ s) m n w (w7.setCell ⟨G3, j, none⟩ (.int .u32 (g2 : Int))) G1 c1 G2 c2 G3 c3 q1 k R' qh') := by
        intro w7 o2 g2 t1 t2 t3 t4 t5 t6 t7
        obtain ⟨u1, u2, u3⟩ := L4.out o2 t1 t2
        have gs : w7.grownBy (w7.setCell ⟨G3, j, none⟩ (.int .u32 (g2 : Int))) (some G3) := grown_set (grown_refl _ _) _ _ _
        refine ⟨j, _, BitVec.ofNat 32 g2 :: qh, rfl, by omega, u1.trans hR, by simp; omega, u2, ?_, t4.far gs h23 hg3, ?_, t6.far gs h13 hg3⟩
        · rw [← EQ.out, ← u3, nv, ofNat_lt t7, ← t3, Nat.mul_add, Nat.mul_add, Nat.pow_succ, Nat.mul_assoc (B ^ j)]; omega
        · have := t5.set j (by simp; omega) (BitVec.ofNat 32 g2)
          rw [ofNat_lt t7, quo_set] at this
          exact this
      by_cases hb0 : b = 0
      · subst hb0
        obtain ⟨cl, fz, gb, gl⟩ := QW6.out.cell j (by simp; omega)
        obtain ⟨e2, e3⟩ := EX.out.1 rfl
        have E2 := Lib.hid e2
        have E3 := Lib.hid e3
        clear e2 e3
        go_wp2
        go_roundw
        case rel => exact fin.out _ out g HOL.out E3.out E2.out HOW.out QW6.out DW6.out GB.out
        case measure => (simp [intOf] <;> omega)
      · obtain ⟨e2, e3⟩ := EX.out.2 hb0
        obtain ⟨g', rfl⟩ : ∃ g', g = g' + 1 := ⟨_, e2⟩
        have E2 : Hid (g' = nv ((R.drop j).take (n + 1)) / (y * 2 ^ s)) := Nat.succ.inj e2
        have E3 := Lib.hid e3
        have hbz : (!(b == 0)) = true := by simp [hb0]
        have HGB' : Hid (g' < B) := Nat.lt_of_succ_lt GB.out
        have eg : (((g' + 1 : Nat) : Int) - 1) = (g' : Int) := by omega
        clear e2 e3
        go_wp2_with fail
        have LEN6 : Hid ((R.take j ++ out ++ R.drop (j + (n + 1))).length ≤ 1000000000) := by
          have h1 := LEN.out
          simp only [List.length_append, L2.out, HOL.out] at h1 ⊢
          exact h1
        refine (pb_calls hq1n (by omega) L1.out HOL.out LEN6.out (by omega) hg2 h12 HOW.out DW6.out).mono ?_
        rintro e w7 ⟨out2, b2, v, rfl, hol2, hov2, how2, hgr2⟩
        rw [HOL.out] at hol2 hov2
        rw [DV.out] at hov2
        have E4 := Lib.hid (E3.out (nv out2) b2 (by have := nv_lt out2; rwa [hol2] at this) hov2)
        have QW7 : Hid (OwL w w7 G3 c3 (List.replicate (j + 1) 0 ++ qh)) := QW6.out.far hgr2 h23.symm hg2
        have DW7 : Hid (OwL w w7 G1 c1 q1) := DW6.out.far hgr2 h12 hg2
        have HOW2 := Lib.hid how2
        have HOL2 := Lib.hid hol2
        obtain ⟨cl, fz, gb, gl⟩ := QW7.out.cell j (by simp; omega)
        have hgB' := HGB'.out
        rw [B_eq] at hgB'
        clear hov2 how2 hgr2 hol2 hgB
        go_wp2
        go_roundw
        case rel => exact fin.out _ out2 g' HOL2.out E4.out E2.out HOW2.out QW7.out DW7.out HGB'.out
        case measure => (simp [intOf] <;> omega)
theorem nat_long_sp (x y : Nat) (h1 : 1 < (lb y).length) (hxy : y ≤ x) (hl : (lb x).length ≤ 100000) : Sp 79 [dL (lb x), dL (lb y)] [dL (lb (x / y)), dL (lb (x % y))] := by
  refine spec_of wfP Try.func79 (by kernel_rfl) (by kernel_rfl) (by kernel_rfl) (fun w M vs hM _ hlv hrd => ?_)
  have hps : Try.f79.params.toList = [28, 28] := by kernel_rfl
  have hlen : vs.length = 2 := by rw [hlv]; rfl
  match vs, hlen with
  | [va, vb], _ =>
    rw [hps] at hrd
    refine (long_any x y va vb w M (hrd 0 _ _ _ rfl rfl rfl) (hrd 1 _ _ _ rfl rfl rfl) hM h1 hxy hl).mono ?_
    rintro e w' ⟨u1, u2, rfl, r1, r2, hx⟩
    refine ⟨[u1, u2], rfl, rfl, fun i t u ht hu => ?_, hx⟩
    rw [show Try.f79.resultTypes.toList = [28, 28] by kernel_rfl] at ht
    match i with
    | 0 => cases ht; cases hu; exact rd_weak r1 (Ext.refl _) (fun b hb _ => hM b hb)
    | 1 => cases ht; cases hu; exact rd_weak r2 (Ext.refl _) (fun b hb _ => hM b hb)
    | i + 2 => simp at ht
theorem longOk (x y : Nat) (hl : (lb x).length ≤ 100000) : LongOk x y := fun h1 h2 => nat_long_sp x y h1 h2 hl
end Go.Proofs.Ytcdjifdllibolaa

set_option maxRecDepth 100000
namespace Go.Proofs.Ytcdjifdllibolaa

/-- A ratio as it stands. -/
def frac (z : Int) (d : Nat) : Num := ⟨decide (z < 0), lb z.natAbs, lb d⟩
theorem numT_frac (z : Int) (d : Nat) : numT (frac z d) = z := zv_wz z
theorem numB_frac (z : Int) (d : Nat) : numB (frac z d) = (d : Int) := by simp [numB, frac, nv_lb]
theorem lbn_one : lb 1 = [1] := by rw [lb_pos (by decide), show 1 / B = 0 from rfl, lb_zero]; rfl
theorem mkR_cases (p q : Int) (hq : q ≠ 0) : ∃ (z : Int) (d : Nat), d ≠ 0 ∧ Nat.Coprime z.natAbs d ∧ z * q = p * (d : Int) ∧ z.natAbs ≤ p.natAbs ∧ d ≤ q.natAbs ∧ mkR p q = if 32 < lenZ z ∨ 32 < (lb d).length then (.zero, 7) else (frac z d, 0) := by
  have hg : 0 < Nat.gcd p.natAbs q.natAbs := Nat.gcd_pos_of_pos_right _ (by omega)
  obtain ⟨a, ha⟩ := Nat.gcd_dvd_left p.natAbs q.natAbs
  obtain ⟨b, hb⟩ := Nat.gcd_dvd_right p.natAbs q.natAbs
  have hda : p.natAbs / Nat.gcd p.natAbs q.natAbs = a := by
    conv => lhs; lhs; rw [ha]
    exact Nat.mul_div_cancel_left _ hg
  have hdb : q.natAbs / Nat.gcd p.natAbs q.natAbs = b := by
    conv => lhs; lhs; rw [hb]
    exact Nat.mul_div_cancel_left _ hg
  have hcop : Nat.Coprime a b := by
    have := Nat.coprime_div_gcd_div_gcd hg
    rwa [hda, hdb] at this
  have hb0 : b ≠ 0 := fun h => by rw [h, Nat.mul_zero] at hb; omega
  have ha0 : a = 0 ↔ p = 0 := by
    constructor
    · intro h; rw [h, Nat.mul_zero] at ha; omega
    · intro h
      rw [h] at ha
      simp only [Int.natAbs_zero] at ha
      rcases Nat.mul_eq_zero.1 ha.symm with h1 | h1
      · rw [h] at hg; simp only [Int.natAbs_zero] at hg; omega
      · exact h1
  have hal : a ≤ p.natAbs := by rw [ha]; exact Nat.le_mul_of_pos_left _ hg
  have hbl : b ≤ q.natAbs := by rw [hb]; exact Nat.le_mul_of_pos_left _ hg
  have hab : a * q.natAbs = p.natAbs * b := by
    conv => lhs; rw [hb]
    conv => rhs; rw [ha]
    rw [Nat.mul_left_comm, Nat.mul_assoc]
  unfold mkR
  rw [if_neg hq, hda, hdb]
  generalize Nat.gcd p.natAbs q.natAbs = g at *
  clear hda hdb ha hb hg
  have habz : (a : Int) * (q.natAbs : Int) = (p.natAbs : Int) * (b : Int) := by rw [← Int.natCast_mul, hab, Int.natCast_mul]
  by_cases hs : decide (p < 0) = decide (q < 0)
  · refine ⟨(a : Int), b, hb0, by simpa using hcop, ?_, by simpa using hal, hbl, ?_⟩
    · rw [decide_eq_decide] at hs
      by_cases hp : p < 0
      · have e1 : (p.natAbs : Int) = -p := by omega
        have e2 : (q.natAbs : Int) = -q := by omega
        rw [e1, e2] at habz
        grind
      · have e1 : (p.natAbs : Int) = p := by omega
        have e2 : (q.natAbs : Int) = q := by omega
        rw [e1, e2] at habz
        exact habz
    · unfold frac lenZ
      rw [hs, beq_self_eq_true, Bool.not_true, Bool.and_false]
      simp only [Int.natAbs_natCast]
      rw [decide_eq_false (p := ((a : Int) < 0)) (by omega)]
  · have hp : (decide (p < 0) == decide (q < 0)) = false := by simpa using hs
    refine ⟨-(a : Int), b, hb0, by simpa using hcop, ?_, by simpa using hal, hbl, ?_⟩
    · rw [decide_eq_decide] at hs
      by_cases hp : p < 0
      · have e1 : (p.natAbs : Int) = -p := by omega
        have e2 : (q.natAbs : Int) = q := by omega
        rw [e1, e2] at habz
        grind
      · have e1 : (p.natAbs : Int) = p := by omega
        have e2 : (q.natAbs : Int) = -q := by omega
        rw [e1, e2] at habz
        grind
    · unfold frac lenZ
      rw [hp, Bool.not_false, Bool.and_true]
      simp only [Int.natAbs_neg, Int.natAbs_natCast]
      have : decide (0 < (lb a).length) = decide (-(a : Int) < 0) := by
        rw [decide_eq_decide]
        have := lb_len0 (n := a)
        omega
      rw [this]
theorem cop_unique {z z' : Int} {d d' : Nat} (h : d ≠ 0) (h' : d' ≠ 0) (c : Nat.Coprime z.natAbs d) (c' : Nat.Coprime z'.natAbs d') (e : z * (d' : Int) = z' * (d : Int)) : z = z' ∧ d = d' := by
  have en : z.natAbs * d' = z'.natAbs * d := by
    have := congrArg Int.natAbs e
    simpa [Int.natAbs_mul] using this
  have h1 : d ∣ d' := (Nat.Coprime.dvd_of_dvd_mul_left c.symm (by rw [en]; exact Nat.dvd_mul_left _ _))
  have h2 : d' ∣ d := (Nat.Coprime.dvd_of_dvd_mul_left c'.symm (by rw [← en]; exact Nat.dvd_mul_left _ _))
  have hd := Nat.dvd_antisymm h1 h2
  subst hd
  exact ⟨Int.eq_of_mul_eq_mul_right (by omega) e, rfl⟩
/-- A right number: so many of such parts. -/
structure RNum (n : Num) (z : Int) (d : Nat) : Prop where
  eq : n = frac z d
  d0 : d ≠ 0
  cop : Nat.Coprime z.natAbs d
  lz : lenZ z ≤ 32
  ld : (lb d).length ≤ 32
theorem mkR_self {z : Int} {d : Nat} (h0 : d ≠ 0) (hc : Nat.Coprime z.natAbs d) (h1 : lenZ z ≤ 32) (h2 : (lb d).length ≤ 32) : mkR z (d : Int) = (frac z d, 0) := by
  obtain ⟨z', d', h1', h2', h3', _, _, h4'⟩ := mkR_cases z (d : Int) (by omega)
  obtain ⟨rfl, rfl⟩ := cop_unique h0 h1' hc h2' h3'.symm
  rw [h4', if_neg (by omega)]
theorem RNum.self {n : Num} {z : Int} {d : Nat} (h : RNum n z d) : mkR z (d : Int) = (n, 0) := by rw [mkR_self h.d0 h.cop h.lz h.ld, h.eq]
theorem RNum.top {n : Num} {z : Int} {d : Nat} (h : RNum n z d) : numT n = z := by rw [h.eq, numT_frac]
theorem RNum.bot {n : Num} {z : Int} {d : Nat} (h : RNum n z d) : numB n = (d : Int) := by rw [h.eq, numB_frac]
theorem RNum.right {n : Num} {z : Int} {d : Nat} (h : RNum n z d) : rightN n = true := by
  unfold rightN
  rw [h.top, h.bot, h.self]
  have h1 := h.lz
  have h2 := h.ld
  rw [h.eq]
  exact decide_eq_true ⟨h1, h2, rfl⟩
theorem rn_of {n : Num} (h : rightN n = true) : ∃ z d, RNum n z d := by
  unfold rightN at h
  obtain ⟨h1, h2, h3⟩ := of_decide_eq_true h
  by_cases hq : numB n = 0
  · rw [hq] at h3
    have := congrArg Prod.snd h3
    simp [mkR] at this
  · obtain ⟨z, d, g1, g2, _, _, _, g4⟩ := mkR_cases (numT n) (numB n) hq
    rw [h3] at g4
    split at g4
    · cases g4
    · injection g4 with g4
      exact ⟨z, d, g4, g1, g2, by omega, by omega⟩
theorem RNum.len {n : Num} {z : Int} {d : Nat} (h : RNum n z d) : n.top.length ≤ 32 ∧ n.bot.length ≤ 32 := by rw [h.eq]; exact ⟨h.lz, h.ld⟩
theorem nat_small_sp (a b : Nat) (ha : a < 18446744073709551616) (hb : b < 18446744073709551616) : Sp 72 [.int (a : Int), .int (b : Int)] [dL (lb (Nat.gcd a b))] := by
  have key : ∀ (m N x y : Nat), y < m → x < 18446744073709551616 → y < 18446744073709551616 → Tw (nat_small_l1 N m (x : Int) (y : Int)) [dL (lb (Nat.gcd x y))] := by
    intro m
    induction m with
    | zero => intro N x y h; omega
    | succ m ih =>
      intro N x y h hx hy
      simp only [Tw, nat_small_l1_succ, int_bne, int_beq, not_dec]
      refine wp_decs (fun h0 => ?_) (fun h0 => ?_)
      · have hm := Nat.mod_lt x (show 0 < y by omega)
        have := ih N y (x % y) (by omega) hy (by omega)
        rw [Nat.gcd_comm x y, Nat.gcd_rec, Nat.gcd_comm]
        exact wp_dec (by omega) this
      · have : y = 0 := by omega
        subst this
        rw [Nat.gcd_zero_right, fdiv32]
        have e1 : IntKind.wrap .u32 (x : Int) = ((x % 4294967296 : Nat) : Int) := by rw [IntKind.wrap_u32]; omega
        have e2 : IntKind.wrap .u32 ((x / 4294967296 : Nat) : Int) = ((x / 4294967296 : Nat) : Int) := wrapU32 (by omega) (by omega)
        have nm := nat_Norm_sp [BitVec.ofNat 32 (x % 4294967296), BitVec.ofNat 32 (x / 4294967296)] (by simp)
        rw [two_limbs hx] at nm
        rw [e1, e2, dB_ofNat (t := x % 4294967296) (by rw [B_eq]; omega), dB_ofNat (t := x / 4294967296) (by rw [B_eq]; omega)]
        exact wp_tt (by decide) (wp_call nm (wp_ret rfl))
  refine sound_ (b + 1) (nat_small_tree _ _ _) ?_
  simp only [toInt_int]
  exact key (b + 1) (b + 1) a b (by omega) ha hb
theorem nat_word_sp (l : List Limb) (h : l.length ≤ 2) : Sp 73 [dL l] [.int ((nv l : Nat) : Int)] := by
  refine sound_ 3 (nat_word_tree _ _) ?_
  have one : ∀ (m k x : Nat) (d : Limb), k ≤ 1 → l[k]? = some d → (k = 0 → x = 0) → x < 4294967296 → Tw (nat_word_l3 3 m ((x + d.toNat * 4294967296 ^ k : Nat) : Int) (dL l) (l.length : Int) ((k + 1 : Nat) : Int)) [.int ((nv l : Nat) : Int)] → Tw (nat_word_l3 3 (m + 1) (x : Int) (dL l) (l.length : Int) (k : Int)) [.int ((nv l : Nat) : Int)] := by
    intro m k x d hk hd hx hx2 hw
    have hkl : k < l.length := (List.getElem?_eq_some_iff.1 hd).1
    have hdl := limb_lt d
    rw [B_eq] at hdl
    simp only [Tw, nat_word_l3_succ, els_dL, List.length_map, Int.toNat_natCast, getD_map hd, toInt_dB]
    rw [wrap64 (x := 32 * (k : Int)) (by omega) (by omega), wrapU64 (x := 32 * (k : Int)) (by omega) (by omega), wrapU64 (x := (d.toNat : Int)) (by omega) (by omega), wrap_succ (by omega)]
    refine wp_dec (by omega) (wp_dec (by omega) (wp_dec (by omega) (wp_dec (by omega) ?_)))
    have e : bits_ .or .u64 (x : Int) (IntKind.wrap .u64 ((d.toNat : Int) * 2 ^ (min (Int.toNat (32 * (k : Int))) (IntKind.bits .u64)))) = ((x + d.toNat * 4294967296 ^ k : Nat) : Int) := by
      rcases (by omega : k = 0 ∨ k = 1) with rfl | rfl
      · rw [hx rfl]
        show bits_ .or .u64 ((0 : Nat) : Int) (IntKind.wrap .u64 ((d.toNat : Int) * 1)) = _
        rw [Int.mul_one, wrapU64 (by omega) (by omega), or64 (by omega) (by omega)]
        simp
      · show bits_ .or .u64 (x : Int) (IntKind.wrap .u64 ((d.toNat : Int) * 4294967296)) = _
        rw [show (d.toNat : Int) * 4294967296 = ((d.toNat * 4294967296 : Nat) : Int) by omega, wrapU64 (by omega) (by omega), or_limb hx2 hdl]
        try simp
    rw [e]
    exact hw
  simp only [els_dL, List.length_map]
  have fin : ∀ (m x : Nat), nv l = x → Tw (nat_word_l3 3 (m + 1) (x : Int) (dL l) (l.length : Int) (l.length : Int)) [.int ((nv l : Nat) : Int)] := by
    intro m x hx
    simp only [Tw, nat_word_l3_succ]
    exact wp_ndec (by omega) (wp_ret (by rw [hx]))
  match l, h with
  | [], _ => exact fin 2 0 rfl
  | [d], _ =>
    refine one 2 0 0 d (by omega) rfl (fun _ => rfl) (by omega) ?_
    exact fin 1 _ (by simp [nv])
  | [d, e], _ =>
    have hdl := limb_lt d
    rw [B_eq] at hdl
    refine one 2 0 0 d (by omega) rfl (fun _ => rfl) (by omega) ?_
    rw [show 0 + d.toNat * 4294967296 ^ 0 = d.toNat by simp]
    refine one 1 1 d.toNat e (by omega) rfl (fun h => by omega) (by omega) ?_
    refine fin 0 _ ?_
    simp only [nv]
    rw [B_eq, Nat.pow_one, Nat.mul_comm e.toNat]
    simp
theorem nat_Gcd_sp (a b : List Limb) (ha : a.length ≤ 1000) (hb : b.length ≤ 1000) : Sp 67 [dL a, dL b] [dL (lb (Nat.gcd (nv a) (nv b)))] := by
  obtain ⟨K, hK⟩ : ∃ K, K = 1000 := ⟨_, rfl⟩
  have key : ∀ (m N x y : Nat), y < m → (lb x).length ≤ K → (lb y).length ≤ K → Tw (nat_Gcd_l2 N m (dL (lb x)) (dL (lb y))) [dL (lb (Nat.gcd x y))] := by
    intro m
    induction m with
    | zero => intro N x y h; omega
    | succ m ih =>
      intro N x y h hx hy
      simp only [Tw, nat_Gcd_l2_succ, els_dL, List.length_map]
      have ly0 := lb_len0 (n := y)
      refine wp_decs (fun h0 => ?_) (fun h0 => ?_)
      · have hy0 : y ≠ 0 := fun hh => by rw [ly0.2 hh] at h0; omega
        have hm := Nat.mod_lt x (show 0 < y by omega)
        have hml : (lb (x % y)).length ≤ K := lb_len.2 (Nat.lt_of_le_of_lt (Nat.le_of_lt hm) (lb_len.1 hy))
        have dm := nat_DivMod_sp (lb x) (lb y) (by omega) (by omega) (longOk _ _ (by rw [nv_lb]; omega))
        rw [nv_lb, nv_lb, if_neg hy0] at dm
        have nxt := ih N y (x % y) (by omega) hy hml
        rw [show Nat.gcd y (x % y) = Nat.gcd x y by rw [Nat.gcd_comm x y, Nat.gcd_rec y x, Nat.gcd_comm]] at nxt
        refine wp_decs (fun h1 => wp_decs (fun h2 => ?_) (fun h2 => wp_call dm nxt)) (fun h1 => wp_call dm nxt)
        have w1 := nat_word_sp (lb x) (by omega)
        have w2 := nat_word_sp (lb y) (by omega)
        rw [nv_lb] at w1 w2
        have b1 : x < 18446744073709551616 := lb_len.1 (show (lb x).length ≤ 2 by omega)
        have b2 : y < 18446744073709551616 := lb_len.1 (show (lb y).length ≤ 2 by omega)
        exact wp_call w1 (wp_call w2 (wp_call (nat_small_sp x y b1 b2) (wp_ret rfl)))
      · have : y = 0 := ly0.1 (by omega)
        subst this
        have nm := nat_Norm_sp (lb x) (by omega)
        rw [nv_lb] at nm
        rw [Nat.gcd_zero_right]
        exact wp_call nm (wp_ret rfl)
  have la : (lb (nv a)).length ≤ a.length := lb_len.2 (nv_lt a)
  have lb_ : (lb (nv b)).length ≤ b.length := lb_len.2 (nv_lt b)
  refine sound_ (nv b + 1) (nat_Gcd_tree _ _ _) (wp_call (nat_trim_sp a (by omega)) (wp_call (nat_trim_sp b (by omega)) ?_))
  exact key (nv b + 1) (nv b + 1) (nv a) (nv b) (by omega) (by omega) (by omega)
theorem zv_sgn {w : Wh} (h : nv w.mag ≠ 0) : decide (zv w < 0) = w.neg := by
  rw [show w.neg = decide (w.neg = true) by simp, decide_eq_decide]; exact zv_neg h
end Go.Proofs.Ytcdjifdllibolaa

set_option maxRecDepth 100000
namespace Go.Proofs.Ytcdjifdllibolaa
theorem bool_false {b : Bool} (h : ¬ b = true) : b = false := by cases b with | false => rfl | true => exact absurd rfl h
/-- No 0 on top, and not too many. -/
def trimD (l : List Limb) : Bool := decide (l.length ≤ 32) && (decide (l = []) || decide (lb (nv l) = l))
theorem can_iff (l : List Limb) (h : l ≠ []) : lb (nv l) = l ↔ (l.getLast h).toNat ≠ 0 := by
  constructor
  · intro he h0
    have hne : lb (nv l) ≠ [] := by rw [he]; exact h
    have := lb_last hne
    have e2 : (lb (nv l)).getLast hne = l.getLast h := by simp only [he]
    rw [e2] at this
    exact this (BitVec.eq_of_toNat_eq (by simpa using h0))
  · intro h0
    exact lb_can (fun hne hz => h0 (by rw [hz]; rfl))
theorem ratio_trimmed_sp (l : List Limb) : Sp 65 [dL l] [.bool (trimD l)] := by
  refine sound_ 0 (ratio_trimmed_tree _ _) ?_
  simp only [dA_0, dA_1, dA_2, dC_0, dC_1, dC_2, dC_3, dC_4, dN_0, dN_1, dN_2, els_sl, els_dI, els_dL, List.length_map, Int.toNat_natCast, toInt_int, toInt_dB, toBool_bool, getD_c0, getD_c1, int_beq, int_bne, not_dec, dInt_dB, Int.toNat_zero]
  unfold trimD
  refine wp_decs (fun h1 => ?_) (fun h1 => wp_ret (by rw [decide_eq_false (by omega)]; rfl))
  rw [show decide (l.length ≤ 32) = true from decide_eq_true (by omega), Bool.true_and]
  refine wp_decs (fun h2 => wp_ret ?_) (fun h2 => ?_)
  · rw [show decide (l = []) = true from decide_eq_true (List.length_eq_zero_iff.1 (by omega))]; rfl
  · have hne : l ≠ [] := fun h => h2 (by rw [h]; rfl)
    have hk : l.length - 1 < l.length := by omega
    have e1 : IntKind.wrap .i64 ((l.length : Int) - 1) = ((l.length - 1 : Nat) : Int) := by rw [wrap64 (by omega) (by omega)]; omega
    rw [e1]
    refine wp_dec (by omega) (wp_dec (by omega) (wp_ret ?_))
    rw [Int.toNat_natCast, getD_map (List.getElem?_eq_getElem hk), toInt_dB, ← List.getLast_eq_getElem hne]
    rw [show decide (l = []) = false from decide_eq_false hne, Bool.false_or]
    congr 2
    rw [decide_eq_decide, can_iff l hne]; omega
/-- Whether a number may be, is as the document says. -/
def RN (n : Num) : Prop := Sp 49 [dN n] [.bool (rightN n)]
theorem trimD_lb {n : Nat} (h : (lb n).length ≤ 32) : trimD (lb n) = true := by unfold trimD; rw [nv_lb]; simp [h]
theorem trimD_can {l : List Limb} (h : trimD l = true) : l.length ≤ 32 ∧ lb (nv l) = l := by
  unfold trimD at h
  simp only [Bool.and_eq_true, Bool.or_eq_true, decide_eq_true_eq] at h
  refine ⟨h.1, ?_⟩
  rcases h.2 with rfl | h2
  · exact lb_zero
  · exact h2
/-- What a right number is, bit by bit. -/
theorem rightN_form (n : Num) : rightN n = true ↔ (trimD n.top = true ∧ trimD n.bot = true ∧ n.bot ≠ [] ∧ ¬ (n.top = [] ∧ n.neg = true) ∧ Nat.gcd (nv n.top) (nv n.bot) = 1) := by
  constructor
  · intro h
    obtain ⟨z, d, hr⟩ := rn_of h
    have h1 := hr.lz
    have h2 := hr.ld
    have h3 := hr.d0
    have h4 := hr.cop
    have he := hr.eq
    subst he
    refine ⟨trimD_lb h1, trimD_lb h2, fun hb => h3 (lb_len0.1 (by rw [show lb d = [] from hb]; rfl)), fun ⟨g1, g2⟩ => ?_, ?_⟩
    · have : z.natAbs = 0 := lb_len0.1 (by rw [show lb z.natAbs = [] from g1]; rfl)
      have hz : z < 0 := of_decide_eq_true g2
      omega
    · show Nat.gcd (nv (lb z.natAbs)) (nv (lb d)) = 1
      rw [nv_lb, nv_lb]; exact h4
  · rintro ⟨h1, h2, h3, h4, h5⟩
    obtain ⟨a1, a2⟩ := trimD_can h1
    obtain ⟨b1, b2⟩ := trimD_can h2
    have habs : (numT n).natAbs = nv n.top := zv_abs ⟨n.neg, n.top⟩
    have hneg : decide (numT n < 0) = n.neg := by
      by_cases h0 : nv n.top = 0
      · have : n.top = [] := by rw [← a2, h0, lb_zero]
        have e1 : n.neg = false := bool_false (fun hh => h4 ⟨this, hh⟩)
        rw [e1, decide_eq_false (by omega)]
      · exact zv_sgn (w := ⟨n.neg, n.top⟩) h0
    have hr : RNum n (numT n) (nv n.bot) := by
      refine ⟨?_, fun hh => h3 (by rw [← b2, hh, lb_zero]), by show Nat.gcd _ _ = 1; rw [habs]; exact h5, ?_, by rw [b2]; exact b1⟩
      · unfold frac
        rw [hneg, habs, a2, b2]
      · show (lb (numT n).natAbs).length ≤ 32
        rw [habs, a2]; exact a1
    exact hr.right
theorem rn_any (n : Num) : RN n := by
  refine sound_ 0 (ratio_Right_tree _ _) ?_
  simp only [dA_0, dA_1, dA_2, dC_0, dC_1, dC_2, dC_3, dC_4, dN_0, dN_1, dN_2, els_sl, els_dI, els_dL, List.length_map, Int.toNat_natCast, toInt_int, toInt_dB, toBool_bool, getD_c0, getD_c1, int_beq, int_bne, not_dec, dInt_dB, Int.toNat_zero]
  have no : ∀ {p : Prop}, ¬ p → (rightN n = true → p) → D.bool false = D.bool (rightN n) := fun h1 h2 => by rw [bool_false (fun h => h1 (h2 h))]
  have form := rightN_form n
  refine wp_call (ratio_trimmed_sp _) (wp_br (fun g1 => wp_ret ?_) (fun g1 => wp_call (ratio_trimmed_sp _) (wp_br (fun g2 => wp_ret ?_) (fun g2 => wp_decs (fun g3 => wp_ret ?_) (fun g3 => ?_)))))
  · rw [no (p := trimD n.top = true) (by simpa using g1) (fun h => (form.1 h).1)]
  · rw [no (p := trimD n.bot = true) (by simpa using g2) (fun h => (form.1 h).2.1)]
  · rw [no (p := n.bot ≠ []) (by have := List.length_eq_zero_iff.1 (show n.bot.length = 0 by omega); simp [this]) (fun h => (form.1 h).2.2.1)]
  have t1 : trimD n.top = true := by simpa using g1
  have t2 : trimD n.bot = true := by simpa using g2
  have t3 : n.bot ≠ [] := fun h => g3 (by rw [h]; rfl)
  have l1 := (trimD_can t1).1
  have l2 := (trimD_can t2).1
  have fin : ¬ (n.top = [] ∧ n.neg = true) → Tw (.call 66 [] [dL n.bot] fun y => .br ((y.getD 0 D.nil).toBool) (.ret [D.bool true])
      (.call 67 [] [dL n.top, dL n.bot] fun y => .call 66 [] [y.getD 0 D.nil] fun y => .ret [D.bool ((y.getD 0 D.nil).toBool)])) [.bool (rightN n)] := fun h4 => by
    refine wp_call (ratio_isOne_sp n.bot) ?_
    simp only [getD_c0, toBool_bool]
    refine wp_decs (fun h5 => wp_ret ?_) (fun h5 => wp_call (nat_Gcd_sp n.top n.bot (by omega) (by omega)) (wp_call (ratio_isOne_sp _) (wp_ret ?_)))
    · rw [form.2 ⟨t1, t2, t3, h4, by rw [h5, show nv [1] = 1 from rfl]; exact Nat.gcd_one_right _⟩]
    · simp only [getD_c0, toBool_bool]
      congr 2
      rw [Bool.eq_iff_iff, form, decide_eq_true_eq]
      constructor
      · intro h
        refine ⟨t1, t2, t3, h4, ?_⟩
        have := congrArg nv h
        rw [nv_lb] at this; exact this
      · rintro ⟨_, _, _, _, h⟩
        rw [h]; exact lbn_one
  refine wp_decs (fun g4 => wp_br (fun g5 => wp_ret ?_) (fun g5 => fin (fun h => by rw [g5] at h; cases h.2))) (fun g4 => fin (fun h => g4 (by rw [h.1]; rfl)))
  rw [no (p := ¬ (n.top = [] ∧ n.neg = true)) (fun h => h ⟨List.length_eq_zero_iff.1 (by omega), g5⟩) (fun h => (form.1 h).2.2.2.1)]
end Go.Proofs.Ytcdjifdllibolaa

set_option maxRecDepth 100000
namespace Go.Proofs.Ytcdjifdllibolaa
def arrK (k : Int) : Bool := decide (1 ≤ k ∧ k ≤ 16 ∧ k ≠ 10)
def funK (k : Int) : Bool := decide (17 ≤ k ∧ k ≤ 24)
def plaK (k : Int) : Bool := decide (17 ≤ k ∧ k ≤ 21)
def funsL : List Int := [43, 45, 215, 247, 8968, 8970, 124, 42, 33, 126, 60, 8804, 61, 8805, 62, 8800, 8743, 8744, 9076, 44, 9066, 9021, 8854, 9033, 8593, 8595, 8834, 8835, 8801, 8802, 9075, 8714, 8746, 8745, 9080, 9035, 9042, 8866, 8867]
def opsL : List Int := [47, 9023, 92, 9024, 168, 9064, 9060, 9059, 8728, 46]
def marksL : List Int := [40, 41, 91, 93, 123, 125, 59, 58, 8900, 8592, 9082, 9077, 8711, 9109, 9054, 39, 9053]
def clsC (c : Int) : Int := if c = 32 ∨ c = 9 then 1 else if (97 ≤ c ∧ c ≤ 122) ∨ (65 ≤ c ∧ c ≤ 90) ∨ c = 95 then 2 else if (48 ≤ c ∧ c ≤ 57) ∨ c = 175 then 3 else if c ∈ funsL then 4 else if c ∈ opsL then 5 else if c ∈ marksL then 6 else 0
def monsL : List Int := [47, 9023, 92, 9024, 168, 9064]
def dyosL : List Int := [46, 8728, 9060, 9059]
def glyC (c : Int) : Bool := decide (c ∈ funsL) || decide (c ∈ [(47 : Int), 9023, 92, 9024])
theorem cls_four (c : Int) : decide (clsC c = 4) = decide (c ∈ funsL) := by
  rw [decide_eq_decide]
  unfold clsC
  constructor
  · intro h
    split at h
    · omega
    split at h
    · omega
    split at h
    · omega
    split at h
    · assumption
    split at h
    · omega
    split at h <;> omega
  · intro h
    have : c = 43 ∨ c = 45 ∨ c = 215 ∨ c = 247 ∨ c = 124 ∨ c = 42 ∨ c = 33 ∨ c = 126 ∨ c = 60 ∨ c = 61 ∨ c = 62 ∨ c = 44 ∨ 8000 ≤ c := by
      simp only [funsL, List.mem_cons, List.not_mem_nil, or_false] at h
      omega
    rw [if_neg (by omega), if_neg (by omega), if_neg (by omega), if_pos h]
theorem tree_Array_sp (k : Int) : Sp 6 [.int k] [.bool (arrK k)] := by
  refine sound_ 0 (tree_Array_tree _ _) ?_
  simp only [toInt_int, int_bne]
  unfold arrK
  refine wp_decs (fun h1 => wp_decs (fun h2 => wp_ret ?_) (fun h2 => wp_ret ?_)) (fun h1 => wp_ret ?_)
  · rw [show decide (1 ≤ k ∧ k ≤ 16 ∧ k ≠ 10) = decide (¬ k = 10) from decide_eq_decide.2 ⟨fun h => h.2.2, fun h => ⟨h1, h2, h⟩⟩]
  · rw [decide_eq_false (by omega)]
  · rw [decide_eq_false (by omega)]
theorem tree_Func_sp (k : Int) : Sp 10 [.int k] [.bool (funK k)] := by
  refine sound_ 0 (tree_Func_tree _ _) ?_
  simp only [toInt_int]
  unfold funK
  refine wp_decs (fun h1 => wp_ret ?_) (fun h1 => wp_ret ?_)
  · exact congrArg (fun b => [D.bool b]) (decide_eq_decide.2 ⟨fun h => ⟨h1, h⟩, fun h => h.2⟩)
  · rw [decide_eq_false (by omega)]
theorem tree_Plain_sp (k : Int) : Sp 12 [.int k] [.bool (plaK k)] := by
  refine sound_ 0 (tree_Plain_tree _ _) ?_
  simp only [toInt_int]
  unfold plaK
  refine wp_decs (fun h1 => wp_ret ?_) (fun h1 => wp_ret ?_)
  · exact congrArg (fun b => [D.bool b]) (decide_eq_decide.2 ⟨fun h => ⟨h1, h⟩, fun h => h.2⟩)
  · rw [decide_eq_false (by omega)]
theorem tree_anArray_sp (e : Ex1) : Sp 56 [dE e] [.bool (arrK e.kind)] := sound_ 0 (tree_anArray_tree _ _) (by simp only [dE_0, toInt_int]; exact wp_call (tree_Array_sp _) (wp_ret rfl))
theorem tree_aPlace_sp (e : Ex1) : Sp 57 [dE e] [.bool (arrK e.kind || decide (e.kind = 10))] := sound_ 0 (tree_aPlace_tree _ _) (by
  simp only [dE_0, toInt_int, int_beq]
  refine wp_call (tree_Array_sp _) (wp_br (fun h => wp_ret ?_) (fun h => wp_ret ?_))
  · rw [show arrK e.kind = true from h]; rfl
  · rw [show arrK e.kind = false from h]; rfl)
theorem tree_aFunction_sp (e : Ex1) : Sp 58 [dE e] [.bool (funK e.kind)] := sound_ 0 (tree_aFunction_tree _ _) (by simp only [dE_0, toInt_int]; exact wp_call (tree_Func_sp _) (wp_ret rfl))
theorem tree_aPlain_sp (e : Ex1) : Sp 60 [dE e] [.bool (plaK e.kind)] := sound_ 0 (tree_aPlain_tree _ _) (by simp only [dE_0, toInt_int]; exact wp_call (tree_Plain_sp _) (wp_ret rfl))
theorem glyph_function_sp (c : Int) : Sp 39 [.int c] [.bool (decide (c ∈ funsL))] := by
  refine sound_ 0 (glyph_function_tree _ _) ?_
  simp only [toInt_int, int_beq]
  unfold funsL
  repeat (refine wp_decs (fun h => wp_ret (by simp [h])) (fun h => ?_))
  exact wp_ret (by simp [*])
theorem glyph_Class_sp (c : Int) : Sp 28 [.int c] [.int (clsC c)] := by
  refine sound_ 0 (glyph_Class_tree _ _) ?_
  simp only [toInt_int, int_beq]
  by_cases h1 : c = 32 ∨ c = 9
  · rw [show clsC c = 1 by unfold clsC; rw [if_pos h1]]
    rcases h1 with h1 | h1
    · exact wp_dec h1 (wp_ret rfl)
    · exact wp_ndec (by omega) (wp_dec h1 (wp_ret rfl))
  by_cases h2 : (97 ≤ c ∧ c ≤ 122) ∨ (65 ≤ c ∧ c ≤ 90) ∨ c = 95
  · rw [show clsC c = 2 by unfold clsC; rw [if_neg h1, if_pos h2]]
    rcases h2 with h2 | h2 | h2
    · repeat (first | exact wp_ret rfl | refine wp_dec (by omega) ?_ | refine wp_ndec (by omega) ?_)
    · repeat (first | exact wp_ret rfl | refine wp_dec (by omega) ?_ | refine wp_ndec (by omega) ?_)
    · repeat (first | exact wp_ret rfl | refine wp_dec (by omega) ?_ | refine wp_ndec (by omega) ?_)
  by_cases h3 : (48 ≤ c ∧ c ≤ 57) ∨ c = 175
  · rw [show clsC c = 3 by unfold clsC; rw [if_neg h1, if_neg h2, if_pos h3]]
    rcases h3 with h3 | h3
    · repeat (first | exact wp_ret rfl | refine wp_dec (by omega) ?_ | refine wp_ndec (by omega) ?_)
    · repeat (first | exact wp_ret rfl | refine wp_dec (by omega) ?_ | refine wp_ndec (by omega) ?_)
  have hc : clsC c = if c ∈ funsL then 4 else if c ∈ opsL then 5 else if c ∈ marksL then 6 else 0 := by unfold clsC; rw [if_neg h1, if_neg h2, if_neg h3]
  have go : ∀ t : Tree, (∀ h : ¬ c ∈ funsL, Tw t [.int (clsC c)]) → Tw (.call 39 [] [D.int c] fun y => .br ((y.getD 0 D.nil).toBool) (.ret [D.int 4]) t) [.int (clsC c)] := fun t ht => by
    refine wp_call (glyph_function_sp c) ?_
    simp only [getD_c0, toBool_bool]
    exact wp_decs (fun h => wp_ret (by rw [hc, if_pos h])) ht
  have fin : ∀ h : ¬ c ∈ funsL, True := fun _ => trivial
  refine wp_ndec (by omega) (wp_ndec (by omega) ?_)
  rcases Int.lt_or_le c 97 with g1 | g1 <;> rcases Int.lt_or_le c 65 with g2 | g2 <;> rcases Int.lt_or_le c 48 with g3 | g3
  all_goals (try omega)
  all_goals
    repeat (first | refine wp_dec (by omega) ?_ | refine wp_ndec (by omega) ?_)
    refine go _ (fun hf => ?_)
    clear go fin h1 h2 h3 g1 g2 g3
    repeat (refine wp_decs (fun h => wp_ret (by rw [hc, if_neg hf]; first | rw [if_pos (by rw [h]; decide)] | rw [if_neg (by rw [h]; decide), if_pos (by rw [h]; decide)])) (fun h => ?_))
    exact wp_ret (by rw [hc, if_neg hf, if_neg (by simp [opsL, *]), if_neg (by simp [marksL, *])])
theorem tree_Monops_sp : Sp 17 [] [dI monsL] := sound_ 0 (tree_Monops_tree _) (wp_ret rfl)
theorem tree_Dyops_sp : Sp 19 [] [dI dyosL] := sound_ 0 (tree_Dyops_tree _) (wp_ret rfl)
theorem any_mem (l : List Int) (c : Int) : l.any (fun x => decide (x = c)) = decide (c ∈ l) := by
  induction l with
  | nil => simp
  | cons x xs ih =>
    rw [List.any_cons, ih]
    by_cases h : x = c
    · subst h; simp
    · rw [decide_eq_false h, Bool.false_or, decide_eq_decide, List.mem_cons]
      exact ⟨fun hh => .inr hh, fun hh => hh.resolve_left (fun e => h e.symm)⟩
theorem tree_Glyph_sp (c : Int) : Sp 14 [.int c] [.bool (glyC c)] := by
  refine sound_ 0 (tree_Glyph_tree _ _) (wp_call (glyph_Class_sp c) ?_)
  simp only [toInt_int, getD_c0, int_beq]
  unfold glyC
  have hf := cls_four c
  refine wp_decs (fun h => wp_ret ?_) (fun h => wp_call tree_Monops_sp ?_)
  · rw [decide_eq_true h] at hf; rw [← hf]; rfl
  · rw [decide_eq_false h] at hf
    rw [← hf, Bool.false_or]
    refine wp_dec (by decide) (wp_dec (by decide) ?_)
    have hs := slices_Contains_sp [47, 9023, 92, 9024] c (by decide)
    rw [any_mem] at hs
    exact wp_call hs (wp_ret rfl)
/-! Names. -/
def okB (c : UInt8) : Bool := decide (clsC (c.toNat : Int) = 2) || decide (48 ≤ (c.toNat : Int) ∧ (c.toNat : Int) ≤ 57)
def nameL (l : List UInt8) (f : Bool) : Bool := match l with
  | [] => false
  | c :: cs => decide ((c :: cs).length ≤ 16) && decide (clsC (c.toNat : Int) = 2) && cs.all okB && (decide (65 ≤ (c.toNat : Int) ∧ (c.toNat : Int) ≤ 90) == f)
def nameB (s : ByteArray) (f : Bool) : Bool := nameL s.data.toList f
theorem ba_empty (s : ByteArray) : (s.toList == ByteArray.empty.toList) = decide (s.data.toList = []) := by
  rw [ByteArray.toList_eq, ByteArray.toList_eq]
  show (s.data.toList == []) = _
  cases s.data.toList with
  | nil => rfl
  | cons a l => rw [decide_eq_false (by simp)]; rfl
theorem ba_size (s : ByteArray) : s.size = s.data.toList.length := by rw [Array.length_toList]; rfl
theorem wrap8 (c : UInt8) : IntKind.wrap .i64 ((c.toNat : Nat) : Int) = (c.toNat : Int) := by have := c.toNat_lt; exact wrap64 (by omega) (by omega)
theorem get8 {l : List UInt8} {i : Nat} {c : UInt8} (h : l[i]? = some c) : l.getD i 0 = c := by rw [List.getD_eq_getElem?_getD, h]; rfl
theorem tree_named_sp (s : ByteArray) (f : Bool) : Sp 53 [.str s, .bool f] [.bool (nameB s f)] := by
  refine sound_ 4096 (tree_named_tree _ _ _) ?_
  simp only [D.toStr, toBool_bool, ba_empty, ba_size]
  have eb : nameB s f = nameL s.data.toList f := rfl
  rw [eb]
  refine wp_decs (fun h => wp_ret (by rw [h]; rfl)) (fun h => ?_)
  obtain ⟨c, cs, hl⟩ : ∃ c cs, s.data.toList = c :: cs := by
    cases hh : s.data.toList with
    | nil => exact absurd hh h
    | cons c cs => exact ⟨c, cs, rfl⟩
  rw [hl]
  simp only [List.length_cons]
  refine wp_decs (fun h => wp_ret ?_) (fun h2 => wp_dec (by decide) (wp_dec (by omega) ?_))
  · rw [nameL, decide_eq_false (by simp only [List.length_cons]; omega)]; rfl
  have e0 : (c :: cs).getD (Int.toNat 0) 0 = c := rfl
  rw [e0, wrap8]
  refine wp_call (glyph_Class_sp _) ?_
  simp only [getD_c0, toInt_int, int_bne]
  have hlen : (c :: cs).length ≤ 16 := by simp only [List.length_cons]; omega
  refine wp_decs (fun h => wp_ret ?_) (fun h3 => ?_)
  · rw [nameL, decide_eq_true hlen, decide_eq_false h]; rfl
  have h3 := Classical.not_not.1 h3
  have fin : ∀ m : Nat, Tw (tree_named_l4 4096 (m + 1) s f (((c :: cs).length : Nat) : Int) (((c :: cs).length : Nat) : Int)) [.bool (decide (65 ≤ (c.toNat : Int) ∧ (c.toNat : Int) ≤ 90) == f)] := by
    intro m
    simp only [tree_named_l4_succ, ba_size, hl, e0, List.length_cons]
    refine wp_ndec (by omega) (wp_dec (by decide) (wp_dec (by omega) (wp_decs (fun g => wp_dec (by decide) (wp_dec (by omega) (wp_ret ?_))) (fun g => wp_ret ?_))))
    · rw [show decide (65 ≤ (c.toNat : Int) ∧ (c.toNat : Int) ≤ 90) = decide ((c.toNat : Int) ≤ 90) from decide_eq_decide.2 ⟨fun hh => hh.2, fun hh => ⟨g, hh⟩⟩]
    · rw [decide_eq_false (by omega)]
  have key := loop_list (P := Try.prog) (md := md) (c :: cs) (fun m k (_ : Unit) => tree_named_l4 4096 m s f (((c :: cs).length : Nat) : Int) (k : Int)) (fun rest _ => [.bool (rest.all okB && (decide (65 ≤ (c.toNat : Int) ∧ (c.toNat : Int) ≤ 90) == f))]) (fun _ _ => True)
    (fun m k t hk _ => by
      rw [hk]
      refine Tree.wp_mono (fin m) (fun ys hy => hy.trans ?_)
      simp)
    (fun m k t x rest hd _ ih => by
      obtain ⟨q1, q2, q3⟩ := drop_cons hd
      have ih := ih () trivial
      have hk : k < 16 := by omega
      simp only [tree_named_l4_succ, ba_size, hl, Int.toNat_natCast, get8 q2, wrap8, wrap_succ (show k < 9223372036854775807 by omega)]
      refine wp_dec (by omega) (wp_dec (by omega) (wp_dec (by omega) (wp_call (glyph_Class_sp _) ?_)))
      simp only [getD_c0, toInt_int, int_bne, List.all_cons]
      have ok : okB x = true → Tw (tree_named_l4 4096 m s f (((c :: cs).length : Nat) : Int) ((k + 1 : Nat) : Int)) [.bool (okB x && rest.all okB && (decide (65 ≤ (c.toNat : Int) ∧ (c.toNat : Int) ≤ 90) == f))] := fun h => by rw [h, Bool.true_and]; exact ih
      refine wp_decs (fun g => wp_decs (fun g2 => wp_ret ?_) (fun g2 => wp_decs (fun g3 => wp_ret ?_) (fun g3 => ok ?_))) (fun g => ok ?_)
      · rw [show okB x = false by unfold okB; rw [decide_eq_false g, decide_eq_false (by omega)]; rfl]; rfl
      · rw [show okB x = false by unfold okB; rw [decide_eq_false g, decide_eq_false (by omega)]; rfl]; rfl
      · unfold okB; rw [decide_eq_true (show 48 ≤ (x.toNat : Int) ∧ (x.toNat : Int) ≤ 57 by omega), Bool.or_true]
      · unfold okB; rw [decide_eq_true (Classical.not_not.1 g)]; rfl)
    4096 0 () (by omega) (by omega) trivial
  simp only [List.drop_zero, List.length_cons] at key
  refine Tree.wp_mono key (fun ys hy => hy.trans ?_)
  have hc : okB c = true := by unfold okB; rw [decide_eq_true h3]; rfl
  rw [nameL, decide_eq_true hlen, decide_eq_true h3, List.all_cons, hc]
  rfl
end Go.Proofs.Ytcdjifdllibolaa

set_option maxRecDepth 100000
namespace Go.Proofs.Ytcdjifdllibolaa
theorem dec_any {p : Prop} (i j : Decidable p) : @decide p i = @decide p j := by cases i <;> cases j <;> first | rfl | contradiction
theorem held_end {a b c d : Bool} : Tw (.br a (.br b (.br c (.ret [D.bool d]) (.ret [D.bool false])) (.ret [D.bool false])) (.ret [D.bool false])) [.bool (a && (b && (c && d)))] := by
  cases a <;> cases b <;> cases c <;> first | exact wp_tt rfl (wp_tt rfl (wp_tt rfl (wp_ret rfl))) | exact wp_tt rfl (wp_tt rfl (wp_ff rfl (wp_ret rfl))) | exact wp_tt rfl (wp_ff rfl (wp_ret rfl)) | exact wp_ff rfl (wp_ret rfl)
def numOK (e : Ex1) : Bool := if e.kind = 1 then rightN e.n else decide (e.n = .zero)
def chaOK (e : Ex1) : Bool := if e.kind = 2 then decide ((e.text.length : Int) ≤ 2048) && e.text.all mayC else decide ((e.text.length : Int) = 0)
def namOK (e : Ex1) : Bool := if e.kind = 3 ∨ e.kind = 13 ∨ e.kind = 14 ∨ e.kind = 15 then nameB e.name false else if e.kind = 18 ∨ e.kind = 27 then nameB e.name true else decide (e.name.data.toList = [])
def opOK (e : Ex1) : Bool := if e.kind = 6 ∨ e.kind = 7 ∨ e.kind = 16 then decide (0 ≤ e.op) && decide (e.op < 8) else if e.kind = 17 then glyC e.op else if e.kind = 21 then decide (e.op = 0) || decide (e.op = 1) else if e.kind = 22 then decide (e.op ∈ monsL) else if e.kind = 23 then decide (e.op ∈ dyosL) else decide (e.op = 0)
def heldB (e : Ex1) : Bool := numOK e && (chaOK e && (namOK e && opOK e))
theorem containsHeld_sp (l : List Int) (hl : l.length ≤ 2048) : Sp 50 [dI l, D.fn 51 [] []] [.bool (!(l.all mayC))] := by
  have one : ∀ c : Int, Sp 51 [.int c] [.bool (!(mayC c))] := fun c => sound_ 0 (tree_held_1_tree _ _) (by simp only [toInt_int]; exact wp_call (glyph_May_sp c) (wp_ret rfl))
  refine sound_ 0 (slices_ContainsFunc_int_int_tree_tree_held_1 _ _) (wp_call (ys := [.int (idxD (fun c => !(mayC c)) 0 l)]) ?_ (wp_ret ?_))
  · refine sound_ 4096 (slices_IndexFunc_int_int_tree_tree_held_1 _ _) ?_
    have key := loop_list (P := Try.prog) (md := md) l (fun m k (_ : Unit) => slices_IndexFunc_int_int_l2 4096 m (dI l) (D.fn 51 [] []) (l.length : Int) (k : Int)) (fun rest _ => [.int (idxD (fun c => !(mayC c)) (l.length - rest.length) rest)]) (fun _ _ => True)
      (fun m k p hk hI => by
        simp only [slices_IndexFunc_int_int_l2_succ_tree_held_1]
        refine wp_ndec (by omega) (wp_ret ?_)
        simp [idxD])
      (fun m k p x rest hd hI ih => by
        obtain ⟨h1, h2, h3⟩ := drop_cons hd
        have hle := congrArg List.length hd; rw [List.length_drop, List.length_cons] at hle; have hk : l.length - (x :: rest).length = k := by rw [List.length_cons]; omega
        have hk' : l.length - rest.length = k + 1 := by omega
        simp only [slices_IndexFunc_int_int_l2_succ_tree_held_1, els_dI, List.length_map, Int.toNat_natCast, getD_map h2, toInt_int, wrap_succ (show k < 9223372036854775807 by omega), fnId_fn, fnCts_fn, fnDs_fn, List.append_nil]
        refine wp_dec (by omega) (wp_dec (by omega) (wp_dec (by omega) (wp_call (one x) ?_)))
        simp only [getD_c0, toBool_bool, idxD, hk]
        refine wp_br (fun h => wp_ret ?_) (fun h => ?_)
        · simp [h]
        · have := ih () trivial
          rw [hk'] at this
          simpa [h] using this)
      4096 0 () (by omega) (by omega) trivial
    simpa using key
  · have := idxD_any (fun c => !(mayC c)) l 0
    simp only [getD_c0, toInt_int]
    refine congrArg (fun b => [D.bool b]) ((dec_any _ _).trans (this.trans ?_))
    clear this
    induction l with
    | nil => rfl
    | cons x xs ih => simp only [List.any_cons, List.all_cons, Bool.not_and]; rw [ih (by simp at hl; omega)]
theorem dN_zero' : D.agg [D.bool false, D.sl [], D.sl []] = dN .zero := rfl
theorem tree_held_sp (e : Ex1) (he : FitsE e) (hr : RN e.n) : Sp 43 [dE e] [.bool (heldB e)] := by
  refine sound_ 0 (tree_held_tree _ _) ?_
  have hn := he.num
  rw [dE_3, dN_zero']
  refine wp_call (ratio_Same_sp e.n .zero (by omega) (by omega)) ?_
  simp only [dE_0, dE_1, dE_2, dE_4, toInt_int, getD_c0, toBool_bool, int_beq, els_dI, List.length_map, D.toStr, ba_empty]
  refine wp_decs (fun h => ?_) (fun n1 => ?_)
  · rw [show heldB e = (rightN e.n && (decide ((e.text.length : Int) = 0) && (decide (e.name.data.toList = []) && decide (e.op = 0)))) by unfold heldB numOK chaOK namOK opOK; rw [h]; rfl]
    exact wp_call hr held_end
  refine wp_decs (fun h => ?_) (fun n2 => ?_)
  · rw [show heldB e = (decide (e.n = .zero) && ((decide ((e.text.length : Int) ≤ 2048) && e.text.all mayC) && (decide (e.name.data.toList = []) && decide (e.op = 0)))) by unfold heldB numOK chaOK namOK opOK; rw [h]; rfl]
    refine wp_decs (fun h2 => ?_) (fun h2 => ?_)
    · refine wp_call (containsHeld_sp e.text (by omega)) ?_
      rw [decide_eq_true h2, Bool.true_and]
      simp only [getD_c0, toBool_bool, Bool.not_not]
      exact held_end
    · rw [decide_eq_false h2, Bool.false_and, Bool.false_and, Bool.and_false]
      exact wp_br (fun _ => wp_ret rfl) (fun _ => wp_ret rfl)
  have nm : ∀ f : Bool, heldB e = (decide (e.n = .zero) && (decide ((e.text.length : Int) = 0) && (nameB e.name f && decide (e.op = 0)))) → Tw (.call 53 [] [D.str e.name, D.bool f] fun y => .br (decide (e.n = .zero)) (.br (decide ((e.text.length : Int) = 0)) (.br ((y.getD 0 D.nil).toBool) (.ret [D.bool (decide (e.op = 0))]) (.ret [D.bool false])) (.ret [D.bool false])) (.ret [D.bool false])) [.bool (heldB e)] := fun f h => by
    rw [h]
    exact wp_call (tree_named_sp e.name f) held_end
  refine wp_decs (fun h => nm false (by unfold heldB numOK chaOK namOK opOK; rw [h]; rfl)) (fun n3 => ?_)
  refine wp_decs (fun h => nm false (by unfold heldB numOK chaOK namOK opOK; rw [h]; rfl)) (fun n4 => ?_)
  refine wp_decs (fun h => nm false (by unfold heldB numOK chaOK namOK opOK; rw [h]; rfl)) (fun n5 => ?_)
  refine wp_decs (fun h => nm false (by unfold heldB numOK chaOK namOK opOK; rw [h]; rfl)) (fun n6 => ?_)
  refine wp_decs (fun h => nm true (by unfold heldB numOK chaOK namOK opOK; rw [h]; rfl)) (fun n7 => ?_)
  refine wp_decs (fun h => nm true (by unfold heldB numOK chaOK namOK opOK; rw [h]; rfl)) (fun n8 => ?_)
  have pt : heldB e = (decide (e.n = .zero) && (decide ((e.text.length : Int) = 0) && (decide (e.name.data.toList = []) && (decide (0 ≤ e.op) && decide (e.op < 8))))) → ∀ t u : Tree, (0 ≤ e.op → t = .br (decide (e.n = .zero)) (.br (decide ((e.text.length : Int) = 0)) (.br (decide (e.name.data.toList = [])) (.ret [D.bool (decide (e.op < 8))]) (.ret [D.bool false])) (.ret [D.bool false])) (.ret [D.bool false])) → u = .br (decide (e.n = .zero)) (.br (decide ((e.text.length : Int) = 0)) (.br (decide (e.name.data.toList = [])) (.ret [D.bool false]) (.ret [D.bool false])) (.ret [D.bool false])) (.ret [D.bool false]) → Tw (.br (decide (0 ≤ e.op)) t u) [.bool (heldB e)] := fun h t u ht hu => by
    rw [h]
    refine wp_decs (fun g => ?_) (fun g => ?_)
    · rw [ht g, decide_eq_true g, Bool.true_and]; exact held_end
    · rw [hu, decide_eq_false g, Bool.false_and]; exact held_end
  refine wp_decs (fun h => pt (by unfold heldB numOK chaOK namOK opOK; rw [h]; rfl) _ _ (fun _ => rfl) rfl) (fun n9 => ?_)
  refine wp_decs (fun h => pt (by unfold heldB numOK chaOK namOK opOK; rw [h]; rfl) _ _ (fun _ => rfl) rfl) (fun n10 => ?_)
  refine wp_decs (fun h => pt (by unfold heldB numOK chaOK namOK opOK; rw [h]; rfl) _ _ (fun _ => rfl) rfl) (fun n11 => ?_)
  refine wp_decs (fun h => ?_) (fun n12 => ?_)
  · rw [show heldB e = (decide (e.n = .zero) && (decide ((e.text.length : Int) = 0) && (decide (e.name.data.toList = []) && glyC e.op))) by unfold heldB numOK chaOK namOK opOK; rw [h]; rfl]
    exact wp_call (tree_Glyph_sp e.op) held_end
  refine wp_decs (fun h => ?_) (fun n13 => ?_)
  · rw [show heldB e = (decide (e.n = .zero) && (decide ((e.text.length : Int) = 0) && (decide (e.name.data.toList = []) && (decide (e.op = 0) || decide (e.op = 1))))) by unfold heldB numOK chaOK namOK opOK; rw [h]; rfl]
    refine wp_decs (fun g => ?_) (fun g => ?_)
    · rw [decide_eq_true g, Bool.true_or]; exact held_end
    · rw [decide_eq_false g, Bool.false_or]; exact held_end
  refine wp_decs (fun h => ?_) (fun n14 => ?_)
  · rw [show heldB e = (decide (e.n = .zero) && (decide ((e.text.length : Int) = 0) && (decide (e.name.data.toList = []) && decide (e.op ∈ monsL)))) by unfold heldB numOK chaOK namOK opOK; rw [h]; rfl]
    have hs := slices_Contains_sp monsL e.op (by decide)
    rw [any_mem] at hs
    exact wp_call tree_Monops_sp (wp_call hs held_end)
  refine wp_decs (fun h => ?_) (fun n15 => ?_)
  · rw [show heldB e = (decide (e.n = .zero) && (decide ((e.text.length : Int) = 0) && (decide (e.name.data.toList = []) && decide (e.op ∈ dyosL)))) by unfold heldB numOK chaOK namOK opOK; rw [h]; rfl]
    have hs := slices_Contains_sp dyosL e.op (by decide)
    rw [any_mem] at hs
    exact wp_call tree_Dyops_sp (wp_call hs held_end)
  · rw [show heldB e = (decide (e.n = .zero) && (decide ((e.text.length : Int) = 0) && (decide (e.name.data.toList = []) && decide (e.op = 0)))) by
      unfold heldB numOK chaOK namOK opOK
      rw [if_neg n1, if_neg n2, if_neg (by omega), if_neg (by omega), if_neg (by omega), if_neg (by omega), if_neg (by omega), if_neg (by omega), if_neg (by omega)]]
    exact held_end
/-! What an expression is made of. -/
def FnD (x : D) (p : Ex1 → Bool) : Prop := ∀ k : Ex1, Spec Try.prog md x.fnId x.fnCts ([dE k] ++ x.fnDs) [.bool (p k)]
def partsB : List Ex1 → List (Ex1 → Bool) → Bool
  | [], [] => true
  | k :: ks, p :: ps => p k && partsB ks ps
  | _, _ => false
theorem partsB_len : ∀ {ks : List Ex1} {ps : List (Ex1 → Bool)}, ks.length ≠ ps.length → partsB ks ps = false
  | [], [], h => absurd rfl h
  | k :: ks, p :: ps, h => by rw [partsB, partsB_len (fun e => h (by simp [e])), Bool.and_false]
  | [], p :: ps, _ => rfl
  | k :: ks, [], _ => rfl
def AreF (xs : List D) (ps : List (Ex1 → Bool)) : Prop := xs.length = ps.length ∧ ∀ (i : Nat) (x : D) (p : Ex1 → Bool), xs[i]? = some x → ps[i]? = some p → FnD x p
theorem areF_nil : AreF [] [] := ⟨rfl, fun i x p h => by simp at h⟩
theorem areF_cons {x : D} {p : Ex1 → Bool} {xs : List D} {ps : List (Ex1 → Bool)} (h : FnD x p) (hs : AreF xs ps) : AreF (x :: xs) (p :: ps) := ⟨by simp [hs.1], fun i y q hy hq => by
  cases i with
  | zero => simp at hy hq; subst hy; subst hq; exact h
  | succ i => exact hs.2 i y q (by simpa using hy) (by simpa using hq)⟩
theorem tree_parts_sp (ks : List Ex1) {xs : List D} {ps : List (Ex1 → Bool)} (h : AreF xs ps) (hp : ps.length ≤ 100) : Sp 54 [.sl (ks.map dE), .sl xs] [.bool (partsB ks ps)] := by
  refine sound_ 4096 (tree_parts_tree _ _ _) ?_
  simp only [els_sl, List.length_map, int_bne]
  refine wp_decs (fun g => wp_ret (by rw [partsB_len (by rw [← h.1]; omega)])) (fun g => ?_)
  have hl : ks.length = ps.length := by rw [← h.1]; omega
  have hxl := h.1
  have key := loop_list (P := Try.prog) (md := md) ks (fun m k (_ : Unit) => tree_parts_l4 4096 m (.sl xs) (.sl (ks.map dE)) (ks.length : Int) (k : Int)) (fun rest _ => [.bool (partsB rest (ps.drop (ks.length - rest.length)))]) (fun _ _ => True)
    (fun m k t hk _ => by
      simp only [tree_parts_l4_succ]
      refine wp_ndec (by omega) (wp_ret ?_)
      rw [List.length_nil, Nat.sub_zero, hl, List.drop_length]; rfl)
    (fun m k t x rest hd _ ih => by
      obtain ⟨h1, h2, h3⟩ := drop_cons hd
      have ih := ih () trivial
      have hle := congrArg List.length hd
      rw [List.length_drop, List.length_cons] at hle
      have e1 : ks.length - (x :: rest).length = k := by rw [List.length_cons]; omega
      have e2 : ks.length - rest.length = k + 1 := by omega
      have hk1 : k < ps.length := by omega
      have hk2 : k < xs.length := by omega
      have hf := h.2 k xs[k] ps[k] (List.getElem?_eq_getElem hk2) (List.getElem?_eq_getElem hk1) x
      have gx : xs.getD k D.nil = xs[k] := by rw [List.getD_eq_getElem?_getD, List.getElem?_eq_getElem hk2]; rfl
      rw [e1, List.drop_eq_getElem_cons hk1]
      rw [e2] at ih
      simp only [tree_parts_l4_succ, els_sl, List.length_map, Int.toNat_natCast, getD_map h2, gx, wrap_succ (show k < 9223372036854775807 by omega), partsB]
      refine wp_dec (by omega) (wp_dec (by omega) (wp_dec (by omega) (wp_dec (by omega) (wp_dec (by omega) (wp_call hf ?_)))))
      simp only [getD_c0, toBool_bool]
      refine wp_br (fun q => wp_ret ?_) (fun q => ?_)
      · rw [show ps[k] x = false by simpa using q]; rfl
      · rw [show ps[k] x = true by simpa using q, Bool.true_and]; exact ih)
    4096 0 () (by omega) (by omega) trivial
  refine Tree.wp_mono key (fun ys hy => hy.trans ?_)
  rw [List.drop_zero, Nat.sub_self, List.drop_zero]
theorem each_1_sp {x : D} {p : Ex1 → Bool} (h : FnD x p) (k : Ex1) : Spec Try.prog md 70 [.ref 34] [dE k, D.ref x] [.bool (!(p k))] :=
  sound_ 0 (tree_each_1_tree _ _ _) (by simp only [unref_ref]; exact wp_call (h k) (wp_ret rfl))
def idxE (p : Ex1 → Bool) : Nat → List Ex1 → Int
  | _, [] => -1
  | k, x :: xs => if p x then idxE p (k + 1) xs else (k : Int)
theorem idxE_all (p : Ex1 → Bool) : ∀ (l : List Ex1) (i : Nat), decide (0 ≤ idxE p i l) = !(l.all p)
  | [], i => by simp [idxE]
  | k :: r, i => by
    rw [List.all_cons]
    cases hk : p k with
    | true => simp only [idxE, hk, if_true, Bool.true_and]; exact idxE_all p r (i + 1)
    | false => simp [idxE, hk]
theorem containsE_sp (ks : List Ex1) (hl : ks.length ≤ 1000000000000000) {x : D} {p : Ex1 → Bool} (h : FnD x p) : Sp 69 [.sl (ks.map dE), D.fn 70 [.ref 34] [D.ref x]] [.bool (!(ks.all p))] := by
  refine sound_ 0 (slices_ContainsFunc_api_Expr_api_Expr_tree_tree_each_1 _ _ _) (wp_call (ys := [.int (idxE p 0 ks)]) ?_ (wp_ret ?_))
  · refine sound_ (ks.length + 1) (slices_IndexFunc_api_Expr_api_Expr_tree_tree_each_1 _ _ _) ?_
    have key := loop_list (P := Try.prog) (md := md) ks (fun m k (_ : Unit) => slices_IndexFunc_api_Expr_api_Expr_l2 (ks.length + 1) m (.sl (ks.map dE)) (D.fn 70 [.ref 34] [D.ref x]) (ks.length : Int) (k : Int)) (fun rest _ => [.int (idxE p (ks.length - rest.length) rest)]) (fun _ _ => True)
      (fun m k q hk hI => by
        simp only [slices_IndexFunc_api_Expr_api_Expr_l2_succ_tree_each_1]
        exact wp_ndec (by omega) (wp_ret rfl))
      (fun m k q y rest hd hI ih => by
        obtain ⟨h1, h2, h3⟩ := drop_cons hd
        have hle := congrArg List.length hd; rw [List.length_drop, List.length_cons] at hle; have hk : ks.length - (y :: rest).length = k := by rw [List.length_cons]; omega
        have hk' : ks.length - rest.length = k + 1 := by omega
        have ih := ih () trivial
        rw [hk'] at ih
        rw [hk, idxE]
        simp only [slices_IndexFunc_api_Expr_api_Expr_l2_succ_tree_each_1, els_sl, List.length_map, Int.toNat_natCast, getD_map h2, wrap_succ (show k < 9223372036854775807 by omega), fnId_fn, fnCts_fn, fnDs_fn]
        refine wp_dec (by omega) (wp_dec (by omega) (wp_dec (by omega) (wp_call (each_1_sp h y) ?_)))
        simp only [getD_c0, toBool_bool]
        refine wp_br (fun g => wp_ret ?_) (fun g => ?_)
        · rw [if_neg (by simpa using g)]
        · rw [if_pos (by simpa using g)]; exact ih)
      (ks.length + 1) 0 () (by omega) (by omega) trivial
    simp only [List.drop_zero, Nat.sub_self] at key
    simp only [els_sl, List.length_map]
    exact key
  · simp only [getD_c0, toInt_int]
    refine congrArg (fun b => [D.bool b]) ?_
    exact (dec_any _ _).trans (idxE_all p ks 0)
theorem fnd0 {f : Nat} {p : Ex1 → Bool} (h : ∀ k, Sp f [dE k] [.bool (p k)]) : FnD (D.fn f [] []) p := fun k => by
  simp only [fnId_fn, fnCts_fn, fnDs_fn, List.append_nil]; exact h k
def pArr (e : Ex1) : Bool := arrK e.kind
def pPla (e : Ex1) : Bool := arrK e.kind || decide (e.kind = 10)
def pFun (e : Ex1) : Bool := funK e.kind
def pPln (e : Ex1) : Bool := plaK e.kind
def pDyo (op : Int) (k : Ex1) : Bool := (plaK k.kind && decide (¬ op = 9060)) || (arrK k.kind && (decide (op = 9060) || decide (op = 9059)))
def pSta (kind : Int) (k : Ex1) : Bool := decide (k.kind = 27) || (decide (k.kind = 25 ∨ k.kind = 26) && decide (kind = 20)) || (decide (¬ k.kind = 25 ∧ ¬ k.kind = 26) && arrK k.kind)
theorem f_arr : FnD (D.fn 56 [] []) pArr := fnd0 tree_anArray_sp
theorem f_pla : FnD (D.fn 57 [] []) pPla := fnd0 tree_aPlace_sp
theorem f_fun : FnD (D.fn 58 [] []) pFun := fnd0 tree_aFunction_sp
theorem f_pln : FnD (D.fn 60 [] []) pPln := fnd0 tree_aPlain_sp
theorem f_dyo (e : Ex1) : FnD (D.fn 59 [.ref 33] [D.ref (dE e)]) (pDyo e.op) := fun k => by
  simp only [fnId_fn, fnCts_fn, fnDs_fn]
  refine sound_ 0 (tree_made_1_tree _ _ _) ?_
  simp only [unref_ref, dE_0, dE_1, toInt_int, int_beq, int_bne]
  unfold pDyo
  have tl : (plaK k.kind && decide (¬ e.op = 9060)) = false → Tw (.call 6 [] [D.int k.kind] fun y => .br ((y.getD 0 D.nil).toBool) (.br (decide (e.op = 9060)) (.ret [D.bool true]) (.ret [D.bool (decide (e.op = 9059))])) (.ret [D.bool false])) [.bool ((plaK k.kind && decide (¬ e.op = 9060)) || (arrK k.kind && (decide (e.op = 9060) || decide (e.op = 9059))))] := fun h => by
    rw [h, Bool.false_or]
    refine wp_call (tree_Array_sp _) (wp_br (fun g => wp_decs (fun g2 => wp_ret ?_) (fun g2 => wp_ret ?_)) (fun g => wp_ret ?_))
    · rw [show arrK k.kind = true from g, decide_eq_true g2]; rfl
    · rw [show arrK k.kind = true from g, decide_eq_false g2]; rfl
    · rw [show arrK k.kind = false from g]; rfl
  refine wp_call (tree_Plain_sp _) (wp_br (fun g => wp_decs (fun g2 => wp_ret ?_) (fun g2 => tl ?_)) (fun g => tl ?_))
  · rw [show plaK k.kind = true from g, decide_eq_true g2]; rfl
  · rw [decide_eq_false g2, Bool.and_false]
  · rw [show plaK k.kind = false from g]; rfl
theorem f_sta (e : Ex1) : FnD (D.fn 61 [.ref 33] [D.ref (dE e)]) (pSta e.kind) := fun k => by
  simp only [fnId_fn, fnCts_fn, fnDs_fn]
  refine sound_ 0 (tree_made_2_tree _ _ _) ?_
  simp only [unref_ref, dE_0, toInt_int, int_beq]
  unfold pSta
  refine wp_decs (fun h => wp_ret (by rw [h]; rfl)) (fun h => ?_)
  rw [decide_eq_false h, Bool.false_or]
  refine wp_decs (fun g => wp_dec g (wp_ret ?_)) (fun g => wp_decs (fun g2 => wp_ret ?_) (fun g2 => wp_call (tree_Array_sp _) (wp_ret ?_)))
  · simp [g]
  · simp [g2]
  · simp [g, g2]
def hdB (p : Ex1 → Bool) : List Ex1 → Bool | k :: _ => p k | [] => false
def madeB (e : Ex1) : Bool :=
  if e.kind = 1 ∨ e.kind = 2 ∨ e.kind = 3 ∨ e.kind = 4 ∨ e.kind = 5 ∨ e.kind = 6 ∨ e.kind = 7 ∨ e.kind = 10 ∨ e.kind = 17 ∨ e.kind = 18 ∨ e.kind = 19 ∨ e.kind = 21 then partsB e.kids []
  else if e.kind = 8 then decide (2 ≤ (e.kids.length : Int)) && e.kids.all pArr
  else if e.kind = 9 ∨ e.kind = 14 then decide (2 ≤ (e.kids.length : Int)) && (hdB pArr e.kids && (e.kids.drop 1).all pPla)
  else if e.kind = 11 ∨ e.kind = 15 then partsB e.kids [pFun, pArr]
  else if e.kind = 12 then partsB e.kids [pArr, pFun, pArr]
  else if e.kind = 13 ∨ e.kind = 16 then partsB e.kids [pArr]
  else if e.kind = 22 ∨ e.kind = 27 then partsB e.kids [pFun]
  else if e.kind = 23 then partsB e.kids [pFun, pDyo e.op]
  else if e.kind = 24 then partsB e.kids [pPln]
  else if e.kind = 25 ∨ e.kind = 26 then partsB e.kids [pArr, pArr]
  else if e.kind = 20 ∨ e.kind = 28 then decide (0 < (e.kids.length : Int)) && e.kids.all (pSta e.kind)
  else false
theorem tree_made_sp (e : Ex1) (he : FitsE e) : Sp 44 [dE e] [.bool (madeB e)] := by
  refine sound_ 0 (tree_made_tree _ _) ?_
  have hl := he.len
  simp only [dE_0, dE_5, toInt_int, int_beq, els_sl, List.length_map]
  have pp : ∀ {xs : List D} {ps : List (Ex1 → Bool)}, AreF xs ps → ps.length ≤ 100 → madeB e = partsB e.kids ps → Tw (.call 54 [] [.sl (e.kids.map dE), .sl xs] fun y => .ret [D.bool ((y.getD 0 D.nil).toBool)]) [.bool (madeB e)] := fun ha hp h => by
    rw [h]; exact wp_call (tree_parts_sp e.kids ha hp) (wp_ret rfl)
  have ea : ∀ {x : D} {p : Ex1 → Bool} (ks : List Ex1) (K : Bool → Tree), ks.length ≤ 1000000000000000 → FnD x p → True := fun _ _ _ _ => trivial
  have sta : madeB e = (decide (0 < (e.kids.length : Int)) && e.kids.all (pSta e.kind)) → Tw (.br (decide (0 < (e.kids.length : Int))) (.call 55 [] [.sl (e.kids.map dE), D.fn 61 [.ref 33] [D.ref (dE e)]] fun y => .ret [D.bool ((y.getD 0 D.nil).toBool)]) (.ret [D.bool false])) [.bool (madeB e)] := fun h => by
    rw [h]
    refine wp_decs (fun g => ?_) (fun g => wp_ret (by rw [decide_eq_false g]; rfl))
    rw [decide_eq_true g, Bool.true_and]
    refine wp_call (ys := [.bool (e.kids.all (pSta e.kind))]) ?_ (wp_ret rfl)
    refine sound_ 0 (tree_each_tree_tree_made_2 _ _ _) (wp_call (containsE_sp e.kids (by omega) (f_sta e)) (wp_ret ?_))
    simp only [getD_c0, toBool_bool, Bool.not_not]
  have at_ : madeB e = (decide (2 ≤ (e.kids.length : Int)) && (hdB pArr e.kids && (e.kids.drop 1).all pPla)) → Tw (.br (decide (2 ≤ (e.kids.length : Int))) (.br (decide (0 ≤ 0)) (.br (decide (0 < (e.kids.length : Int))) (.call 56 [] [(e.kids.map dE).getD (Int.toNat 0) D.nil] fun y => .br ((y.getD 0 D.nil).toBool) (.br (decide (0 ≤ 1)) (.br (decide (1 ≤ (e.kids.length : Int))) (.call 55 [] [D.sl ((e.kids.map dE).drop (Int.toNat 1)), D.fn 57 [] []] fun z => .ret [D.bool ((z.getD 0 D.nil).toBool)]) .fail) .fail) (.ret [D.bool false])) .fail) .fail) (.ret [D.bool false])) [.bool (madeB e)] := fun h => by
    rw [h]
    refine wp_decs (fun g => ?_) (fun g => wp_ret (by rw [decide_eq_false g]; rfl))
    rw [decide_eq_true g, Bool.true_and]
    obtain ⟨k, ks, hk⟩ : ∃ k ks, e.kids = k :: ks := by
      cases hh : e.kids with
      | nil => rw [hh] at g; simp at g
      | cons k ks => exact ⟨k, ks, rfl⟩
    have hkl : ks.length ≤ 1000000000000000 := by rw [hk, List.length_cons] at hl; omega
    refine wp_dec (by decide) (wp_dec (by omega) ?_)
    rw [hk]
    have e0 : ((k :: ks).map dE).getD (Int.toNat 0) D.nil = dE k := rfl
    have e1 : ((k :: ks).map dE).drop (Int.toNat 1) = ks.map dE := rfl
    rw [e0, e1]
    refine wp_call (tree_anArray_sp k) (wp_br (fun q => ?_) (fun q => wp_ret ?_))
    · have q : pArr k = true := q
      refine wp_dec (by decide) (wp_dec (by rw [List.length_cons]; omega) (wp_call (ys := [.bool (ks.all pPla)]) ?_ (wp_ret ?_)))
      · refine sound_ 0 (tree_each_tree_tree_aPlace _ _) (wp_call (containsE_sp ks hkl f_pla) (wp_ret ?_))
        simp only [getD_c0, toBool_bool, Bool.not_not]
      · simp only [hdB, q, Bool.true_and, List.drop_succ_cons, List.drop_zero]; rfl
    · have q : pArr k = false := q
      simp only [hdB, q, Bool.false_and]
  have a0 := areF_nil
  refine wp_decs (fun h => pp a0 (by decide) (by unfold madeB; rw [if_pos (by omega)])) (fun n1 => ?_)
  refine wp_decs (fun h => pp a0 (by decide) (by unfold madeB; rw [if_pos (by omega)])) (fun n2 => ?_)
  refine wp_decs (fun h => pp a0 (by decide) (by unfold madeB; rw [if_pos (by omega)])) (fun n3 => ?_)
  refine wp_decs (fun h => pp a0 (by decide) (by unfold madeB; rw [if_pos (by omega)])) (fun n4 => ?_)
  refine wp_decs (fun h => pp a0 (by decide) (by unfold madeB; rw [if_pos (by omega)])) (fun n5 => ?_)
  refine wp_decs (fun h => pp a0 (by decide) (by unfold madeB; rw [if_pos (by omega)])) (fun n6 => ?_)
  refine wp_decs (fun h => pp a0 (by decide) (by unfold madeB; rw [if_pos (by omega)])) (fun n7 => ?_)
  refine wp_decs (fun h => pp a0 (by decide) (by unfold madeB; rw [if_pos (by omega)])) (fun n10 => ?_)
  refine wp_decs (fun h => pp a0 (by decide) (by unfold madeB; rw [if_pos (by omega)])) (fun n17 => ?_)
  refine wp_decs (fun h => pp a0 (by decide) (by unfold madeB; rw [if_pos (by omega)])) (fun n18 => ?_)
  refine wp_decs (fun h => pp a0 (by decide) (by unfold madeB; rw [if_pos (by omega)])) (fun n19 => ?_)
  refine wp_decs (fun h => pp a0 (by decide) (by unfold madeB; rw [if_pos (by omega)])) (fun n21 => ?_)
  refine wp_decs (fun h => ?_) (fun n8 => ?_)
  · rw [show madeB e = (decide (2 ≤ (e.kids.length : Int)) && e.kids.all pArr) by unfold madeB; rw [if_neg (by omega), if_pos h]]
    refine wp_decs (fun g => ?_) (fun g => wp_ret (by rw [decide_eq_false g]; rfl))
    rw [decide_eq_true g, Bool.true_and]
    refine wp_call (ys := [.bool (e.kids.all pArr)]) ?_ (wp_ret rfl)
    refine sound_ 0 (tree_each_tree_tree_anArray _ _) (wp_call (containsE_sp e.kids (by omega) f_arr) (wp_ret ?_))
    simp only [getD_c0, toBool_bool, Bool.not_not]
  refine wp_decs (fun h => at_ (by unfold madeB; rw [if_neg (by omega), if_neg (by omega), if_pos (by omega)])) (fun n9 => ?_)
  refine wp_decs (fun h => at_ (by unfold madeB; rw [if_neg (by omega), if_neg (by omega), if_pos (by omega)])) (fun n14 => ?_)
  refine wp_decs (fun h => pp (areF_cons f_fun (areF_cons f_arr a0)) (by simp) (by unfold madeB; rw [if_neg (by omega), if_neg (by omega), if_neg (by omega), if_pos (by omega)])) (fun n11 => ?_)
  refine wp_decs (fun h => pp (areF_cons f_fun (areF_cons f_arr a0)) (by simp) (by unfold madeB; rw [if_neg (by omega), if_neg (by omega), if_neg (by omega), if_pos (by omega)])) (fun n15 => ?_)
  refine wp_decs (fun h => pp (areF_cons f_arr (areF_cons f_fun (areF_cons f_arr a0))) (by simp) (by unfold madeB; rw [if_neg (by omega), if_neg (by omega), if_neg (by omega), if_neg (by omega), if_pos (by omega)])) (fun n12 => ?_)
  refine wp_decs (fun h => pp (areF_cons f_arr a0) (by simp) (by unfold madeB; rw [if_neg (by omega), if_neg (by omega), if_neg (by omega), if_neg (by omega), if_neg (by omega), if_pos (by omega)])) (fun n13 => ?_)
  refine wp_decs (fun h => pp (areF_cons f_arr a0) (by simp) (by unfold madeB; rw [if_neg (by omega), if_neg (by omega), if_neg (by omega), if_neg (by omega), if_neg (by omega), if_pos (by omega)])) (fun n16 => ?_)
  refine wp_decs (fun h => pp (areF_cons f_fun a0) (by simp) (by unfold madeB; rw [if_neg (by omega), if_neg (by omega), if_neg (by omega), if_neg (by omega), if_neg (by omega), if_neg (by omega), if_pos (by omega)])) (fun n22 => ?_)
  refine wp_decs (fun h => pp (areF_cons f_fun a0) (by simp) (by unfold madeB; rw [if_neg (by omega), if_neg (by omega), if_neg (by omega), if_neg (by omega), if_neg (by omega), if_neg (by omega), if_pos (by omega)])) (fun n27 => ?_)
  refine wp_decs (fun h => pp (areF_cons f_fun (areF_cons (f_dyo e) a0)) (by simp) (by unfold madeB; rw [if_neg (by omega), if_neg (by omega), if_neg (by omega), if_neg (by omega), if_neg (by omega), if_neg (by omega), if_neg (by omega), if_pos (by omega)])) (fun n23 => ?_)
  refine wp_decs (fun h => pp (areF_cons f_pln a0) (by simp) (by unfold madeB; rw [if_neg (by omega), if_neg (by omega), if_neg (by omega), if_neg (by omega), if_neg (by omega), if_neg (by omega), if_neg (by omega), if_neg (by omega), if_pos (by omega)])) (fun n24 => ?_)
  refine wp_decs (fun h => pp (areF_cons f_arr (areF_cons f_arr a0)) (by simp) (by unfold madeB; rw [if_neg (by omega), if_neg (by omega), if_neg (by omega), if_neg (by omega), if_neg (by omega), if_neg (by omega), if_neg (by omega), if_neg (by omega), if_neg (by omega), if_pos (by omega)])) (fun n25 => ?_)
  refine wp_decs (fun h => pp (areF_cons f_arr (areF_cons f_arr a0)) (by simp) (by unfold madeB; rw [if_neg (by omega), if_neg (by omega), if_neg (by omega), if_neg (by omega), if_neg (by omega), if_neg (by omega), if_neg (by omega), if_neg (by omega), if_neg (by omega), if_pos (by omega)])) (fun n26 => ?_)
  refine wp_decs (fun h => sta (by unfold madeB; rw [if_neg (by omega), if_neg (by omega), if_neg (by omega), if_neg (by omega), if_neg (by omega), if_neg (by omega), if_neg (by omega), if_neg (by omega), if_neg (by omega), if_neg (by omega), if_pos (by omega)])) (fun n20 => ?_)
  refine wp_decs (fun h => sta (by unfold madeB; rw [if_neg (by omega), if_neg (by omega), if_neg (by omega), if_neg (by omega), if_neg (by omega), if_neg (by omega), if_neg (by omega), if_neg (by omega), if_neg (by omega), if_neg (by omega), if_pos (by omega)])) (fun n28 => wp_ret ?_)
  unfold madeB
  rw [if_neg (by omega), if_neg (by omega), if_neg (by omega), if_neg (by omega), if_neg (by omega), if_neg (by omega), if_neg (by omega), if_neg (by omega), if_neg (by omega), if_neg (by omega), if_neg (by omega)]
end Go.Proofs.Ytcdjifdllibolaa

set_option maxRecDepth 100000
namespace Go.Proofs.Ytcdjifdllibolaa
/-! scrim/scrimref21.Few -/
def ref21_Few_orc : List (Nat × Orc) := []
theorem ref21_Few_tree (n : Nat) (e0 : D) : evFun Try.prog md ref21_Few_orc n 22 [] [e0] =
 .call 33 [] [e0, D.int 60, D.int 3000] fun yy1 =>
 .ret [D.bool (decide (0 ≤ ((yy1.getD 0 D.nil).toInt)))] := by kernel_rfl

/-! scrim/scrimref21.Same -/
def ref21_Same_orc : List (Nat × Orc) := [(4, ⟨[(2, none), (3, none), (5, none)], [(2, true), (3, true)], []⟩)]
def ref21_Same_ps : List Nat := [33, 33]
def ref21_Same_rs : List ResultVar := [.tmp 4]
def ref21_Same_ts : List Nat := [4]
noncomputable def ref21_Same_l4 (n m4 : Nat) (i5 : Int) (a2 : D) (b3 : D) : Tree :=
  evLoop Try.prog md (ev Try.prog md n ref21_Same_orc (cAt (bodyOf Try.prog 27) [1, 1, 0, 1, 0, 0])) (orcAt ref21_Same_orc 4) m4 ⟨[.undef, .undef, .ptr 2 [], .ptr 3 [], .undef, .i .i64 i5, .undef, .undef, .undef, .undef, .undef, .undef, .undef, .undef, .undef, .undef, .undef, .undef, .undef, .undef, .undef, .undef, .undef, .undef, .undef, .undef, .undef, .undef, .undef, .undef, .undef, .undef, .undef, .undef, .undef, .undef, .undef, .undef, .undef, .undef, .undef, .undef, .undef, .undef, .undef, .undef, .undef, .undef, .undef, .undef, .undef, .undef, .undef, .undef, .undef, .undef, .undef, .undef, .undef, .undef, .undef, .undef, .undef, .undef, .undef, .undef, .undef, .undef, .undef], [(2, .var 33 (.d 33 a2) true), (3, .var 33 (.d 33 b3) true)], [2, 3], [], []⟩
   (blockK 0 (seqK (joinE Try.prog md (joinAt ref21_Same_orc (cAt (bodyOf Try.prog 27) [1, 1, 1])) (ev Try.prog md n ref21_Same_orc (cAt (bodyOf Try.prog 27) [1, 1, 1]))) (retK Try.prog md (md 27) ref21_Same_ps ref21_Same_rs ref21_Same_ts)))
theorem ref21_Same_l4_succ (n m4 : Nat) (i5 : Int) (a2 : D) (b3 : D) : ref21_Same_l4 n (m4 + 1) i5 a2 b3 =
 .br (decide (i5 < (((a2.fld 5).els).length : Int))) (.br (decide (0 ≤ i5)) (.br (decide (i5 < (((a2.fld 5).els).length : Int))) (.br (decide (0 ≤ i5)) (.br (decide (i5 < (((b3.fld 5).els).length : Int))) (.call 27 [] [((a2.fld 5).els).getD (Int.toNat i5) D.nil, ((b3.fld 5).els).getD (Int.toNat i5) D.nil] fun yy3 =>
 .br (!((yy3.getD 0 D.nil).toBool)) (.ret [D.bool false])
 (ref21_Same_l4 n m4 (IntKind.wrap .i64 (i5 + 1)) a2 b3)) .fail) .fail) .fail) .fail)
 (.ret [D.bool true]) := by kernel_rfl
theorem ref21_Same_tree (n : Nat) (a0 : D) (b1 : D) : evFun Try.prog md ref21_Same_orc n 27 [] [a0, b1] =
 .br (((a0.fld 0).toInt) != ((b1.fld 0).toInt)) (.ret [D.bool false])
 (.br (((a0.fld 1).toInt) != ((b1.fld 1).toInt)) (.ret [D.bool false])
 (.br (!(((a0.fld 2).toStr).toList == ((b1.fld 2).toStr).toList)) (.ret [D.bool false])
 (.call 38 [] [a0.fld 3, b1.fld 3] fun yy1 =>
 .br (!((yy1.getD 0 D.nil).toBool)) (.ret [D.bool false])
 (.call 16 [] [a0.fld 4, b1.fld 4] fun yy2 =>
 .br (!((yy2.getD 0 D.nil).toBool)) (.ret [D.bool false])
 (.br ((((a0.fld 5).els).length : Int) != (((b1.fld 5).els).length : Int)) (.ret [D.bool false])
 (ref21_Same_l4 n n 0 a0 b1)))))) := by kernel_rfl

/-! scrim/scrimref21.left -/
def ref21_left_orc : List (Nat × Orc) := [(5, ⟨[(1, none), (2, none), (3, none), (7, none)], [(3, true)], []⟩)]
def ref21_left_ps : List Nat := [33, 3, 3]
def ref21_left_rs : List ResultVar := [.tmp 6]
def ref21_left_ts : List Nat := [3]
noncomputable def ref21_left_l5 (n m5 : Nat) (deep1 : Int) (nn2 : Int) (i7 : Int) (e3 : D) : Tree :=
  evLoop Try.prog md (ev Try.prog md n ref21_left_orc (cAt (bodyOf Try.prog 33) [1, 1, 1, 0, 1, 0, 0])) (orcAt ref21_left_orc 5) m5 ⟨[.undef, .i .i64 deep1, .i .i64 nn2, .ptr 3 [], .undef, .undef, .undef, .i .i64 i7, .undef, .undef, .undef, .undef, .undef, .undef, .undef, .undef, .undef, .undef, .undef, .undef, .undef, .undef, .undef, .undef, .undef, .undef, .undef, .undef, .undef, .undef, .undef, .undef, .undef, .undef, .undef, .undef, .undef, .undef], [(3, .var 33 (.d 33 e3) true)], [3], [], []⟩
   (blockK 0 (seqK (joinE Try.prog md (joinAt ref21_left_orc (cAt (bodyOf Try.prog 33) [1, 1, 1, 1])) (ev Try.prog md n ref21_left_orc (cAt (bodyOf Try.prog 33) [1, 1, 1, 1]))) (retK Try.prog md (md 33) ref21_left_ps ref21_left_rs ref21_left_ts)))
theorem ref21_left_l5_succ (n m5 : Nat) (deep1 : Int) (nn2 : Int) (i7 : Int) (e3 : D) : ref21_left_l5 n (m5 + 1) deep1 nn2 i7 e3 =
 .br (decide (i7 < (((e3.fld 5).els).length : Int))) (.br (decide (0 ≤ nn2)) (.br (decide (0 ≤ i7)) (.br (decide (i7 < (((e3.fld 5).els).length : Int))) (.call 33 [] [((e3.fld 5).els).getD (Int.toNat i7) D.nil, D.int (IntKind.wrap .i64 (deep1 - 1)), D.int nn2] fun yy1 =>
 ref21_left_l5 n m5 deep1 ((yy1.getD 0 D.nil).toInt) (IntKind.wrap .i64 (i7 + 1)) e3) .fail) .fail)
 (.ret [D.int nn2]))
 (.ret [D.int nn2]) := by kernel_rfl
theorem ref21_left_tree (n : Nat) (e0 : D) (deep1 : D) (nn2 : D) : evFun Try.prog md ref21_left_orc n 33 [] [e0, deep1, nn2] =
 .br (!(8 == (0 : Int))) (.br (deep1.toInt == 0) (.ret [D.int (-1)])
 (ref21_left_l5 n n deep1.toInt (IntKind.wrap .i64 ((IntKind.wrap .i64 (nn2.toInt - 1)) - (IntKind.wrap .i64 (Int.tdiv (((e0.fld 4).els).length : Int) 8)))) 0 e0)) .fail := by kernel_rfl

end Go.Proofs.Ytcdjifdllibolaa

set_option maxRecDepth 100000
namespace Go.Proofs.Ytcdjifdllibolaa
/-! Which fields there are. -/
def fieN (e : Ex1) : Int := (if e.op = 0 then 0 else 1) + (if e.name.data.toList = [] then 0 else 2) + (if e.n = .zero then 0 else 4) + (if (e.text.length : Int) = 0 then 0 else 8)
def kidB (k c : Int) : Bool := if c = 97 then arrK k else if c = 102 then funK k else if c = 112 then plaK k else if c = 120 then arrK k || decide (k = 10) else false
def kidsS : List Ex1 → List UInt8 → UInt8 → Bool
  | [], _, _ => true
  | k :: ks, c :: cs, z => kidB k.kind (c.toNat : Int) && kidsS ks cs z
  | k :: ks, [], z => kidB k.kind (z.toNat : Int) && kidsS ks [] z
def kidsW (ks : List Ex1) (l : List UInt8) (z : UInt8) (more : Bool) : Bool := decide (l.length ≤ ks.length) && (decide (ks.length ≤ l.length) || more) && kidsS ks l z
def staB (braces : Bool) (k : Ex1) : Bool := arrK k.kind || decide (k.kind = 27) || (braces && (decide (k.kind = 25) || decide (k.kind = 26)))
def dyoK (op : Int) : List Ex1 → Bool
  | [a, b] => funK a.kind && (if op = 9060 then arrK b.kind else plaK b.kind || (decide (op = 9059) && arrK b.kind))
  | _ => false
def opeB (e : Ex1) : Bool := decide (fieN e = 1) && (if e.kind = 22 then decide (e.op ∈ monsL) && kidsW e.kids [102] 102 false
  else decide (e.op ∈ dyosL) && dyoK e.op e.kids)
end Go.Proofs.Ytcdjifdllibolaa

set_option maxRecDepth 100000
namespace Go.Proofs.Ytcdjifdllibolaa
def portB (n : Int) : Bool := decide (0 ≤ n) && decide (n < 8)
def leafI (e : Ex1) : Bool :=
  if e.kind = 1 then (decide (fieN e = 4) || decide (fieN e = 0)) && rightN e.n
  else if e.kind = 2 then (decide (fieN e = 8) || decide (fieN e = 0)) && (decide ((e.text.length : Int) ≤ 2048) && e.text.all mayC)
  else if e.kind = 3 then decide (fieN e = 2) && nameB e.name false
  else if e.kind = 4 ∨ e.kind = 5 ∨ e.kind = 10 ∨ e.kind = 19 then decide (fieN e = 0)
  else if e.kind = 6 ∨ e.kind = 7 then (decide (fieN e = 0) || decide (fieN e = 1)) && portB e.op
  else if e.kind = 17 then decide (fieN e = 1) && glyC e.op
  else if e.kind = 18 then decide (fieN e = 2) && nameB e.name true
  else if e.kind = 21 then (decide (fieN e = 0) || decide (fieN e = 1)) && (decide (e.op = 0) || decide (e.op = 1))
  else false
def leafB (e : Ex1) : Bool := partsB e.kids [] && leafI e
def oneB (e : Ex1) : Bool :=
  if e.kind = 8 then decide (fieN e = 0) && kidsW e.kids [97, 97] 97 true
  else if e.kind = 9 then decide (fieN e = 0) && kidsW e.kids [97, 120] 120 true
  else if e.kind = 11 then decide (fieN e = 0) && kidsW e.kids [102, 97] 97 false
  else if e.kind = 12 then decide (fieN e = 0) && kidsW e.kids [97, 102, 97] 97 false
  else if e.kind = 13 then decide (fieN e = 2) && (nameB e.name false && kidsW e.kids [97] 97 false)
  else if e.kind = 14 then decide (fieN e = 2) && (nameB e.name false && kidsW e.kids [97, 120] 120 true)
  else if e.kind = 15 then decide (fieN e = 2) && (nameB e.name false && kidsW e.kids [102, 97] 97 false)
  else if e.kind = 16 then (decide (fieN e = 0) || decide (fieN e = 1)) && (portB e.op && kidsW e.kids [97] 97 false)
  else if e.kind = 20 then decide (fieN e = 0) && (decide (0 < (e.kids.length : Int)) && e.kids.all (staB true))
  else if e.kind = 22 ∨ e.kind = 23 then opeB e
  else if e.kind = 24 then decide (fieN e = 0) && kidsW e.kids [112] 112 false
  else if e.kind = 25 ∨ e.kind = 26 then decide (fieN e = 0) && kidsW e.kids [97, 97] 97 false
  else if e.kind = 27 then decide (fieN e = 2) && (nameB e.name true && kidsW e.kids [102] 102 false)
  else if e.kind = 28 then decide (fieN e = 0) && (decide (0 < (e.kids.length : Int)) && e.kids.all (staB false))
  else leafB e
/-! The program's rules are the document's. -/
theorem fie_eq (e : Ex1) (k : Int) : decide (fieN e = k) = decide ((if decide (e.op = 0) then (0 : Int) else 1) + (if decide (e.name.data.toList = []) then 0 else 2) + (if decide (e.n = .zero) then 0 else 4) + (if decide ((e.text.length : Int) = 0) then 0 else 8) = k) := by
  unfold fieN
  simp only [decide_eq_true_eq]
theorem fie0 (e : Ex1) : decide (fieN e = 0) = (decide (e.n = .zero) && (decide ((e.text.length : Int) = 0) && (decide (e.name.data.toList = []) && decide (e.op = 0)))) := by
  rw [fie_eq]
  generalize decide (e.n = .zero) = N; generalize decide ((e.text.length : Int) = 0) = T; generalize decide (e.name.data.toList = []) = M; generalize decide (e.op = 0) = O
  revert N T M O; decide
theorem fie1 (e : Ex1) : decide (fieN e = 1) = (decide (e.n = .zero) && (decide ((e.text.length : Int) = 0) && (decide (e.name.data.toList = []) && !decide (e.op = 0)))) := by
  rw [fie_eq]
  generalize decide (e.n = .zero) = N; generalize decide ((e.text.length : Int) = 0) = T; generalize decide (e.name.data.toList = []) = M; generalize decide (e.op = 0) = O
  revert N T M O; decide
theorem fie2 (e : Ex1) : decide (fieN e = 2) = (decide (e.n = .zero) && (decide ((e.text.length : Int) = 0) && (!decide (e.name.data.toList = []) && decide (e.op = 0)))) := by
  rw [fie_eq]
  generalize decide (e.n = .zero) = N; generalize decide ((e.text.length : Int) = 0) = T; generalize decide (e.name.data.toList = []) = M; generalize decide (e.op = 0) = O
  revert N T M O; decide
theorem fie4 (e : Ex1) : decide (fieN e = 4) = (!decide (e.n = .zero) && (decide ((e.text.length : Int) = 0) && (decide (e.name.data.toList = []) && decide (e.op = 0)))) := by
  rw [fie_eq]
  generalize decide (e.n = .zero) = N; generalize decide ((e.text.length : Int) = 0) = T; generalize decide (e.name.data.toList = []) = M; generalize decide (e.op = 0) = O
  revert N T M O; decide
theorem fie8 (e : Ex1) : decide (fieN e = 8) = (decide (e.n = .zero) && (!decide ((e.text.length : Int) = 0) && (decide (e.name.data.toList = []) && decide (e.op = 0)))) := by
  rw [fie_eq]
  generalize decide (e.n = .zero) = N; generalize decide ((e.text.length : Int) = 0) = T; generalize decide (e.name.data.toList = []) = M; generalize decide (e.op = 0) = O
  revert N T M O; decide
theorem kidsS_nil (ks : List Ex1) (z : UInt8) : kidsS ks [] z = ks.all (fun k => kidB k.kind (z.toNat : Int)) := by
  induction ks with
  | nil => rfl
  | cons k ks ih => rw [kidsS, ih, List.all_cons]
theorem kw1 (ks : List Ex1) (z : UInt8) : kidsW ks [z] z false = partsB ks [fun k => kidB k.kind (z.toNat : Int)] := by
  match ks with
  | [] => rfl
  | [a] => simp [kidsW, kidsS, partsB]
  | a :: b :: l => rw [partsB_len (by simp)]; simp [kidsW]
theorem kw2 (ks : List Ex1) (y z : UInt8) : kidsW ks [y, z] z false = partsB ks [fun k => kidB k.kind (y.toNat : Int), fun k => kidB k.kind (z.toNat : Int)] := by
  match ks with
  | [] => rfl
  | [a] => rw [partsB_len (by simp)]; simp [kidsW]
  | [a, b] => simp [kidsW, kidsS, partsB]
  | a :: b :: c :: l => rw [partsB_len (by simp)]; simp [kidsW]
theorem kw3 (ks : List Ex1) (x y z : UInt8) : kidsW ks [x, y, z] z false = partsB ks [fun k => kidB k.kind (x.toNat : Int), fun k => kidB k.kind (y.toNat : Int), fun k => kidB k.kind (z.toNat : Int)] := by
  match ks with
  | [] => rfl
  | [a] => rw [partsB_len (by simp)]; simp [kidsW]
  | [a, b] => rw [partsB_len (by simp)]; simp [kidsW]
  | [a, b, c] => simp [kidsW, kidsS, partsB]
  | a :: b :: c :: d :: l => rw [partsB_len (by simp)]; simp [kidsW]
theorem kwm (ks : List Ex1) (y z : UInt8) : kidsW ks [y, z] z true = (decide (2 ≤ (ks.length : Int)) && (hdB (fun k => kidB k.kind (y.toNat : Int)) ks && (ks.drop 1).all (fun k => kidB k.kind (z.toNat : Int)))) := by
  match ks with
  | [] => rfl
  | [a] => simp [kidsW]
  | a :: b :: l =>
    have h1 : decide (2 ≤ (((a :: b :: l).length : Nat) : Int)) = true := decide_eq_true (by simp only [List.length_cons]; omega)
    have h2 : decide ([y, z].length ≤ (a :: b :: l).length) = true := decide_eq_true (by simp)
    rw [kidsW, h1, h2]
    simp only [Bool.or_true, Bool.true_and, kidsS, kidsS_nil, hdB, List.drop_succ_cons, List.drop_zero, List.all_cons]
theorem all_hd (ks : List Ex1) (p : Ex1 → Bool) : (decide (2 ≤ (ks.length : Int)) && (hdB p ks && (ks.drop 1).all p)) = (decide (2 ≤ (ks.length : Int)) && ks.all p) := by
  match ks with
  | [] => rfl
  | a :: l => simp [hdB]
theorem name_ne (e : Ex1) (f : Bool) : decide (e.name.data.toList = []) = true → nameB e.name f = false := fun h => by
  unfold nameB; rw [of_decide_eq_true h]; rfl
theorem gly_ne (e : Ex1) : decide (e.op = 0) = true → glyC e.op = false := fun h => by rw [of_decide_eq_true h]; rfl
theorem mon_ne (e : Ex1) : decide (e.op = 0) = true → decide (e.op ∈ monsL) = false := fun h => by rw [of_decide_eq_true h]; rfl
theorem dyo_ne (e : Ex1) : decide (e.op = 0) = true → decide (e.op ∈ dyosL) = false := fun h => by rw [of_decide_eq_true h]; rfl
theorem sta_eq (kd : Int) (b : Bool) (h : decide (kd = 20) = b) (k : Ex1) : staB b k = pSta kd k := by
  unfold staB pSta
  rw [h]
  by_cases h1 : k.kind = 27
  · simp [h1]
  by_cases h2 : k.kind = 25
  · rw [show arrK k.kind = false by rw [h2]; rfl]; simp [h2]
  by_cases h3 : k.kind = 26
  · rw [show arrK k.kind = false by rw [h3]; rfl]; simp [h3]
  simp [h1, h2, h3]
theorem bb2 : ∀ N T M O B K : Bool, (M = true → B = false) → ((N && (T && (!M && O))) && (B && K)) = ((N && (T && (B && O))) && K) := by decide
theorem bb2' : ∀ N T M O B : Bool, (M = true → B = false) → ((N && (T && (!M && O))) && B) = (N && (T && (B && O))) := by decide
theorem bb1 : ∀ N T M O B K : Bool, (O = true → B = false) → ((N && (T && (M && !O))) && (B && K)) = ((N && (T && (M && B))) && K) := by decide
theorem bb1' : ∀ N T M O B : Bool, (O = true → B = false) → ((N && (T && (M && !O))) && B) = (N && (T && (M && B))) := by decide
theorem bb01 : ∀ N T M O B K : Bool, (((N && (T && (M && O))) || (N && (T && (M && !O)))) && (B && K)) = ((N && (T && (M && B))) && K) := by decide
theorem bb01' : ∀ N T M O B : Bool, (((N && (T && (M && O))) || (N && (T && (M && !O)))) && B) = (N && (T && (M && B))) := by decide
theorem bb04 : ∀ N T M O B : Bool, (((!N && (T && (M && O))) || (N && (T && (M && O)))) && B) = (B && (T && (M && O))) := by decide
theorem bb08 : ∀ N T M O B : Bool, (((N && (!T && (M && O))) || (N && (T && (M && O)))) && B) = (N && (B && (M && O))) := by decide
/-- ████ What one expression has to have, and is made of, is one rule. -/
theorem one_eq (e : Ex1) : oneB e = (heldB e && madeB e) := by
  have nn := name_ne e
  have lf : oneB e = leafB e → leafI e = heldB e → madeB e = partsB e.kids [] → oneB e = (heldB e && madeB e) := fun h1 h2 h3 => by
    rw [h1, h3, leafB, h2, Bool.and_comm]
  have ho : ∀ {a : Bool}, oneB e = a → a = (heldB e && madeB e) → oneB e = (heldB e && madeB e) := fun h1 h2 => h1.trans h2
  by_cases h : e.kind = 1
  · refine lf (by unfold oneB; rw [h]; rfl) ?_ (by unfold madeB; rw [h]; rfl)
    rw [show leafI e = ((decide (fieN e = 4) || decide (fieN e = 0)) && rightN e.n) by unfold leafI; rw [h]; rfl, show heldB e = (rightN e.n && (decide ((e.text.length : Int) = 0) && (decide (e.name.data.toList = []) && decide (e.op = 0)))) by unfold heldB numOK chaOK namOK opOK; rw [h]; rfl, fie4, fie0]
    exact bb04 _ _ _ _ _
  by_cases h : e.kind = 2
  · refine lf (by unfold oneB; rw [h]; rfl) ?_ (by unfold madeB; rw [h]; rfl)
    rw [show leafI e = ((decide (fieN e = 8) || decide (fieN e = 0)) && (decide ((e.text.length : Int) ≤ 2048) && e.text.all mayC)) by unfold leafI; rw [h]; rfl, show heldB e = (decide (e.n = .zero) && ((decide ((e.text.length : Int) ≤ 2048) && e.text.all mayC) && (decide (e.name.data.toList = []) && decide (e.op = 0)))) by unfold heldB numOK chaOK namOK opOK; rw [h]; rfl, fie8, fie0]
    exact bb08 _ _ _ _ _
  by_cases h : e.kind = 3
  · refine lf (by unfold oneB; rw [h]; rfl) ?_ (by unfold madeB; rw [h]; rfl)
    rw [show leafI e = (decide (fieN e = 2) && nameB e.name false) by unfold leafI; rw [h]; rfl, show heldB e = (decide (e.n = .zero) && (decide ((e.text.length : Int) = 0) && (nameB e.name false && decide (e.op = 0)))) by unfold heldB numOK chaOK namOK opOK; rw [h]; rfl, fie2]
    exact bb2' _ _ _ _ _ (nn false)
  by_cases h : e.kind = 4
  · refine lf (by unfold oneB; rw [h]; rfl) ?_ (by unfold madeB; rw [h]; rfl)
    rw [show leafI e = decide (fieN e = 0) by unfold leafI; rw [h]; rfl, fie0]; unfold heldB numOK chaOK namOK opOK; rw [h]; rfl
  by_cases h : e.kind = 5
  · refine lf (by unfold oneB; rw [h]; rfl) ?_ (by unfold madeB; rw [h]; rfl)
    rw [show leafI e = decide (fieN e = 0) by unfold leafI; rw [h]; rfl, fie0]; unfold heldB numOK chaOK namOK opOK; rw [h]; rfl
  by_cases h : e.kind = 6
  · refine lf (by unfold oneB; rw [h]; rfl) ?_ (by unfold madeB; rw [h]; rfl)
    rw [show leafI e = ((decide (fieN e = 0) || decide (fieN e = 1)) && portB e.op) by unfold leafI; rw [h]; rfl, show heldB e = (decide (e.n = .zero) && (decide ((e.text.length : Int) = 0) && (decide (e.name.data.toList = []) && portB e.op))) by unfold heldB numOK chaOK namOK opOK portB; rw [h]; rfl, fie0, fie1]
    exact bb01' _ _ _ _ _
  by_cases h : e.kind = 7
  · refine lf (by unfold oneB; rw [h]; rfl) ?_ (by unfold madeB; rw [h]; rfl)
    rw [show leafI e = ((decide (fieN e = 0) || decide (fieN e = 1)) && portB e.op) by unfold leafI; rw [h]; rfl, show heldB e = (decide (e.n = .zero) && (decide ((e.text.length : Int) = 0) && (decide (e.name.data.toList = []) && portB e.op))) by unfold heldB numOK chaOK namOK opOK portB; rw [h]; rfl, fie0, fie1]
    exact bb01' _ _ _ _ _
  by_cases h : e.kind = 8
  · rw [show oneB e = (decide (fieN e = 0) && kidsW e.kids [97, 97] 97 true) by unfold oneB; rw [h]; rfl, show madeB e = (decide (2 ≤ (e.kids.length : Int)) && e.kids.all pArr) by unfold madeB; rw [h]; rfl, fie0, kwm, all_hd]
    unfold heldB numOK chaOK namOK opOK; rw [h]; rfl
  by_cases h : e.kind = 9
  · rw [show oneB e = (decide (fieN e = 0) && kidsW e.kids [97, 120] 120 true) by unfold oneB; rw [h]; rfl, show madeB e = (decide (2 ≤ (e.kids.length : Int)) && (hdB pArr e.kids && (e.kids.drop 1).all pPla)) by unfold madeB; rw [h]; rfl, fie0, kwm]
    unfold heldB numOK chaOK namOK opOK; rw [h]; rfl
  by_cases h : e.kind = 10
  · refine lf (by unfold oneB; rw [h]; rfl) ?_ (by unfold madeB; rw [h]; rfl)
    rw [show leafI e = decide (fieN e = 0) by unfold leafI; rw [h]; rfl, fie0]; unfold heldB numOK chaOK namOK opOK; rw [h]; rfl
  by_cases h : e.kind = 11
  · rw [show oneB e = (decide (fieN e = 0) && kidsW e.kids [102, 97] 97 false) by unfold oneB; rw [h]; rfl, show madeB e = partsB e.kids [pFun, pArr] by unfold madeB; rw [h]; rfl, fie0, kw2]
    unfold heldB numOK chaOK namOK opOK; rw [h]; rfl
  by_cases h : e.kind = 12
  · rw [show oneB e = (decide (fieN e = 0) && kidsW e.kids [97, 102, 97] 97 false) by unfold oneB; rw [h]; rfl, show madeB e = partsB e.kids [pArr, pFun, pArr] by unfold madeB; rw [h]; rfl, fie0, kw3]
    unfold heldB numOK chaOK namOK opOK; rw [h]; rfl
  by_cases h : e.kind = 13
  · rw [show oneB e = (decide (fieN e = 2) && (nameB e.name false && kidsW e.kids [97] 97 false)) by unfold oneB; rw [h]; rfl, show madeB e = partsB e.kids [pArr] by unfold madeB; rw [h]; rfl, fie2, kw1, show heldB e = (decide (e.n = .zero) && (decide ((e.text.length : Int) = 0) && (nameB e.name false && decide (e.op = 0)))) by unfold heldB numOK chaOK namOK opOK; rw [h]; rfl]
    exact bb2 _ _ _ _ _ _ (nn false)
  by_cases h : e.kind = 14
  · rw [show oneB e = (decide (fieN e = 2) && (nameB e.name false && kidsW e.kids [97, 120] 120 true)) by unfold oneB; rw [h]; rfl, show madeB e = (decide (2 ≤ (e.kids.length : Int)) && (hdB pArr e.kids && (e.kids.drop 1).all pPla)) by unfold madeB; rw [h]; rfl, fie2, kwm, show heldB e = (decide (e.n = .zero) && (decide ((e.text.length : Int) = 0) && (nameB e.name false && decide (e.op = 0)))) by unfold heldB numOK chaOK namOK opOK; rw [h]; rfl]
    exact bb2 _ _ _ _ _ _ (nn false)
  by_cases h : e.kind = 15
  · rw [show oneB e = (decide (fieN e = 2) && (nameB e.name false && kidsW e.kids [102, 97] 97 false)) by unfold oneB; rw [h]; rfl, show madeB e = partsB e.kids [pFun, pArr] by unfold madeB; rw [h]; rfl, fie2, kw2, show heldB e = (decide (e.n = .zero) && (decide ((e.text.length : Int) = 0) && (nameB e.name false && decide (e.op = 0)))) by unfold heldB numOK chaOK namOK opOK; rw [h]; rfl]
    exact bb2 _ _ _ _ _ _ (nn false)
  by_cases h : e.kind = 16
  · rw [show oneB e = ((decide (fieN e = 0) || decide (fieN e = 1)) && (portB e.op && kidsW e.kids [97] 97 false)) by unfold oneB; rw [h]; rfl, show madeB e = partsB e.kids [pArr] by unfold madeB; rw [h]; rfl, fie0, fie1, kw1, show heldB e = (decide (e.n = .zero) && (decide ((e.text.length : Int) = 0) && (decide (e.name.data.toList = []) && portB e.op))) by unfold heldB numOK chaOK namOK opOK portB; rw [h]; rfl]
    exact bb01 _ _ _ _ _ _
  by_cases h : e.kind = 17
  · refine lf (by unfold oneB; rw [h]; rfl) ?_ (by unfold madeB; rw [h]; rfl)
    rw [show leafI e = (decide (fieN e = 1) && glyC e.op) by unfold leafI; rw [h]; rfl, show heldB e = (decide (e.n = .zero) && (decide ((e.text.length : Int) = 0) && (decide (e.name.data.toList = []) && glyC e.op))) by unfold heldB numOK chaOK namOK opOK; rw [h]; rfl, fie1]
    exact bb1' _ _ _ _ _ (gly_ne e)
  by_cases h : e.kind = 18
  · refine lf (by unfold oneB; rw [h]; rfl) ?_ (by unfold madeB; rw [h]; rfl)
    rw [show leafI e = (decide (fieN e = 2) && nameB e.name true) by unfold leafI; rw [h]; rfl, show heldB e = (decide (e.n = .zero) && (decide ((e.text.length : Int) = 0) && (nameB e.name true && decide (e.op = 0)))) by unfold heldB numOK chaOK namOK opOK; rw [h]; rfl, fie2]
    exact bb2' _ _ _ _ _ (nn true)
  by_cases h : e.kind = 19
  · refine lf (by unfold oneB; rw [h]; rfl) ?_ (by unfold madeB; rw [h]; rfl)
    rw [show leafI e = decide (fieN e = 0) by unfold leafI; rw [h]; rfl, fie0]; unfold heldB numOK chaOK namOK opOK; rw [h]; rfl
  by_cases h : e.kind = 20
  · rw [show oneB e = (decide (fieN e = 0) && (decide (0 < (e.kids.length : Int)) && e.kids.all (staB true))) by unfold oneB; rw [h]; rfl, show madeB e = (decide (0 < (e.kids.length : Int)) && e.kids.all (pSta e.kind)) by unfold madeB; rw [h]; rfl, fie0, show staB true = pSta e.kind from funext (sta_eq e.kind true (decide_eq_true h))]
    unfold heldB numOK chaOK namOK opOK; rw [h]; rfl
  by_cases h : e.kind = 21
  · refine lf (by unfold oneB; rw [h]; rfl) ?_ (by unfold madeB; rw [h]; rfl)
    rw [show leafI e = ((decide (fieN e = 0) || decide (fieN e = 1)) && (decide (e.op = 0) || decide (e.op = 1))) by unfold leafI; rw [h]; rfl, show heldB e = (decide (e.n = .zero) && (decide ((e.text.length : Int) = 0) && (decide (e.name.data.toList = []) && (decide (e.op = 0) || decide (e.op = 1))))) by unfold heldB numOK chaOK namOK opOK; rw [h]; rfl, fie0, fie1]
    exact bb01' _ _ _ _ _
  by_cases h : e.kind = 22
  · rw [show oneB e = opeB e by unfold oneB; rw [h]; rfl, opeB, if_pos h, show madeB e = partsB e.kids [pFun] by unfold madeB; rw [h]; rfl, fie1, kw1, show heldB e = (decide (e.n = .zero) && (decide ((e.text.length : Int) = 0) && (decide (e.name.data.toList = []) && decide (e.op ∈ monsL)))) by unfold heldB numOK chaOK namOK opOK; rw [h]; rfl]
    exact bb1 _ _ _ _ _ _ (mon_ne e)
  by_cases h : e.kind = 23
  · rw [show oneB e = opeB e by unfold oneB; rw [h]; rfl, opeB, if_neg (by omega), show madeB e = partsB e.kids [pFun, pDyo e.op] by unfold madeB; rw [h]; rfl, fie1, show heldB e = (decide (e.n = .zero) && (decide ((e.text.length : Int) = 0) && (decide (e.name.data.toList = []) && decide (e.op ∈ dyosL)))) by unfold heldB numOK chaOK namOK opOK; rw [h]; rfl]
    have hk : dyoK e.op e.kids = partsB e.kids [pFun, pDyo e.op] := by
      match e.kids with
      | [] => rfl
      | [a] => rw [partsB_len (by simp)]; rfl
      | [a, b] =>
        simp only [dyoK, partsB, Bool.and_true, pFun, pDyo]
        congr 1
        split
        · rename_i g; rw [g]; simp
        · rename_i g
          rw [decide_eq_true (show ¬ e.op = 9060 from g), decide_eq_false g]
          simp [Bool.and_comm]
      | a :: b :: c :: l => rw [partsB_len (by simp)]; rfl
    rw [hk]
    exact bb1 _ _ _ _ _ _ (dyo_ne e)
  by_cases h : e.kind = 24
  · rw [show oneB e = (decide (fieN e = 0) && kidsW e.kids [112] 112 false) by unfold oneB; rw [h]; rfl, show madeB e = partsB e.kids [pPln] by unfold madeB; rw [h]; rfl, fie0, kw1]
    unfold heldB numOK chaOK namOK opOK; rw [h]; rfl
  by_cases h : e.kind = 25
  · rw [show oneB e = (decide (fieN e = 0) && kidsW e.kids [97, 97] 97 false) by unfold oneB; rw [h]; rfl, show madeB e = partsB e.kids [pArr, pArr] by unfold madeB; rw [h]; rfl, fie0, kw2]
    unfold heldB numOK chaOK namOK opOK; rw [h]; rfl
  by_cases h : e.kind = 26
  · rw [show oneB e = (decide (fieN e = 0) && kidsW e.kids [97, 97] 97 false) by unfold oneB; rw [h]; rfl, show madeB e = partsB e.kids [pArr, pArr] by unfold madeB; rw [h]; rfl, fie0, kw2]
    unfold heldB numOK chaOK namOK opOK; rw [h]; rfl
  by_cases h : e.kind = 27
  · rw [show oneB e = (decide (fieN e = 2) && (nameB e.name true && kidsW e.kids [102] 102 false)) by unfold oneB; rw [h]; rfl, show madeB e = partsB e.kids [pFun] by unfold madeB; rw [h]; rfl, fie2, kw1, show heldB e = (decide (e.n = .zero) && (decide ((e.text.length : Int) = 0) && (nameB e.name true && decide (e.op = 0)))) by unfold heldB numOK chaOK namOK opOK; rw [h]; rfl]
    exact bb2 _ _ _ _ _ _ (nn true)
  by_cases h : e.kind = 28
  · rw [show oneB e = (decide (fieN e = 0) && (decide (0 < (e.kids.length : Int)) && e.kids.all (staB false))) by unfold oneB; rw [h]; rfl, show madeB e = (decide (0 < (e.kids.length : Int)) && e.kids.all (pSta e.kind)) by unfold madeB; rw [h]; rfl, fie0, show staB false = pSta e.kind from funext (sta_eq e.kind false (decide_eq_false (by omega)))]
    unfold heldB numOK chaOK namOK opOK; rw [h]; rfl
  have m0 : madeB e = false := by
    unfold madeB
    rw [if_neg (by omega), if_neg (by omega), if_neg (by omega), if_neg (by omega), if_neg (by omega), if_neg (by omega), if_neg (by omega), if_neg (by omega), if_neg (by omega), if_neg (by omega), if_neg (by omega)]
  have l0 : leafI e = false := by
    unfold leafI
    rw [if_neg (by omega), if_neg (by omega), if_neg (by omega), if_neg (by omega), if_neg (by omega), if_neg (by omega), if_neg (by omega), if_neg (by omega)]
  rw [m0, Bool.and_false]
  unfold oneB
  rw [if_neg (by omega), if_neg (by omega), if_neg (by omega), if_neg (by omega), if_neg (by omega), if_neg (by omega), if_neg (by omega), if_neg (by omega), if_neg (by omega), if_neg (by omega), if_neg (by omega), if_neg (by omega), if_neg (by omega), if_neg (by omega), leafB, l0, Bool.and_false]
end Go.Proofs.Ytcdjifdllibolaa

set_option maxRecDepth 100000
namespace Go.Proofs.Ytcdjifdllibolaa
mutual
def depE : Ex1 → Nat
  | .mk _ _ _ _ _ ks => depL ks + 1
def depL : List Ex1 → Nat
  | [] => 0
  | k :: ks => max (depE k) (depL ks)
end
mutual
def cntE : Ex1 → Nat
  | .mk _ _ _ _ _ ks => cntL ks + 1
def cntL : List Ex1 → Nat
  | [] => 0
  | k :: ks => cntE k + cntL ks
end
noncomputable def allE (e : Ex1) : Bool := Ex1.rec (motive_1 := fun _ => Bool) (motive_2 := fun _ => Bool) (fun k o s n t ks ih => oneB (.mk k o s n t ks) && ih) true (fun _ _ a b => a && b) e
theorem depE_eq (e : Ex1) : depE e = depL e.kids + 1 := by cases e; rw [depE]; rfl
theorem cntE_eq (e : Ex1) : cntE e = cntL e.kids + 1 := by cases e; rw [cntE]; rfl
theorem allE_eq (e : Ex1) : allE e = (oneB e && e.kids.all allE) := by
  cases e with
  | mk k o s n t ks =>
    unfold allE
    show (oneB _ && _) = (oneB _ && _)
    congr 1
    show _ = ks.all _
    induction ks with
    | nil => rfl
    | cons x xs ih => rw [List.all_cons, ← ih]
theorem cnt_pos (e : Ex1) : 1 ≤ cntE e := by rw [cntE_eq]; omega
theorem cntL_len : ∀ ks : List Ex1, ks.length ≤ cntL ks
  | [] => Nat.zero_le _
  | k :: ks => by rw [cntL, List.length_cons]; have := cntL_len ks; have := cnt_pos k; omega
theorem tree_Count_sp (e : Ex1) : cntE e ≤ 100000 → Sp 25 [dE e] [.int (cntE e : Int)] := by
  induction e using Ex1.ind with
  | h k o s n t ks ih =>
    intro hc
    have h2 := cntE_eq (.mk k o s n t ks)
    have hk : (Ex1.mk k o s n t ks).kids = ks := rfl
    rw [hk] at h2
    have hlen : ks.length ≤ 100000 := by have := cntL_len ks; omega
    refine sound_ (ks.length + 1) (tree_Count_tree _ _) ?_
    simp only [dE_5, hk, els_sl, List.length_map]
    have key := loop_list (P := Try.prog) (md := md) ks (fun m i (c : Nat) => tree_Count_l3 (ks.length + 1) m (c : Int) (.sl (ks.map dE)) (ks.length : Int) (i : Int)) (fun rest c => [.int ((c + cntL rest : Nat) : Int)]) (fun rest c => c + cntL rest ≤ 100000)
      (fun m i c hi hI => by
        simp only [tree_Count_l3_succ]
        exact wp_ndec (by omega) (wp_ret (by rw [cntL, Nat.add_zero])))
      (fun m i c x rest hdr hI ih2 => by
        obtain ⟨g1, g2, g3⟩ := drop_cons hdr
        have hx := List.mem_of_getElem? g2
        rw [cntL] at hI
        have hs := ih x hx (by omega)
        simp only [tree_Count_l3_succ, els_sl, List.length_map, Int.toNat_natCast, getD_map g2, wrap_succ (show i < 9223372036854775807 by omega)]
        refine wp_dec (by omega) (wp_dec (by omega) (wp_dec (by omega) (wp_call hs ?_)))
        simp only [getD_c0, toInt_int]
        have hm : IntKind.wrap .i64 ((c : Int) + (cntE x : Int)) = ((c + cntE x : Nat) : Int) := by rw [wrap64 (by omega) (by omega)]; omega
        rw [hm]
        refine Tree.wp_mono (ih2 (c + cntE x) (by omega)) (fun ys hy => hy.trans ?_)
        rw [cntL, Nat.add_assoc])
      (ks.length + 1) 0 1 (by omega) (by omega) (by rw [List.drop_zero]; omega)
    refine Tree.wp_mono key (fun ys hy => hy.trans ?_)
    rw [List.drop_zero, h2, Nat.add_comm]
/-! Which are few. -/
def leftX : Nat → Ex1 → Int → Int
  | 0, _, _ => -1
  | d + 1, e, n => e.kids.foldl (fun n k => if n < 0 then n else leftX d k n) (n - 1 - ((e.text.length / 8 : Nat) : Int))
theorem foldl_neg {d : Nat} : ∀ (ks : List Ex1) (n : Int), n < 0 → ks.foldl (fun n k => if n < 0 then n else leftX d k n) n = n
  | [], _, _ => rfl
  | k :: ks, n, h => by rw [List.foldl_cons, if_pos h]; exact foldl_neg ks n h
theorem left_bd : ∀ (d : Nat) (e : Ex1) (n : Int), FitsE e → 0 ≤ n → n ≤ 3000 → -17592186044420 ≤ leftX d e n ∧ leftX d e n ≤ 3000
  | 0, e, n, _, _, _ => by simp [leftX]
  | d + 1, e, n, he, h0, h1 => by
    rw [leftX]
    have ht := he.text
    have key : ∀ (ks : List Ex1) (m : Int), (∀ k ∈ ks, FitsE k) → -17592186044420 ≤ m → m ≤ 3000 → -17592186044420 ≤ ks.foldl (fun n k => if n < 0 then n else leftX d k n) m ∧ ks.foldl (fun n k => if n < 0 then n else leftX d k n) m ≤ 3000 := by
      intro ks
      induction ks with
      | nil => intro m _ a b; exact ⟨a, b⟩
      | cons k ks ih =>
        intro m hk a b
        rw [List.foldl_cons]
        by_cases hm : m < 0
        · rw [if_pos hm]; exact ih m (fun x hx => hk x (by simp [hx])) a b
        · rw [if_neg hm]
          obtain ⟨c1, c2⟩ := left_bd d k m (hk k (by simp)) (by omega) b
          exact ih _ (fun x hx => hk x (by simp [hx])) c1 c2
    exact key e.kids _ he.kids (by omega) (by omega)
theorem ref21_left_sp : ∀ (d : Nat) (e : Ex1) (n : Int), d ≤ 60 → FitsE e → 0 ≤ n → n ≤ 3000 → Sp 33 [dE e, .int (d : Int), .int n] [.int (leftX d e n)]
  | 0, e, n, _, he, _, _ => by
    refine sound_ 0 (ref21_left_tree _ _ _ _) (wp_tt (by decide) ?_)
    simp only [toInt_int, int_beq]
    exact wp_dec rfl (wp_ret rfl)
  | d + 1, e, n, hd, he, h0, h1 => by
    have hlen := he.len
    have ht := he.text
    have hks := he.kids
    refine sound_ (e.kids.length + 1) (ref21_left_tree _ _ _ _) (wp_tt (by decide) ?_)
    simp only [toInt_int, int_beq, dE_4, els_dI, List.length_map]
    refine wp_ndec (by omega) ?_
    have e8 : Int.tdiv (e.text.length : Int) 8 = ((e.text.length / 8 : Nat) : Int) := by rw [Int.tdiv_eq_ediv_of_nonneg (by omega)]; omega
    have w : IntKind.wrap .i64 (IntKind.wrap .i64 (n - 1) - IntKind.wrap .i64 (Int.tdiv (e.text.length : Int) 8)) = n - 1 - ((e.text.length / 8 : Nat) : Int) := by
      rw [e8, wrap64 (x := n - 1) (by omega) (by omega), wrap64 (x := ((e.text.length / 8 : Nat) : Int)) (by omega) (by omega), wrap64 (by omega) (by omega)]
    rw [w]
    have key := loop_list (P := Try.prog) (md := md) e.kids (fun m i (c : Int) => ref21_left_l5 (e.kids.length + 1) m ((d + 1 : Nat) : Int) c (i : Int) (dE e)) (fun rest c => [.int (rest.foldl (fun n k => if n < 0 then n else leftX d k n) c)]) (fun _ c => -17592186044420 ≤ c ∧ c ≤ 3000)
      (fun m i c hi hI => by
        simp only [ref21_left_l5_succ, dE_5, els_sl, List.length_map]
        exact wp_ndec (by omega) (wp_ret rfl))
      (fun m i c x rest hdr hI ih2 => by
        obtain ⟨g1, g2, g3⟩ := drop_cons hdr
        have hx := List.mem_of_getElem? g2
        have w1 : IntKind.wrap .i64 (((d + 1 : Nat) : Int) - 1) = (d : Int) := by rw [wrap64 (by omega) (by omega)]; omega
        simp only [ref21_left_l5_succ, dE_5, els_sl, List.length_map, Int.toNat_natCast, getD_map g2, w1, wrap_succ (show i < 9223372036854775807 by omega), List.foldl_cons]
        refine wp_dec (by omega) (wp_decs (fun g => ?_) (fun g => wp_ret ?_))
        · rw [if_neg (by omega)]
          have bd := left_bd d x c (hks x hx) g hI.2
          refine wp_dec (by omega) (wp_dec (by omega) (wp_call (ref21_left_sp d x c (by omega) (hks x hx) g hI.2) ?_))
          simp only [getD_c0, toInt_int]
          exact ih2 _ bd
        · rw [if_pos (by omega), foldl_neg rest c (by omega)])
      (e.kids.length + 1) 0 (n - 1 - ((e.text.length / 8 : Nat) : Int)) (by omega) (by omega) ⟨by omega, by omega⟩
    exact key
theorem ref21_Few_sp (e : Ex1) (he : FitsE e) : Sp 22 [dE e] [.bool (decide (0 ≤ leftX 60 e 3000))] :=
  sound_ 0 (ref21_Few_tree _ _) (wp_call (ref21_left_sp 60 e 3000 (by omega) he (by omega) (by omega)) (wp_ret rfl))
noncomputable def rigE (e : Ex1) : Bool := decide (depE e ≤ 40) && (decide (cntE e ≤ 2048) && allE e)
/-! What tree.right does. -/
def rT : Nat → Ex1 → Nat → Bool × Nat
  | 0, _, l => (false, l)
  | d + 1, e, l => if l = 0 then (false, l) else if heldB e && madeB e then e.kids.foldl (fun s k => if s.1 then rT d k s.2 else s) (true, l - 1) else (false, l - 1)
theorem foldl_stop {d : Nat} : ∀ (ks : List Ex1) (l : Nat), ks.foldl (fun s k => if s.1 then rT d k s.2 else s) (false, l) = (false, l)
  | [], _ => rfl
  | k :: ks, l => by rw [List.foldl_cons]; exact foldl_stop ks l
theorem rT_le : ∀ (d : Nat) (e : Ex1) (l : Nat), (rT d e l).2 ≤ l
  | 0, e, l => by simp [rT]
  | d + 1, e, l => by
    have key : ∀ (ks : List Ex1) (s : Bool × Nat), (ks.foldl (fun s k => if s.1 then rT d k s.2 else s) s).2 ≤ s.2 := by
      intro ks
      induction ks with
      | nil => intro s; exact Nat.le_refl _
      | cons k ks ih =>
        intro s
        rw [List.foldl_cons]
        refine Nat.le_trans (ih _) ?_
        split
        · exact rT_le d k s.2
        · exact Nat.le_refl _
    rw [rT]
    split
    · exact Nat.le_refl _
    split
    · have := key e.kids (true, l - 1); simp only at this; omega
    · simp only; omega
theorem rT_all : ∀ (d : Nat) (e : Ex1) (l : Nat), ((rT d e l).1 = true ↔ depE e ≤ d ∧ cntE e ≤ l ∧ allE e = true) ∧ ((rT d e l).1 = true → (rT d e l).2 + cntE e = l)
  | 0, e, l => by
    refine ⟨⟨fun h => (by cases h), fun h => ?_⟩, fun h => (by cases h)⟩
    have := depE_eq e; omega
  | d + 1, e, l => by
    have key : ∀ (ks : List Ex1) (m : Nat), ((ks.foldl (fun s k => if s.1 then rT d k s.2 else s) (true, m)).1 = true ↔ depL ks ≤ d ∧ cntL ks ≤ m ∧ ks.all allE = true) ∧ ((ks.foldl (fun s k => if s.1 then rT d k s.2 else s) (true, m)).1 = true → (ks.foldl (fun s k => if s.1 then rT d k s.2 else s) (true, m)).2 + cntL ks = m) := by
      intro ks
      induction ks with
      | nil => intro m; simp [depL, cntL]
      | cons k ks ih =>
        intro m
        rw [List.foldl_cons]
        simp only [if_true]
        obtain ⟨a1, a2⟩ := rT_all d k m
        rw [depL, cntL, List.all_cons, Bool.and_eq_true]
        cases hr : (rT d k m).1 with
        | true =>
          have e1 : rT d k m = (true, (rT d k m).2) := by rw [← hr]
          rw [e1]
          obtain ⟨b1, b2⟩ := ih (rT d k m).2
          have c1 := a1.1 hr
          have c2 := a2 hr
          refine ⟨⟨fun h => ?_, fun h => ?_⟩, fun h => ?_⟩
          · obtain ⟨d1, d2, d3⟩ := b1.1 h
            exact ⟨by omega, by omega, c1.2.2, d3⟩
          · exact b1.2 ⟨by omega, by omega, h.2.2.2⟩
          · have := b2 h; omega
        | false =>
          have e1 : rT d k m = (false, (rT d k m).2) := by rw [← hr]
          rw [e1, foldl_stop]
          refine ⟨⟨fun h => (by cases h), fun h => ?_⟩, fun h => by cases h⟩
          have := a1.2 ⟨by omega, by omega, h.2.2.1⟩
          rw [hr] at this; cases this
    rw [rT, allE_eq, one_eq, depE_eq, cntE_eq]
    by_cases hl : l = 0
    · rw [if_pos hl]
      refine ⟨⟨fun h => (by cases h), fun h => by omega⟩, fun h => by cases h⟩
    rw [if_neg hl]
    cases hm : (heldB e && madeB e) with
    | false => exact ⟨⟨fun h => (by cases h), fun h => by cases h.2.2⟩, fun h => by cases h⟩
    | true =>
      simp only [if_true, Bool.true_and]
      obtain ⟨b1, b2⟩ := key e.kids (l - 1)
      refine ⟨⟨fun h => ?_, fun h => b1.2 ⟨by omega, by omega, h.2.2⟩⟩, fun h => ?_⟩
      · obtain ⟨c1, c2, c3⟩ := b1.1 h
        exact ⟨by omega, by omega, c3⟩
      · have := b2 h; omega
theorem rT_rig (e : Ex1) : (rT 40 e 2048).1 = rigE e := by
  have h := (rT_all 40 e 2048).1
  unfold rigE
  cases hr : (rT 40 e 2048).1 with
  | true =>
    obtain ⟨a, b, c⟩ := h.1 hr
    rw [decide_eq_true a, decide_eq_true b, c]; rfl
  | false =>
    cases hx : (decide (depE e ≤ 40) && (decide (cntE e ≤ 2048) && allE e)) with
    | false => rfl
    | true =>
      simp only [Bool.and_eq_true, decide_eq_true_eq] at hx
      have := h.2 ⟨hx.1, hx.2.1, hx.2.2⟩
      rw [hr] at this; cases this
end Go.Proofs.Ytcdjifdllibolaa

set_option maxRecDepth 100000
namespace Go.Proofs.Ytcdjifdllibolaa
open Go.RowKit
section
variable {w : World} {M : Nat → Prop} {t : Nat} {x : D} {c : Nat → Option Value}
theorem rdc_int {k : IntKind} (h : RdC Try.prog md w M (.ty t) x c) (ht : Try.prog.underlying t = some (.int k)) : ∃ n, c 0 = some (.int k n) := by
  cases h with
  | int ht' h1 h2 hc =>
    have : Try.prog.underlying t = _ := ht'
    rw [ht] at this
    injection this with this; injection this with this; subst this
    exact ⟨_, hc⟩
  | bool ht' => have : Try.prog.underlying t = _ := ht'; rw [ht] at this; cases this
  | str ht' => have : Try.prog.underlying t = _ := ht'; rw [ht] at this; cases this
  | sl ht' => have : Try.prog.underlying t = _ := ht'; rw [ht] at this; cases this
  | fn ht' => have : Try.prog.underlying t = _ := ht'; rw [ht] at this; cases this
  | ref ht' => have : Try.prog.underlying t = _ := ht'; rw [ht] at this; cases this
  | mp ht' => have : Try.prog.underlying t = _ := ht'; rw [ht] at this; cases this
  | struct hf => obtain ⟨⟨a, ha, _⟩, _⟩ := fieldsOf_under hf; rw [ht] at ha; cases ha
theorem rdc_bool (h : RdC Try.prog md w M (.ty t) x c) (ht : Try.prog.underlying t = some .bool) : ∃ b, c 0 = some (.bool b) := by
  cases h with
  | bool ht' hc => exact ⟨_, hc⟩
  | int ht' => have : Try.prog.underlying t = _ := ht'; rw [ht] at this; cases this
  | str ht' => have : Try.prog.underlying t = _ := ht'; rw [ht] at this; cases this
  | sl ht' => have : Try.prog.underlying t = _ := ht'; rw [ht] at this; cases this
  | fn ht' => have : Try.prog.underlying t = _ := ht'; rw [ht] at this; cases this
  | ref ht' => have : Try.prog.underlying t = _ := ht'; rw [ht] at this; cases this
  | mp ht' => have : Try.prog.underlying t = _ := ht'; rw [ht] at this; cases this
  | struct hf => obtain ⟨⟨a, ha, _⟩, _⟩ := fieldsOf_under hf; rw [ht] at ha; cases ha
theorem rdc_str (h : RdC Try.prog md w M (.ty t) x c) (ht : Try.prog.underlying t = some .string) : ∃ b, c 0 = some (.string b) := by
  cases h with
  | str ht' _ hc => exact ⟨_, hc⟩
  | int ht' => have : Try.prog.underlying t = _ := ht'; rw [ht] at this; cases this
  | bool ht' => have : Try.prog.underlying t = _ := ht'; rw [ht] at this; cases this
  | sl ht' => have : Try.prog.underlying t = _ := ht'; rw [ht] at this; cases this
  | fn ht' => have : Try.prog.underlying t = _ := ht'; rw [ht] at this; cases this
  | ref ht' => have : Try.prog.underlying t = _ := ht'; rw [ht] at this; cases this
  | mp ht' => have : Try.prog.underlying t = _ := ht'; rw [ht] at this; cases this
  | struct hf => obtain ⟨⟨a, ha, _⟩, _⟩ := fieldsOf_under hf; rw [ht] at ha; cases ha
theorem rdc_sl {e : Nat} {es : List D} (h : RdC Try.prog md w M (.ty t) (.sl es) c) (ht : Try.prog.underlying t = some (.slice e)) : ∃ A m, c 0 = some (.slice A es.length m) := by
  cases h with
  | sl ht' hc => exact ⟨_, _, hc⟩
end
theorem fld_ofs {t : Nat} {l : List (Nat × Nat)} (h : (fieldsOf Try.prog t).map (fun fs => fs.map (fun f => (f.type, f.offset))) = some l) {i ft o : Nat} (hi : l[i]? = some (ft, o)) {w : World} {M : Nat → Prop} {x : D} {c : Nat → Option Value} (hr : RdC Try.prog md w M (.ty t) x c) : RdC Try.prog md w M (.ty ft) (x.fld i) (fun j => c (o + j)) := by
  obtain ⟨fs, hf, rfl⟩ := Option.map_eq_some_iff.1 h
  rw [List.getElem?_map, Option.map_eq_some_iff] at hi
  obtain ⟨f, h1, h2⟩ := hi
  injection h2 with h2 h3
  subst h2
  subst h3
  exact rd_fld hr hf h1
theorem flds_Expr : (fieldsOf Try.prog 33).map (fun fs => fs.map (fun f => (f.type, f.offset))) = some [(3, 0), (3, 1), (9, 2), (30, 3), (24, 6), (31, 7)] := by kernel_rfl
theorem flds_Num : (fieldsOf Try.prog 30).map (fun fs => fs.map (fun f => (f.type, f.offset))) = some [(4, 0), (28, 1), (28, 2)] := by kernel_rfl
theorem expr_forms {w : World} {M : Nat → Prop} {e : Ex1} {c : Nat → Option Value} (h : RdC Try.prog md w M (.ty 33) (dE e) c) : ∃ n0 n1 s b A4 k4 m4 A5 k5 m5 A6 k6 m6 A7 m7, c 0 = some (.int .i64 n0) ∧ c 1 = some (.int .i64 n1) ∧ c 2 = some (.string s) ∧ c 3 = some (.bool b) ∧ c 4 = some (.slice A4 k4 m4) ∧ c 5 = some (.slice A5 k5 m5) ∧ c 6 = some (.slice A6 k6 m6) ∧ c 7 = some (.slice A7 e.kids.length m7) := by
  obtain ⟨n0, h0⟩ := rdc_int (fld_ofs flds_Expr (i := 0) rfl h) (k := .i64) (by kernel_rfl)
  obtain ⟨n1, h1⟩ := rdc_int (fld_ofs flds_Expr (i := 1) rfl h) (k := .i64) (by kernel_rfl)
  obtain ⟨s, h2⟩ := rdc_str (fld_ofs flds_Expr (i := 2) rfl h) (by kernel_rfl)
  have hn := fld_ofs flds_Expr (i := 3) rfl h
  rw [dE_3] at hn
  obtain ⟨b, h3⟩ := rdc_bool (fld_ofs flds_Num (i := 0) rfl hn) (by kernel_rfl)
  have q4 := fld_ofs flds_Num (i := 1) rfl hn
  have q5 := fld_ofs flds_Num (i := 2) rfl hn
  have q6 := fld_ofs flds_Expr (i := 4) rfl h
  have q7 := fld_ofs flds_Expr (i := 5) rfl h
  rw [dN_1] at q4
  rw [dN_2] at q5
  rw [dE_4] at q6
  rw [dE_5] at q7
  obtain ⟨A4, m4, h4⟩ := rdc_sl q4 (e := 51) (by kernel_rfl)
  obtain ⟨A5, m5, h5⟩ := rdc_sl q5 (e := 51) (by kernel_rfl)
  obtain ⟨A6, m6, h6⟩ := rdc_sl q6 (e := 3) (by kernel_rfl)
  obtain ⟨A7, m7, h7⟩ := rdc_sl q7 (e := 33) (by kernel_rfl)
  rw [List.length_map] at h7
  exact ⟨n0, n1, s, b, A4, _, m4, A5, _, m5, A6, _, m6, A7, m7, h0, h1, h2, h3, h4, h5, h6, h7⟩
/-- An expression's value. -/
theorem expr_value {w : World} {M : Nat → Prop} {e : Ex1} {v : Value} (h : Rd Try.prog md w M (.ty 33) (dE e) v) : ∃ n0 n1 s b A4 k4 m4 A5 k5 m5 A6 k6 m6 A7 m7, v = .agg #[.int .i64 n0, .int .i64 n1, .string s, .bool b, .slice A4 k4 m4, .slice A5 k5 m5, .slice A6 k6 m6, .slice A7 e.kids.length m7] := by
  obtain ⟨n0, n1, s, b, A4, k4, m4, A5, k5, m5, A6, k6, m6, A7, m7, h0, h1, h2, h3, h4, h5, h6, h7⟩ := expr_forms h.rd
  refine ⟨n0, n1, s, b, A4, k4, m4, A5, k5, m5, A6, k6, m6, A7, m7, ?_⟩
  have hsz : v.cells.size = 8 := by rw [h.size]; kernel_rfl
  have hag : isAggV v = true := by rw [h.agg]; kernel_rfl
  cases v with
  | agg cs =>
    congr 1
    have hcs : cs.size = 8 := hsz
    apply Array.ext
    · simpa using hcs
    · intro i g1 g2
      have g3 : i < 8 := by omega
      have g : ∀ (j : Nat) (u : Value) (hj : j < cs.size), (fun j => (Value.agg cs).cells[j]?) j = some u → cs[j] = u := fun j u hj hh => by
        have hh : cs[j]? = some u := hh
        rw [Array.getElem?_eq_getElem hj] at hh
        injection hh
      match i, g3 with
      | 0, _ => exact g 0 _ g1 h0
      | 1, _ => exact g 1 _ g1 h1
      | 2, _ => exact g 2 _ g1 h2
      | 3, _ => exact g 3 _ g1 h3
      | 4, _ => exact g 4 _ g1 h4
      | 5, _ => exact g 5 _ g1 h5
      | 6, _ => exact g 6 _ g1 h6
      | 7, _ => exact g 7 _ g1 h7
  | _ => cases hag
/-- A part, where memory is as it was but for one block. -/
theorem list_expr {b : Nat} {ks : List Ex1} {A : Option Addr} {m : Nat} {w : World} (h : RdC Try.prog md w (fun q => q = b) (.ty 31) (.sl (ks.map dE)) (fun j => (Value.slice A ks.length m).cells[j]?)) {k : Nat} (hk : k < ks.length) : ∃ bk off, A = some ⟨bk, off, none⟩ ∧ bk ≠ b ∧ bk < w.heap.size ∧ ∀ wr, Stp (fun q => q = b) w wr →
    ∃ n0 n1 s q A4 k4 m4 A5 k5 m5 A6 k6 m6 A7 m7, (∀ (j : Nat) (u : Value), [Value.int .i64 n0, .int .i64 n1, .string s, .bool q, .slice A4 k4 m4, .slice A5 k5 m5, .slice A6 k6 m6, .slice A7 ks[k].kids.length m7][j]? = some u → wr.cell? ⟨bk, off + k * 8 + j, none⟩ = some u) ∧ Rd Try.prog md wr (fun q => q = b) (.ty 33) (dE ks[k]) (.agg #[.int .i64 n0, .int .i64 n1, .string s, .bool q, .slice A4 k4 m4, .slice A5 k5 m5, .slice A6 k6 m6, .slice A7 ks[k].kids.length m7]) := by
  have h8 : Try.prog.cellsOf 33 = 8 := by kernel_rfl
  cases h with
  | @sl _ e _ _ A' cap bk off ht hc h4 h5 hA hh =>
    have he : e = 33 := by
      have : Try.prog.underlying 31 = some (.slice e) := ht
      rw [show Try.prog.underlying 31 = some (.slice 33) by kernel_rfl] at this
      injection this with this; injection this with this; exact this.symm
    subst he
    have hv : Value.slice A ks.length m = .slice A' (ks.map dE).length cap := by simpa [Value.cells] using hc
    injection hv with e1 e2 e3
    subst e1
    obtain ⟨a1, a2, a3⟩ := hA (fun e => by rw [List.map_eq_nil_iff.1 e] at hk; simp at hk)
    refine ⟨bk, off, a1, a2, a3, fun wr hb => ?_⟩
    have hr := hh k (dE ks[k]) (by rw [List.getElem?_map, List.getElem?_eq_getElem hk]; rfl)
    rw [h8] at hr
    have hpos : 0 < (CT.ty 33).size Try.prog := by show 0 < Try.prog.cellsOf _; omega
    have hr' : RdC Try.prog md wr (fun q => q = b) (.ty 33) (dE ks[k]) (fun j => wr.cell? ⟨bk, off + k * 8 + j, none⟩) := by
      have := hr.mono (w' := wr) (M' := fun q => q = b) hb.size (fun q hq hlt => hb.block q hlt hq) (fun q hf _ => hf)
      refine this.congr (fun j _ => ?_) hpos
      rw [Nat.add_assoc, cell_same (hb.block bk a3 a2)]
    obtain ⟨n0, n1, s, q, A4, k4, m4, A5, k5, m5, A6, k6, m6, A7, m7, c0, c1, c2, c3, c4, c5, c6, c7⟩ := expr_forms hr'
    have hcell : ∀ (j : Nat) (u : Value), [Value.int .i64 n0, .int .i64 n1, .string s, .bool q, .slice A4 k4 m4, .slice A5 k5 m5, .slice A6 k6 m6, .slice A7 ks[k].kids.length m7][j]? = some u → wr.cell? ⟨bk, off + k * 8 + j, none⟩ = some u := fun j u hu => by
      match j, hu with
      | 0, hu => cases hu; exact c0
      | 1, hu => cases hu; exact c1
      | 2, hu => cases hu; exact c2
      | 3, hu => cases hu; exact c3
      | 4, hu => cases hu; exact c4
      | 5, hu => cases hu; exact c5
      | 6, hu => cases hu; exact c6
      | 7, hu => cases hu; exact c7
      | j + 8, hu => simp at hu
    refine ⟨n0, n1, s, q, A4, k4, m4, A5, k5, m5, A6, k6, m6, A7, m7, hcell, ?_, h8.symm, by kernel_rfl⟩
    refine hr'.congr (fun j hj => ?_) hpos
    have hj : j < 8 := by
      have : j < Try.prog.cellsOf 33 := hj
      omega
    match j, hj with
    | 0, _ => exact c0.symm
    | 1, _ => exact c1.symm
    | 2, _ => exact c2.symm
    | 3, _ => exact c3.symm
    | 4, _ => exact c4.symm
    | 5, _ => exact c5.symm
    | 6, _ => exact c6.symm
    | 7, _ => exact c7.symm
end Go.Proofs.Ytcdjifdllibolaa

set_option maxRecDepth 100000
namespace Go.Proofs.Ytcdjifdllibolaa
open Go.RowKit
theorem sp_bool {P : Program} {md : Nat → FMode} {F : Nat} {fn : Func} {xs : List D} {n : Bool} {vs : List Value} {W : World} {M : Nat → Prop} {t : Nat} (hs : Spec P md F [] xs [.bool n]) (hfn : P.funcs[F]? = some fn) (hm : md F = {}) (hM : ∀ b, M b → b < W.heap.size)
    (hlx : xs.length = fn.params.size) (hlv : vs.length = fn.params.size) (hrd : ∀ (i t : Nat) (x : D) (v : Value), fn.params.toList[i]? = some t → xs[i]? = some x → vs[i]? = some v → Rd P md W M (.ty t) x v)
    (hrt : fn.resultTypes = #[t]) (ht : P.underlying t = some .bool) : Calls P F vs.toArray W (fun e w' => e = .returned (.bool n) ∧ Ext W w') := by
  refine (sp_calls hs hfn hm hM hlx hlv hrd).mono ?_
  rintro e w' ⟨us, rfl, hl, hh, hx⟩
  obtain ⟨u, rfl⟩ := one_of hl (by rw [hrt]; rfl)
  have := (hh 0 t u (by rw [hrt]; rfl) rfl).bool ht
  subst this
  exact ⟨rfl, hx⟩
/-- What is told, and what is left. -/
theorem heap_alloc_old' {w : World} {o : Obj} {b : Nat} {z : Obj} (h : w.heap[b]? = some z) : (w.alloc o).heap[b]? = some z := (heap_alloc_old w o (Array.getElem?_eq_some_iff.1 h).1).trans h
def RetR (W : World) (b : Nat) (r : Bool × Nat) (e : Ending) (w' : World) : Prop := e = .returned (.bool r.1) ∧ w'.heap[b]? = some (.cells #[.int .i64 (r.2 : Int)] 3 (0, 0)) ∧ Stp (fun q => q = b) W w'
theorem nblk_setCell (w : World) (a : Addr) (v : Value) : (w.setCell a v).heap.size = w.heap.size := by simp [World.setCell]
theorem Stp.setAt {b : Nat} {w0 w : World} (h : Stp (fun q => q = b) w0 w) (u : Value) : Stp (fun q => q = b) w0 (w.setCell ⟨b, 0, none⟩ u) :=
  ⟨h.os, h.tape, h.output, by rw [nblk_setCell]; exact h.size, fun k hk hn => (Below.heap_setCell w ⟨b, 0, none⟩ u k hn).trans (h.block k hk hn)⟩
theorem Stp.alloc_ {N : Nat → Prop} {w0 w : World} (h : Stp N w0 w) (o : Obj) : Stp N w0 (w.alloc o) := h.trans (Stp.of_ext (N := N) ((Ext.refl w).alloc o)) (fun _ hx => hx) (fun _ _ hx => hx)
theorem Stp.ext_ {N : Nat → Prop} {w0 w w' : World} (h : Stp N w0 w) (hx : Ext w w') : Stp N w0 w' := h.trans (Stp.of_ext (N := N) hx) (fun _ hx => hx) (fun _ _ hx => hx)
theorem rd_stp {N : Nat → Prop} {w w' : World} {t : CT} {x : D} {v : Value} (h : Rd Try.prog md w N t x v) (hs : Stp N w w') : Rd Try.prog md w' N t x v :=
  ⟨h.rd.mono hs.size (fun q hq hlt => hs.block q hlt hq) (fun _ hm _ => hm), h.size, h.agg⟩
theorem box8 {w : World} {B T : Nat} {u0 u1 u2 u3 u4 u5 u6 u7 : Value} (h : w.heap[B]? = some (.cells #[u0, u1, u2, u3, u4, u5, u6, u7] T (0, 0))) : w.cell? ⟨B, 0, none⟩ = some u0 ∧ w.cell? ⟨B, 1, none⟩ = some u1 ∧ w.cell? ⟨B, 2, none⟩ = some u2 ∧ w.cell? ⟨B, 3, none⟩ = some u3 ∧ w.cell? ⟨B, 4, none⟩ = some u4 ∧ w.cell? ⟨B, 5, none⟩ = some u5 ∧ w.cell? ⟨B, 6, none⟩ = some u6 ∧ w.cell? ⟨B, 7, none⟩ = some u7 := by
  unfold World.cell?
  simp [h]
theorem held_calls {X : Ex1} (hf : FitsE X) {v : Value} {W : World} {b : Nat} (hr : Rd Try.prog md W (fun q => q = b) (.ty 33) (dE X) v) (hb : b < W.heap.size) : Calls Try.prog 43 #[v] W (fun e w' => e = .returned (.bool (heldB X)) ∧ Ext W w') := by
  have hps : Try.f43.params.toList = [33] := by kernel_rfl
  exact sp_bool (vs := [v]) (tree_held_sp X hf (rn_any _)) Try.func43 (by kernel_rfl) (fun q hq => by rw [hq]; exact hb) (by kernel_rfl) (by kernel_rfl) (rd_all1 hps hr) (t := 4) (by kernel_rfl) (by kernel_rfl)
theorem made_calls {X : Ex1} (hf : FitsE X) {v : Value} {W : World} {b : Nat} (hr : Rd Try.prog md W (fun q => q = b) (.ty 33) (dE X) v) (hb : b < W.heap.size) : Calls Try.prog 44 #[v] W (fun e w' => e = .returned (.bool (madeB X)) ∧ Ext W w') := by
  have hps : Try.f44.params.toList = [33] := by kernel_rfl
  exact sp_bool (vs := [v]) (tree_made_sp X hf) Try.func44 (by kernel_rfl) (fun q hq => by rw [hq]; exact hb) (by kernel_rfl) (by kernel_rfl) (rd_all1 hps hr) (t := 4) (by kernel_rfl) (by kernel_rfl)
theorem idx_expr (bk off n c k : Nat) (hk : k < n) (w : World) : (Instr.indexAt 31 (.slice (some ⟨bk, off, none⟩) n c) (.int .i64 k)).run Try.prog w = .ok (.pointer (some ⟨bk, off + k * 8, none⟩)) w := by
  have hu : Try.prog.underlying 31 = some (.slice 33) := by kernel_rfl
  have h8 : Try.prog.cellsOf 33 = 8 := by kernel_rfl
  have hcond : 0 ≤ (k : Int) ∧ (k : Int) < ((n : Nat) : Int) := by omega
  simp [Instr.indexAt, asIntOf, run_underlying hu, hcond, hk, run_sizeOf (P := Try.prog) (t := 33) (by omega), h8, Addr.add_lit]
/-- So many parts have been told right. -/
def KL (W : World) (b d n : Nat) (ks : List Ex1) (k : Nat) (wr : World) : Prop := ∃ l : Nat, (ks.take k).foldl (fun s k => if s.1 then rT d k s.2 else s) (true, n - 1) = (true, l) ∧ l ≤ n ∧ wr.heap[b]? = some (.cells #[.int .i64 (l : Int)] 3 (0, 0)) ∧ Stp (fun q => q = b) W wr
set_option maxHeartbeats 1000000 in
theorem right_any (x : Ex1) : FitsE x → ∀ (W : World) (deep n b : Nat) (v : Value), deep ≤ 1000 → n ≤ 100000 → Rd Try.prog md W (fun q => q = b) (.ty 33) (dE x) v → W.heap[b]? = some (.cells #[.int .i64 (n : Int)] 3 (0, 0)) →
    Calls Try.prog 34 #[v, .int .i64 (deep : Int), .pointer (some ⟨b, 0, none⟩)] W (RetR W b (rT deep x n)) := by
  induction x using Ex1.ind with
  | h kd op nm nn tx ks ih =>
    intro hf W deep n b v hdeep hn hrd hb
    have hk0 : (Ex1.mk kd op nm nn tx ks).kids = ks := rfl
    generalize hX : Ex1.mk kd op nm nn tx ks = X at *
    obtain ⟨n0, n1, s, q, A4, k4, m4, A5, k5, m5, A6, k6, m6, A7, m7, rfl⟩ := expr_value hrd
    rw [hk0] at hrd
    have HRD := Lib.hid hrd
    clear hrd
    have hlen := hf.len
    rw [hk0] at hlen
    have hblt : b < W.heap.size := (Array.getElem?_eq_some_iff.1 hb).1
    have KC : ∀ (y : World) (j : Int), y.heap[b]? = some (.cells #[.int .i64 j] 3 (0, 0)) → y.cell? ⟨b, 0, none⟩ = some (.int .i64 j) := by
      intro y j h2
      unfold World.cell?
      simp [h2]
    have hfz : W.frozen? ⟨b, 0, none⟩ = false := by unfold World.frozen?; simp [hb]
    have hc0 := KC _ _ hb
    have hc1 := KC _ _ (heap_alloc_old' (o := .cells #[.int .i64 n0, .int .i64 n1, .string s, .bool q, .slice A4 k4 m4, .slice A5 k5 m5, .slice A6 k6 m6, .slice A7 ks.length m7] 33 (0, 0)) hb)
    rcases Nat.eq_zero_or_pos deep with hd0 | hd0
    · subst hd0
      rw [hk0]
      go_enter Try.func34, Try.ntmps34
      go_wp2_with fail
      go_ret
      exact ⟨rfl, heap_alloc_old' hb, Stp.of_ext ((Ext.refl W).alloc _)⟩
    obtain ⟨d, rfl⟩ : ∃ d, deep = d + 1 := ⟨deep - 1, by omega⟩
    rcases Nat.eq_zero_or_pos n with hn0 | hn0
    · subst hn0
      rw [hk0]
      go_enter Try.func34, Try.ntmps34
      go_wp2_with fail
      go_ret
      exact ⟨rfl, heap_alloc_old' hb, Stp.of_ext ((Ext.refl W).alloc _)⟩
    have hbd : (((d : Int) + 1) == 0) = false := beq_eq_false_iff_ne.2 (by omega)
    have hbn : ((n : Int) == 0) = false := beq_eq_false_iff_ne.2 (by omega)
    have hn1 : ((n : Int) - 1) = ((n - 1 : Nat) : Int) := by omega
    have hb2 := heap_alloc_old' (o := .cells #[.int .i64 n0, .int .i64 n1, .string s, .bool q, .slice A4 k4 m4, .slice A5 k5 m5, .slice A6 k6 m6, .slice A7 ks.length m7] 33 (0, 0)) (one_setCell (u := .int .i64 ((n - 1 : Nat) : Int)) hb)
    have hst2 := ((Stp.refl (fun q => q = b) W).setAt (.int .i64 ((n - 1 : Nat) : Int))).alloc_ (.cells #[.int .i64 n0, .int .i64 n1, .string s, .bool q, .slice A4 k4 m4, .slice A5 k5 m5, .slice A6 k6 m6, .slice A7 ks.length m7] 33 (0, 0))
    have hbox2 := heap_alloc_new (W.setCell ⟨b, 0, none⟩ (.int .i64 ((n - 1 : Nat) : Int))) (.cells #[.int .i64 n0, .int .i64 n1, .string s, .bool q, .slice A4 k4 m4, .slice A5 k5 m5, .slice A6 k6 m6, .slice A7 ks.length m7] 33 (0, 0))
    rw [nblk_setCell] at hbox2
    have hblt2 := (Array.getElem?_eq_some_iff.1 hb2).1
    have hxlt2 := (Array.getElem?_eq_some_iff.1 hbox2).1
    have hrd2 := rd_stp HRD.out hst2
    have HR2 := Lib.hid hrd2
    clear hrd2
    rw [hk0]
    have hrT : rT (d + 1) X n = if heldB X && madeB X then ks.foldl (fun s k => if s.1 then rT d k s.2 else s) (true, n - 1) else (false, n - 1) := by rw [rT, if_neg (by omega), hk0]
    cases hH : heldB X with
    | false =>
      have hh := held_calls hf HR2.out hblt2
      rw [hH] at hh
      go_enter Try.func34, Try.ntmps34
      go_wp2_with (go_at_call 43; refine hh.mono ?_; rintro e w1 ⟨rfl, hx1⟩)
      go_ret
      rw [hrT, hH]
      refine ⟨rfl, ?_, hst2.ext_ hx1⟩
      rw [hx1.block b hblt2, hb2]; rfl
    | true =>
      have hh := held_calls hf HR2.out hblt2
      rw [hH] at hh
      cases hM : madeB X with
      | false =>
        go_enter Try.func34, Try.ntmps34
        go_wp2_with (first
          | (go_at_call 43; refine hh.mono ?_; rintro e w1 ⟨rfl, hx1⟩; obtain ⟨x0, x1, x2, x3, x4, x5, x6, x7⟩ := box8 ((hx1.block _ hxlt2).trans hbox2))
          | (go_at_call 44; refine (made_calls hf (rd_stp HR2.out (Stp.of_ext hx1)) (Nat.lt_of_lt_of_le hblt2 hx1.size)).mono ?_; rw [hM]; rintro e w2 ⟨rfl, hx2⟩))
        go_ret
        rw [hrT, hH, hM]
        refine ⟨rfl, ?_, (hst2.ext_ hx1).ext_ hx2⟩
        rw [hx2.block b (Nat.lt_of_lt_of_le hblt2 hx1.size), hx1.block b hblt2, hb2]; rfl
      | true =>
        rw [hH, hM] at hrT
        simp only [Bool.and_self, if_true] at hrT
        go_enter Try.func34, Try.ntmps34
        go_wp2_with (first
          | (go_at_call 43; refine hh.mono ?_; rintro e w1 ⟨rfl, hx1⟩; obtain ⟨x0, x1, x2, x3, x4, x5, x6, x7⟩ := box8 ((hx1.block _ hxlt2).trans hbox2))
          | (go_at_call 44; refine (made_calls hf (rd_stp HR2.out (Stp.of_ext hx1)) (Nat.lt_of_lt_of_le hblt2 hx1.size)).mono ?_; rw [hM]; rintro e w2 ⟨rfl, hx2⟩; obtain ⟨y0, y1, y2, y3, y4, y5, y6, y7⟩ := box8 ((hx2.block _ (Nat.lt_of_lt_of_le hxlt2 hx1.size)).trans ((hx1.block _ hxlt2).trans hbox2))))
        go_loopw [33] (fun iv wr => ∃ k : Nat, k ≤ ks.length ∧ iv = .int .i64 k ∧ KL W b d n ks k wr) (fun iv _ => ks.length - (intOf iv).toNat)
        case atStart =>
          refine ⟨0, Nat.zero_le _, rfl, n - 1, rfl, by omega, ?_, (hst2.ext_ hx1).ext_ hx2⟩
          rw [hx2.block b (Nat.lt_of_lt_of_le hblt2 hx1.size), hx1.block b hblt2, hb2]
        case round =>
          obtain ⟨k, hk, rfl, HF⟩ := hrel
          obtain ⟨l, hfold, hll, hbr, hstr⟩ := HF
          by_cases hlt : k < ks.length
          · have hk7 : RdC Try.prog md W (fun q => q = b) (.ty 31) (.sl (ks.map dE)) (fun j => (Value.slice A7 ks.length m7).cells[j]?) := by
              have := fld_ofs flds_Expr (i := 5) rfl HRD.out.rd
              rw [dE_5, hk0] at this
              refine this.congr (fun j hj => ?_) (show 0 < Try.prog.cellsOf 31 from (show Try.prog.cellsOf 31 = 1 by kernel_rfl) ▸ Nat.one_pos)
              have hj : j < 1 := by
                have h1 : Try.prog.cellsOf 31 = 1 := by kernel_rfl
                have : j < Try.prog.cellsOf 31 := hj
                omega
              match j, hj with
              | 0, _ => rfl
            obtain ⟨bk, off, rfl, hne, hbk, hcell⟩ := list_expr hk7 hlt
            obtain ⟨p0, p1, ps, pq, B4, l4, o4, B5, l5, o5, B6, l6, o6, B7, o7, hcl, hrk⟩ := hcell wr hstr
            clear hcell
            have g0 : wr.cell? ⟨bk, off + k * 8, none⟩ = _ := hcl 0 _ rfl
            have g1 := hcl 1 _ rfl
            have g2 := hcl 2 _ rfl
            have g3 := hcl 3 _ rfl
            have g4 := hcl 4 _ rfl
            have g5 := hcl 5 _ rfl
            have g6 := hcl 6 _ rfl
            have g7 := hcl 7 _ rfl
            clear hcl
            have HRK := Lib.hid hrk
            clear hrk
            have HIX := idx_expr bk off ks.length m7 k hlt
            have hd1 : ((d : Int) + 1 - 1) = (d : Int) := by omega
            have hIH := ih ks[k] (List.getElem_mem hlt) (hf.kids _ (by rw [hk0]; exact List.getElem_mem hlt)) (wr.alloc (.cells #[.int .i64 p0, .int .i64 p1, .string ps, .bool pq, .slice B4 l4 o4, .slice B5 l5 o5, .slice B6 l6 o6, .slice B7 ks[k].kids.length o7] 33 (0, 0))) d l b _ (by omega) (by omega) (rd_stp HRK.out ((Stp.refl (fun q => q = b) wr).alloc_ _)) (heap_alloc_old' hbr)
            have hsplit : ks.foldl (fun s k => if s.1 then rT d k s.2 else s) (true, n - 1) = (ks.drop (k + 1)).foldl (fun s k => if s.1 then rT d k s.2 else s) (rT d ks[k] l) := by
              have e1 : ks = ks.take k ++ (ks[k] :: ks.drop (k + 1)) := by rw [← List.drop_eq_getElem_cons hlt, List.take_append_drop]
              conv => lhs; rw [e1]
              rw [List.foldl_append, hfold, List.foldl_cons]; rfl
            cases hr : (rT d ks[k] l).1 with
            | false =>
              have hp : rT d ks[k] l = (false, (rT d ks[k] l).2) := by rw [← hr]
              go_wp2_with (go_at_call 34; refine hIH.mono ?_; unfold RetR; rw [hr]; rintro e w1 ⟨rfl, hb1, hs1⟩)
              go_ret
              rw [hrT, hsplit, hp, foldl_stop]
              exact ⟨rfl, hb1, (hstr.alloc_ _).trans hs1 (fun _ h => h) (fun _ _ h => h)⟩
            | true =>
              have hp : rT d ks[k] l = (true, (rT d ks[k] l).2) := by rw [← hr]
              go_wp2_with (go_at_call 34; refine hIH.mono ?_; unfold RetR; rw [hr]; rintro e w1 ⟨rfl, hb1, hs1⟩)
              go_roundw
              · refine ⟨k + 1, by omega, by go_num, (rT d ks[k] l).2, ?_, Nat.le_trans (rT_le d ks[k] l) hll, hb1, (hstr.alloc_ _).trans hs1 (fun _ h => h) (fun _ _ h => h)⟩
                rw [List.take_add_one, List.getElem?_eq_getElem hlt, List.foldl_append, hfold]
                exact hp
              · simp [intOf]; omega
          · have hkn : k = ks.length := by omega
            subst hkn
            go_wp2_with fail
            go_ret
            rw [List.take_length] at hfold
            rw [hrT, hfold]
            exact ⟨rfl, hbr, hstr⟩
end Go.Proofs.Ytcdjifdllibolaa

set_option maxRecDepth 100000
namespace Go.Proofs.Ytcdjifdllibolaa
open Go.RowKit
theorem tree_Right_calls {e : Ex1} (he : FitsE e) {w : World} {M : Nat → Prop} {v : Value} (hr : Rd Try.prog md w M (.ty 33) (dE e) v) : Calls Try.prog 23 #[v] w (fun en w' => en = .returned (.bool (rigE e)) ∧ Ext w w') := by
  have hr0 := hr
  obtain ⟨n0, n1, s, q, A4, k4, m4, A5, k5, m5, A6, k6, m6, A7, m7, rfl⟩ := expr_value hr
  clear hr0
  have hx1 := (Ext.refl w).alloc (.cells #[.int .i64 n0, .int .i64 n1, .string s, .bool q, .slice A4 k4 m4, .slice A5 k5 m5, .slice A6 k6 m6, .slice A7 e.kids.length m7] 33 (0, 0))
  have hx2 := hx1.alloc (.cells #[.int .i64 2048] 3 (0, 0))
  have hbx := heap_alloc_new (w.alloc (.cells #[.int .i64 n0, .int .i64 n1, .string s, .bool q, .slice A4 k4 m4, .slice A5 k5 m5, .slice A6 k6 m6, .slice A7 e.kids.length m7] 33 (0, 0))) (.cells #[.int .i64 2048] 3 (0, 0))
  have hsz : (w.alloc (.cells #[.int .i64 n0, .int .i64 n1, .string s, .bool q, .slice A4 k4 m4, .slice A5 k5 m5, .slice A6 k6 m6, .slice A7 e.kids.length m7] 33 (0, 0))).heap.size = w.heap.size + 1 := by simp
  rw [hsz] at hbx
  have hrd2 := rd_weak (M' := fun z => z = w.heap.size + 1) hr hx2 (fun z hz hlt => by omega)
  have hIH := right_any e he _ 40 2048 (w.heap.size + 1) _ (by omega) (by omega) hrd2 hbx
  have HH := Lib.hid hr
  clear hr hrd2
  go_enter Try.func23, Try.ntmps23
  go_wp2_with (go_at_call 34; refine hIH.mono ?_; unfold RetR; rintro en w1 ⟨rfl, hb1, hs1⟩)
  go_ret
  rw [rT_rig]
  refine ⟨rfl, hs1.os.trans hx2.os, hs1.tape.trans hx2.tape, hs1.output.trans hx2.output, Nat.le_trans hx2.size hs1.size, fun k hk => ?_⟩
  rw [hs1.block k (Nat.lt_of_lt_of_le hk hx2.size) (by omega)]
  exact hx2.block k hk
theorem tree_Right_sp (e : Ex1) (he : FitsE e) : Sp 23 [dE e] [.bool (rigE e)] := by
  have hps : Try.f23.params.toList = [33] := by kernel_rfl
  have hrs : Try.f23.resultTypes.toList = [4] := by kernel_rfl
  have h1 : Try.f23.params.size = 1 := by kernel_rfl
  refine spec_of wfP Try.func23 (by kernel_rfl) (by kernel_rfl) (by kernel_rfl) (fun w M vs hM hlx hlv hrd => ?_)
  rw [h1] at hlv
  obtain ⟨v, rfl⟩ := one_of hlv rfl
  have hr := hrd 0 (.ty 33) (dE e) v (by rw [hps]; rfl) rfl rfl
  refine (tree_Right_calls he hr).mono ?_
  rintro en w' ⟨rfl, hx⟩
  refine ⟨[.bool (rigE e)], rfl, by kernel_rfl, fun i t u ht hu => ?_, hx⟩
  match i with
  | 0 =>
    rw [hrs] at ht
    cases ht
    cases hu
    exact ⟨.bool (t := .ty 4) (by kernel_rfl) rfl, by kernel_rfl, by kernel_rfl⟩
  | i + 1 => simp at hu
/-! Whether two are the same. -/
theorem ba_beq (s t : ByteArray) : (s.toList == t.toList) = decide (s = t) := by
  rw [ByteArray.toList_eq, ByteArray.toList_eq]
  by_cases h : s = t
  · subst h; simp
  · rw [decide_eq_false h]
    refine beq_eq_false_iff_ne.2 (fun hh => h ?_)
    cases s with
    | mk a => cases t with
      | mk b =>
        have : a = b := Array.toList_inj.1 hh
        rw [this]
noncomputable def sameE (a b : Ex1) : Bool := @decide (a = b) (Classical.propDecidable _)
theorem sameE_iff {a b : Ex1} : sameE a b = true ↔ a = b := by unfold sameE; exact @decide_eq_true_iff _ (Classical.propDecidable _)
theorem same_no {a b : Ex1} (h : a ≠ b) : sameE a b = false := by
  cases hs : sameE a b with
  | false => rfl
  | true => exact absurd (sameE_iff.1 hs) h
theorem ex_ext {a b : Ex1} (h1 : a.kind = b.kind) (h2 : a.op = b.op) (h3 : a.name = b.name) (h4 : a.n = b.n) (h5 : a.text = b.text) (h6 : a.kids = b.kids) : a = b := by
  cases a; cases b
  simp only [Ex1.kind, Ex1.op, Ex1.name, Ex1.n, Ex1.text, Ex1.kids] at h1 h2 h3 h4 h5 h6
  subst h1; subst h2; subst h3; subst h4; subst h5; subst h6; rfl
theorem tree_Same_sp (a : Ex1) : FitsE a → ∀ b : Ex1, Sp 26 [dE a, dE b] [.bool (sameE a b)] := by
  induction a using Ex1.ind with
  | h k o s n t ks ih =>
    intro ha b
    have hk0 : (Ex1.mk k o s n t ks).kids = ks := rfl
    have hn := ha.num
    have ht := ha.text
    have hl := ha.len
    have hks := ha.kids
    rw [hk0] at hl hks
    generalize hA : Ex1.mk k o s n t ks = a at *
    refine sound_ 0 (tree_Same_tree _ _ _) ?_
    simp only [dE_0, dE_1, dE_2, dE_3, dE_4, dE_5, toInt_int, int_bne, D.toStr, ba_beq, not_dec]
    have no : a ≠ b → D.bool false = D.bool (sameE a b) := fun h => by rw [same_no h]
    refine wp_decs (fun h => wp_ret (by rw [no (fun hh => h (by rw [hh]))])) (fun g1 => wp_decs (fun h => wp_ret (by rw [no (fun hh => h (by rw [hh]))])) (fun g2 => wp_decs (fun h => wp_ret (by rw [no (fun hh => h (by rw [hh]))])) (fun g3 => wp_call (ratio_Same_sp a.n b.n (by omega) (by omega)) ?_)))
    simp only [getD_c0, toBool_bool, not_dec]
    refine wp_decs (fun h => wp_ret (by rw [no (fun hh => h (by rw [hh]))])) (fun g4 => wp_call (slices_EqualI_sp a.text b.text (by omega)) ?_)
    simp only [getD_c0, toBool_bool]
    refine wp_decs (fun g5 => ?_) (fun h => wp_ret (by rw [no (fun hh => h (by rw [hh]))]))
    have e1 := Classical.not_not.1 g1
    have e2 := Classical.not_not.1 g2
    have e3 := Classical.not_not.1 g3
    have e4 := Classical.not_not.1 g4
    rw [hk0]
    refine wp_call (ys := [.bool (sameE a b)]) ?_ (wp_ret rfl)
    refine sound_ (ks.length + 1) (slices_EqualFunc_api_Expr_api_Expr_api_Expr_api_Expr_tree_tree_Same _ _ _) ?_
    simp only [els_sl, List.length_map, int_bne]
    refine wp_decs (fun h => wp_ret (by rw [no (fun hh => h (by rw [← hh, hk0]))])) (fun g6 => ?_)
    have hll : ks.length = b.kids.length := by omega
    have key := loop_list (P := Try.prog) (md := md) ks (fun m i (_ : Unit) => slices_EqualFunc_api_Expr_api_Expr_api_Expr_api_Expr_l4 (ks.length + 1) m (.sl (b.kids.map dE)) (D.fn 26 [] []) (.sl (ks.map dE)) (ks.length : Int) (i : Int)) (fun rest _ => [.bool (@decide (rest = b.kids.drop (ks.length - rest.length)) (Classical.propDecidable _))]) (fun _ _ => True)
      (fun m i _ hi _ => by
        simp only [slices_EqualFunc_api_Expr_api_Expr_api_Expr_api_Expr_l4_succ_tree_Same]
        refine wp_ndec (by omega) (wp_ret ?_)
        rw [List.length_nil, Nat.sub_zero, hll, List.drop_length]; simp)
      (fun m i _ x rest hdr _ ih2 => by
        obtain ⟨q1, q2, q3⟩ := drop_cons hdr
        have hx := List.mem_of_getElem? q2
        have hle := congrArg List.length hdr
        rw [List.length_drop, List.length_cons] at hle
        have e5 : ks.length - (x :: rest).length = i := by rw [List.length_cons]; omega
        have e6 : ks.length - rest.length = i + 1 := by omega
        have hib : i < b.kids.length := by omega
        have ih2 := ih2 () trivial
        rw [e6] at ih2
        have hs := ih x hx (hks x hx) b.kids[i]
        simp only [slices_EqualFunc_api_Expr_api_Expr_api_Expr_api_Expr_l4_succ_tree_Same, els_sl, List.length_map, Int.toNat_natCast, getD_map q2, getD_map (List.getElem?_eq_getElem hib), wrap_succ (show i < 9223372036854775807 by omega), fnId_fn, fnCts_fn, fnDs_fn, List.append_nil]
        refine wp_dec (by omega) (wp_dec (by omega) (wp_dec (by omega) (wp_dec (by omega) (wp_dec (by omega) (wp_call hs ?_)))))
        simp only [getD_c0, toBool_bool]
        have ed : b.kids.drop i = b.kids[i] :: b.kids.drop (i + 1) := List.drop_eq_getElem_cons hib
        refine wp_br (fun g => wp_ret ?_) (fun g => ?_)
        · have g : sameE x b.kids[i] = false := by simpa using g
          have hne : x ≠ b.kids[i] := fun hh => by rw [sameE_iff.2 hh] at g; cases g
          rw [e5, ed]
          refine congrArg (fun z => [D.bool z]) (@decide_eq_false _ (Classical.propDecidable _) (fun hh => hne ?_)).symm
          injection hh
        · have g : sameE x b.kids[i] = true := by simpa using g
          have he := sameE_iff.1 g
          refine Tree.wp_mono ih2 (fun ys hy => hy.trans ?_)
          rw [e5, ed]
          refine congrArg (fun z => [D.bool z]) (@decide_eq_decide _ _ (Classical.propDecidable _) (Classical.propDecidable _) |>.2 ?_)
          rw [he]
          exact ⟨fun hh => by rw [hh], fun hh => by injection hh⟩)
      (ks.length + 1) 0 () (by omega) (by omega) trivial
    refine Tree.wp_mono key (fun ys hy => hy.trans ?_)
    rw [List.drop_zero, Nat.sub_self, List.drop_zero]
    unfold sameE
    refine congrArg (fun z => [D.bool z]) (@decide_eq_decide _ _ (Classical.propDecidable _) (Classical.propDecidable _) |>.2 ⟨fun hh => ex_ext e1 e2 e3 e4 g5 (by rw [hk0]; exact hh), fun hh => by rw [← hh, hk0]⟩)
theorem ref01_Ints_sp (a b : List Int) (ha : a.length ≤ 9223372036854775807) : Sp 16 [dI a, dI b] [.bool (decide (a = b))] := by
  refine sound_ (a.length + 1) (ref01_Ints_tree _ _ _) ?_
  simp only [els_dI, List.length_map, int_bne]
  refine wp_decs (fun h => wp_ret (by rw [decide_eq_false (fun hh => h (by rw [hh]))])) (fun g6 => ?_)
  have hll : a.length = b.length := by omega
  have key := loop_list (P := Try.prog) (md := md) a (fun m i (_ : Unit) => ref01_Ints_l4 (a.length + 1) m (dI a) (dI b) (i : Int)) (fun rest _ => [.bool (decide (rest = b.drop (a.length - rest.length)))]) (fun _ _ => True)
    (fun m i _ hi _ => by
      simp only [ref01_Ints_l4_succ, els_dI, List.length_map]
      refine wp_ndec (by omega) (wp_ret ?_)
      rw [List.length_nil, Nat.sub_zero, hll, List.drop_length]; simp)
    (fun m i _ x rest hdr _ ih2 => by
      obtain ⟨q1, q2, q3⟩ := drop_cons hdr
      have hle := congrArg List.length hdr
      rw [List.length_drop, List.length_cons] at hle
      have e5 : a.length - (x :: rest).length = i := by rw [List.length_cons]; omega
      have e6 : a.length - rest.length = i + 1 := by omega
      have hib : i < b.length := by omega
      have ih2 := ih2 () trivial
      rw [e6] at ih2
      simp only [ref01_Ints_l4_succ, els_dI, List.length_map, Int.toNat_natCast, getD_map q2, getD_map (List.getElem?_eq_getElem hib), toInt_int, int_bne, wrap_succ (show i < 9223372036854775807 by omega)]
      refine wp_dec (by omega) (wp_dec (by omega) (wp_dec (by omega) (wp_dec (by omega) (wp_dec (by omega) ?_))))
      have ed : b.drop i = b[i] :: b.drop (i + 1) := List.drop_eq_getElem_cons hib
      refine wp_decs (fun g => wp_ret ?_) (fun g => ?_)
      · rw [e5, ed, decide_eq_false (fun hh => g (by injection hh))]
      · refine Tree.wp_mono ih2 (fun ys hy => hy.trans ?_)
        rw [e5, ed, Classical.not_not.1 g]
        exact congrArg (fun z => [D.bool z]) (decide_eq_decide.2 ⟨fun hh => by rw [hh], fun hh => by injection hh⟩))
    (a.length + 1) 0 () (by omega) (by omega) trivial
  refine Tree.wp_mono key (fun ys hy => hy.trans ?_)
  rw [List.drop_zero, Nat.sub_self, List.drop_zero]
theorem ref21_Same_sp (a : Ex1) : FitsE a → ∀ b : Ex1, Sp 27 [dE a, dE b] [.bool (sameE a b)] := by
  induction a using Ex1.ind with
  | h k o s n t ks ih =>
    intro ha b
    have hk0 : (Ex1.mk k o s n t ks).kids = ks := rfl
    have hn := ha.num
    have ht := ha.text
    have hl := ha.len
    have hks := ha.kids
    rw [hk0] at hl hks
    generalize hA : Ex1.mk k o s n t ks = a at *
    refine sound_ (ks.length + 1) (ref21_Same_tree _ _ _) ?_
    simp only [dE_0, dE_1, dE_2, dE_3, dE_4, dE_5, toInt_int, int_bne, D.toStr, ba_beq, not_dec, hk0, els_sl, List.length_map]
    have no : a ≠ b → D.bool false = D.bool (sameE a b) := fun h => by rw [same_no h]
    refine wp_decs (fun h => wp_ret (by rw [no (fun hh => h (by rw [hh]))])) (fun g1 => wp_decs (fun h => wp_ret (by rw [no (fun hh => h (by rw [hh]))])) (fun g2 => wp_decs (fun h => wp_ret (by rw [no (fun hh => h (by rw [hh]))])) (fun g3 => wp_call (ref04_Same_sp a.n b.n (by omega) (by omega)) ?_)))
    simp only [getD_c0, toBool_bool, not_dec]
    refine wp_decs (fun h => wp_ret (by rw [no (fun hh => h (by rw [hh]))])) (fun g4 => wp_call (ref01_Ints_sp a.text b.text (by omega)) ?_)
    simp only [getD_c0, toBool_bool, not_dec]
    refine wp_decs (fun h => wp_ret (by rw [no (fun hh => h (by rw [hh]))])) (fun g5 => wp_decs (fun h => wp_ret (by rw [no (fun hh => h (by rw [← hh, hk0]))])) (fun g6 => ?_))
    have e1 := Classical.not_not.1 g1
    have e2 := Classical.not_not.1 g2
    have e3 := Classical.not_not.1 g3
    have e4 := Classical.not_not.1 g4
    have e7 := Classical.not_not.1 g5
    have hll : ks.length = b.kids.length := by omega
    have key := loop_list (P := Try.prog) (md := md) ks (fun m i (_ : Unit) => ref21_Same_l4 (ks.length + 1) m (i : Int) (dE a) (dE b)) (fun rest _ => [.bool (@decide (rest = b.kids.drop (ks.length - rest.length)) (Classical.propDecidable _))]) (fun _ _ => True)
      (fun m i _ hi _ => by
        simp only [ref21_Same_l4_succ, dE_5, hk0, els_sl, List.length_map]
        refine wp_ndec (by omega) (wp_ret ?_)
        rw [List.length_nil, Nat.sub_zero, hll, List.drop_length]; simp)
      (fun m i _ x rest hdr _ ih2 => by
        obtain ⟨q1, q2, q3⟩ := drop_cons hdr
        have hx := List.mem_of_getElem? q2
        have hle := congrArg List.length hdr
        rw [List.length_drop, List.length_cons] at hle
        have e5 : ks.length - (x :: rest).length = i := by rw [List.length_cons]; omega
        have e6 : ks.length - rest.length = i + 1 := by omega
        have hib : i < b.kids.length := by omega
        have ih2 := ih2 () trivial
        rw [e6] at ih2
        have hs := ih x hx (hks x hx) b.kids[i]
        simp only [ref21_Same_l4_succ, dE_5, hk0, els_sl, List.length_map, Int.toNat_natCast, getD_map q2, getD_map (List.getElem?_eq_getElem hib), wrap_succ (show i < 9223372036854775807 by omega)]
        refine wp_dec (by omega) (wp_dec (by omega) (wp_dec (by omega) (wp_dec (by omega) (wp_dec (by omega) (wp_call hs ?_)))))
        simp only [getD_c0, toBool_bool]
        have ed : b.kids.drop i = b.kids[i] :: b.kids.drop (i + 1) := List.drop_eq_getElem_cons hib
        refine wp_br (fun g => wp_ret ?_) (fun g => ?_)
        · have g : sameE x b.kids[i] = false := by simpa using g
          have hne : x ≠ b.kids[i] := fun hh => by rw [sameE_iff.2 hh] at g; cases g
          rw [e5, ed]
          refine congrArg (fun z => [D.bool z]) (@decide_eq_false _ (Classical.propDecidable _) (fun hh => hne ?_)).symm
          injection hh
        · have g : sameE x b.kids[i] = true := by simpa using g
          have he := sameE_iff.1 g
          refine Tree.wp_mono ih2 (fun ys hy => hy.trans ?_)
          rw [e5, ed]
          refine congrArg (fun z => [D.bool z]) (@decide_eq_decide _ _ (Classical.propDecidable _) (Classical.propDecidable _) |>.2 ?_)
          rw [he]
          exact ⟨fun hh => by rw [hh], fun hh => by injection hh⟩)
      (ks.length + 1) 0 () (by omega) (by omega) trivial
    refine Tree.wp_mono key (fun ys hy => hy.trans ?_)
    rw [List.drop_zero, Nat.sub_self, List.drop_zero]
    unfold sameE
    refine congrArg (fun z => [D.bool z]) (@decide_eq_decide _ _ (Classical.propDecidable _) (Classical.propDecidable _) |>.2 ⟨fun hh => ex_ext e1 e2 e3 e4 e7 (by rw [hk0]; exact hh), fun hh => by rw [← hh, hk0]⟩)
end Go.Proofs.Ytcdjifdllibolaa

set_option maxRecDepth 100000
namespace Go.Proofs.Ytcdjifdllibolaa
/-! scrim/scrimlaw21.TreeSame -/
def law21_TreeSame_orc : List (Nat × Orc) := []
theorem law21_TreeSame_tree (n : Nat) (a0 : D) (b1 : D) : evFun Try.prog md law21_TreeSame_orc n 5 [] [a0, b1] =
 .call 22 [] [a0] fun yy1 =>
 .br (!((yy1.getD 0 D.nil).toBool)) (.call 21 [] [] fun yy2 =>
 .ret [D.bool ((yy2.getD 0 D.nil).toBool)])
 (.call 22 [] [b1] fun yy3 =>
 .br (!((yy3.getD 0 D.nil).toBool)) (.call 21 [] [] fun yy4 =>
 .ret [D.bool ((yy4.getD 0 D.nil).toBool)])
 (.call 26 [] [a0, b1] fun yy5 =>
 .call 27 [] [a0, b1] fun yy6 =>
 .br (((yy5.getD 0 D.nil).toBool) == ((yy6.getD 0 D.nil).toBool)) (.call 26 [] [b1, a0] fun yy7 =>
 .call 27 [] [a0, b1] fun yy8 =>
 .br (((yy7.getD 0 D.nil).toBool) == ((yy8.getD 0 D.nil).toBool)) (.call 26 [] [a0, a0] fun yy9 =>
 .br ((yy9.getD 0 D.nil).toBool) (.call 21 [] [] fun yy10 =>
 .ret [D.bool ((yy10.getD 0 D.nil).toBool)])
 (.ret [D.bool false]))
 (.ret [D.bool false]))
 (.ret [D.bool false]))) := by kernel_rfl

/-! scrim/scrimlaw21.awake -/
def law21_awake_orc : List (Nat × Orc) := []
theorem law21_awake_tree (n : Nat)  : evFun Try.prog md law21_awake_orc n 21 [] [] =
 .call 32 [] [D.int 5] fun yy1 =>
 .call 23 [] [D.agg [D.int 1, D.int 0, D.str ByteArray.empty, yy1.getD 0 D.nil, D.sl [], D.sl []]] fun yy2 =>
 .br ((yy2.getD 0 D.nil).toBool) (.call 23 [] [D.agg [D.int 8, D.int 0, D.str ByteArray.empty, D.agg [D.bool false, D.sl [], D.sl []], D.sl [], D.sl [D.agg [D.int 1, D.int 0, D.str ByteArray.empty, yy1.getD 0 D.nil, D.sl [], D.sl []]]]] fun yy3 =>
 .br (!((yy3.getD 0 D.nil).toBool)) (.call 25 [] [D.agg [D.int 1, D.int 0, D.str ByteArray.empty, yy1.getD 0 D.nil, D.sl [], D.sl []]] fun yy4 =>
 .ret [D.bool (((yy4.getD 0 D.nil).toInt) == 1)])
 (.ret [D.bool false]))
 (.ret [D.bool false]) := by kernel_rfl

end Go.Proofs.Ytcdjifdllibolaa

set_option maxRecDepth 100000
namespace Go.Proofs.Ytcdjifdllibolaa
section
open Go.ChangeShapes Go.WideShapes Go.ChangeAt Go.RowKit
variable {H : Type} {enc : TypeId × Value → H} {W : World} {sp : Nat → Bool} {held : Bool} {r : Reach} {b0 : Nat} {v : Value} {d : DataW H} {ps : List MemPlace}
end
def five : Ex1 := .mk 1 0 ByteArray.empty (ofZ 5) [] []
def strand : Ex1 := .mk 8 0 ByteArray.empty .zero [] [five]
theorem five_lim : (ofZ 5).top.length ≤ 4 ∧ (ofZ 5).bot.length ≤ 4 := by
  refine ⟨?_, by simp [ofZ]⟩
  show (lb 5).length ≤ 4
  have : (lb 5).length ≤ 1 := lb_len.2 (by decide)
  omega
theorem lb_one21 : lb 1 = [1] := by rw [lb_pos (by decide), show 1 / B = 0 by decide, lb_zero]; rfl
theorem five_rn : rightN (ofZ 5) = true := by
  have hl := five_lim.1
  have h1 : trimD (lb 5) = true := trimD_lb (by have : (lb 5).length ≤ 4 := hl; omega)
  refine (rightN_form (ofZ 5)).2 ⟨h1, by show trimD [1] = true; rw [← lb_one21]; exact trimD_lb (by rw [lb_one21]; decide), by simp [ofZ], fun h => by simp [ofZ] at h, ?_⟩
  show Nat.gcd (nv (lb 5)) (nv [1]) = 1
  rw [nv_lb, ← lb_one21, nv_lb]; rfl
theorem five_fits : FitsE five := .mk (by decide) ⟨by have := five_lim.1; omega, by have := five_lim.2; omega⟩ (by simp) (by simp) ⟨⟨by decide, by decide⟩, by decide, by decide⟩ (fun x hx => by cases hx)
theorem strand_fits : FitsE strand := .mk (by decide) ⟨by decide, by decide⟩ (by simp) (by simp) ⟨⟨by decide, by decide⟩, by decide, by decide⟩ (fun x hx => by
  rcases List.mem_cons.1 hx with rfl | hx
  · exact five_fits
  · cases hx)
theorem five_right : rigE five = true := by
  unfold rigE
  have h1 : depE five = 1 := by rw [depE_eq]; rfl
  have h2 : cntE five = 1 := by rw [cntE_eq]; rfl
  rw [h1, h2, allE_eq, one_eq]
  have h3 : heldB five = true := by
    have : heldB five = (rightN (ofZ 5) && (decide ((([] : List Int).length : Int) = 0) && (decide (ByteArray.empty.data.toList = []) && decide ((0 : Int) = 0)))) := rfl
    rw [this, five_rn]; rfl
  rw [h3]; rfl
theorem strand_wrong : rigE strand = false := by
  unfold rigE
  have h4 : allE strand = false := by
    rw [allE_eq, one_eq]
    have : madeB strand = false := rfl
    rw [this, Bool.and_false, Bool.false_and]
  rw [h4, Bool.and_false, Bool.and_false]
theorem five_D : D.agg [D.int 1, D.int 0, D.str ByteArray.empty, dN (ofZ 5), D.sl [], D.sl []] = dE five := by rw [dE_eq]; rfl
theorem strand_D : D.agg [D.int 8, D.int 0, D.str ByteArray.empty, D.agg [D.bool false, D.sl [], D.sl []], D.sl [], D.sl [dE five]] = dE strand := by rw [dE_eq strand]; rfl
theorem law21_awake_sp : Sp 21 [] [.bool true] := by
  refine sound_ 0 (law21_awake_tree _) (wp_call (ref04_Of_sp 5 (by unfold inR; omega)) ?_)
  simp only [getD_c0, five_D, strand_D]
  have s1 := tree_Right_sp five five_fits
  have s2 := tree_Right_sp strand strand_fits
  have s3 := tree_Count_sp five (by rw [cntE_eq]; decide)
  rw [five_right] at s1
  rw [strand_wrong] at s2
  refine wp_call s1 (wp_tt rfl (wp_call s2 (wp_tt rfl (wp_call s3 (wp_ret ?_)))))
  rw [show cntE five = 1 by rw [cntE_eq]; rfl]; rfl
theorem awake21 : Tw (.call 21 [] [] fun y => .ret [D.bool ((y.getD 0 D.nil).toBool)]) [.bool true] := wp_call law21_awake_sp (wp_ret rfl)
theorem wp_beq {a : Bool} {t e : Tree} {ys : List D} (h : Tw t ys) : Tw (.br (a == a) t e) ys := wp_tt (by cases a <;> rfl) h
theorem treeSame_sp (a b : Ex1) (ha : FitsE a) (hb : FitsE b) : Sp 5 [dE a, dE b] [.bool true] := by
  refine sound_ 0 (law21_TreeSame_tree _ _ _) (wp_call (ref21_Few_sp a ha) (wp_br (fun _ => awake21) (fun _ => wp_call (ref21_Few_sp b hb) (wp_br (fun _ => awake21) (fun _ => ?_)))))
  have hba := tree_Same_sp b hb a
  have e : sameE b a = sameE a b := by
    cases h : sameE a b with
    | true => exact sameE_iff.2 (sameE_iff.1 h).symm
    | false => exact same_no (fun hh => by rw [sameE_iff.2 hh.symm] at h; cases h)
  rw [e] at hba
  refine wp_call (tree_Same_sp a ha b) (wp_call (ref21_Same_sp a ha b) (wp_beq (wp_call hba (wp_call (ref21_Same_sp a ha b) (wp_beq (wp_call (tree_Same_sp a ha a) (wp_tt (sameE_iff.2 rfl) awake21)))))))
end Go.Proofs.Ytcdjifdllibolaa

set_option maxRecDepth 100000
namespace Go.Proofs.Ytcdjifdllibolaa
open Go.ChangeShapes Go.WideShapes Go.ChangeAt Go.RowKit

set_option maxRecDepth 100000 in
theorem treeSame_lifted (os : Os) (started : os.Started) (H : Type) (enc : TypeId × Value → H) :
    ReturnsInHanded {} Try.checked os 5 .any (Rows.treeSameSpec.pre6 enc Try.prog Try.f5 Rows.treeSameRow.domain false) (Rows.treeSameSpec.post enc Try.prog Try.f5 false true false false) := by
  refine returnsInHanded_of_change_sized (C := Try.checked) knob started (by kernel_rfl) Try.func5
    (ChangeSpec.witness6 (enc := enc) (C := Try.checked) false ⟨#[], #[.agg #[.int .i64 0, .int .i64 0, .string ByteArray.empty, .bool false, .slice none 0 0, .slice none 0 0, .slice none 0 0, .slice none 0 0], .agg #[.int .i64 0, .int .i64 0, .string ByteArray.empty, .bool false, .slice none 0 0, .slice none 0 0, .slice none 0 0, .slice none 0 0]], []⟩ 16 (by kernel_rfl) (by kernel_rfl) (by kernel_rfl) (by kernel_rfl)) ?_
  intro W base args ds gs before hval0 hW hcnd hwt0 _
  have hval : ∀ (j : Nat) t v, Try.f5.params[j]? = some t → args[j]? = some v → Value.okWide Try.prog W .any base t v := hval0
  have hW' := hW
  obtain ⟨p, q, hA0, hV, rfl, hfz, hnd⟩ := hW
  have hA : DataW.TrodAll enc Try.prog W 0 (fun _ => true) true Try.f5.params.toList args.toList ds p := hA0
  rw [Try.params5] at hA hval
  obtain ⟨v0, vs0, d0, ds0, p0, q0, hargs, rfl, rfl, h0, r0⟩ := trodAll_cons hA
  obtain ⟨v1, vs1, d1, ds1, p1, q1, rfl, rfl, rfl, h1, r1⟩ := trodAll_cons r0
  obtain ⟨rfl, rfl, rfl⟩ := trodAll_nil r1
  obtain rfl : args = #[v0, v1] := by cases args; simp_all
  have hwt : ∀ (j t : Nat) d, (Try.f5.params.toList)[j]? = some t → ([d0, d1])[j]? = some d → ∀ z ∈ DataW.weights Try.prog t d, z ≤ reachBytes := fun j t d ht hd z hz => by
    have hl := (List.getElem?_eq_some_iff.1 ht).1
    have hl2 := (List.getElem?_eq_some_iff.1 hd).1
    have := List.all_eq_true.1 hwt0 z (DataW.weights_mem_each (j := j) (t := t) (d := d) (by rw [List.getElem?_append_left hl]; exact ht) (by rw [List.getElem?_append_left hl2]; exact hd) z hz)
    simpa using this
  obtain ⟨x0, hx0, hr0⟩ := arg_expr (hval 0 33 v0 rfl rfl) h0 (hwt 0 _ _ rfl rfl)
  obtain ⟨x1, hx1, hr1⟩ := arg_expr (hval 1 33 v1 rfl rfl) h1 (hwt 1 _ _ rfl rfl)
  refine (law_calls (vs := [v0, v1]) (treeSame_sp x0 x1 hx0 hx1) Try.func5 (by kernel_rfl) (by kernel_rfl) Try.underlying4 rfl rfl ?_).mono fun e W' ⟨he, hx⟩ => ⟨_, he, law_post laidOut hW' rfl (by kernel_rfl) Try.underlying4 rfl (by kernel_rfl) hx⟩
  intro i t x v ht hx hv
  match i with
  | 0 => cases (show some 33 = some t from ht); cases hx; cases hv; exact hr0
  | 1 => cases (show some 33 = some t from ht); cases hx; cases hv; exact hr1
  | i + 2 => cases hx

theorem treeSame_holds : Rows.TreeSameSaid :=
  OpenClaim.holds_of_wide 5 Try.f5 rfl rfl rfl rfl rfl rfl rfl ⟨rfl, rfl, rfl, rfl, rfl⟩ rfl rfl rfl rfl rfl (by kernel_rfl) Try.func5 (by kernel_rfl)
    (of_decide_eq_true (by kernel_rfl)) (by unfold Func.isWrapper; first | (rw [if_pos (by decide +kernel)]; kernel_rfl) | (rw [if_neg (by decide +kernel)]; exact ⟨rfl, rfl⟩))
    (fun os started H enc _ => treeSame_lifted os started H enc)

end Go.Proofs.Ytcdjifdllibolaa

