/- Proved: lemmas for the law of this folder, part 3. No condition. -/
import Derived.Test.YtcdjifdllibolaaRows
import Derived.WalkKit
import Derived.WalkSpells
import Derived.WalkLawsBesides
import Derived.Lib.Hide
import Derived.Laws.CopyOwn
import Derived.Deep.QuietTactic
import Derived.BigQuiet
import Derived.Orders
import Derived.Defers
import Derived.ProofKit
import Derived.OpenShut
import Derived.Recover
import Derived.Test.YtcdjifdllibolaaProg
import Derived.KernelRfl
import Derived.Test.YtcdjifdllibolaaZ59407546
set_option linter.unusedSimpArgs false
set_option linter.unusedVariables false
namespace Go.Proofs.Ytcdjifdllibolaa
open Go.RowKit

theorem aheadBits_eq (ops : Array Oper) : aheadBits ops.toList = aheads ops ops.size := by
  have key : ∀ k, k ≤ ops.size → (ops.toList.take k).foldl (fun acc o => acc ++ [o.after.toList.foldl (fun s e => bif Region.binds .any e then s ||| 2 ^ e.on ||| acc.getD e.on 0 else s) 0]) [] = aheads ops k := by
    intro k
    induction k with
    | zero => intro _; rfl
    | succ k ih =>
      intro hk
      have hk' : k < ops.toList.length := by rw [Array.length_toList]; omega
      rw [List.take_add_one, List.getElem?_eq_getElem hk', Option.toList_some, List.foldl_append, ih (by omega)]
      simp only [List.foldl_cons, List.foldl_nil, aheads]
      rw [Array.getElem?_eq_getElem (by omega), Option.map_some, Option.getD_some, Array.getElem_toList]
      congr 2
      congr 1
      funext s e
      cases Region.binds .any e <;> rfl
  have := key ops.size (Nat.le_refl _)
  rw [List.take_of_length_le (by simp)] at this
  exact this
theorem chkTr_go {bs : List Nat} {a : Tr} {i : Nat} : ∀ {trs : List Tr} {j : Nat}, chkTr.go bs i a j trs = true → ∀ (q : Nat) (b : Tr), trs[q]? = some b → a.clash b = true → (bs.getD (j + q) 0).testBit i = true
  | [], _, _, q, b, hb, _ => by simp at hb
  | b0 :: trs, j, h, q, b, hb, hc => by
    simp only [chkTr.go, Bool.and_eq_true, Bool.or_eq_true, Bool.not_eq_true'] at h
    cases q with
    | zero =>
      simp at hb; subst hb
      rcases h.1 with h1 | h1
      · rw [hc] at h1; cases h1
      · simpa using h1
    | succ q =>
      have := chkTr_go h.2 q b (by simpa using hb) hc
      rwa [show j + 1 + q = j + (q + 1) by omega] at this
theorem chkTr_spec {bs : List Nat} : ∀ {trs : List Tr} {k : Nat}, chkTr bs k trs = true → ∀ (i j : Nat) (a b : Tr), i < j → trs[i]? = some a → trs[j]? = some b → a.clash b = true → (bs.getD (k + j) 0).testBit (k + i) = true
  | [], _, _, i, j, a, b, _, ha, _, _ => by simp at ha
  | t :: trs, k, h, i, j, a, b, hij, ha, hb, hc => by
    simp only [chkTr, Bool.and_eq_true] at h
    cases j with
    | zero => omega
    | succ j =>
      cases i with
      | zero =>
        simp at ha; subst ha
        have := chkTr_go h.2 j b (by simpa using hb) hc
        rwa [show k + 1 + j = k + (j + 1) by omega] at this
      | succ i =>
        have := chkTr_spec h.1 i j a b (by omega) (by simpa using ha) (by simpa using hb) hc
        rwa [show k + 1 + j = k + (j + 1) by omega, show k + 1 + i = k + (i + 1) by omega] at this
theorem clash_sw {a b : Tr} {x : Nat} (h1 : x ∈ a.sw) (h2 : x ∈ b.sr ∨ x ∈ b.sw) : a.clash b = true := by
  simp only [Tr.clash, Bool.or_eq_true, List.any_eq_true, List.contains_iff_mem]
  exact .inl (.inl (.inl ⟨x, h1, h2⟩))
theorem clash_sr {a b : Tr} {x : Nat} (h1 : x ∈ a.sr) (h2 : x ∈ b.sw) : a.clash b = true := by
  simp only [Tr.clash, Bool.or_eq_true, List.any_eq_true, List.contains_iff_mem]
  exact .inl (.inl (.inr ⟨x, h1, h2⟩))
theorem clash_hw {a b : Tr} {x : Nat} (h1 : x ∈ a.hw) (h2 : x ∈ b.hr ∨ x ∈ b.hw) : a.clash b = true := by
  simp only [Tr.clash, Bool.or_eq_true, List.any_eq_true, List.contains_iff_mem]
  exact .inl (.inr ⟨x, h1, h2⟩)
theorem clash_hr {a b : Tr} {x : Nat} (h1 : x ∈ a.hr) (h2 : x ∈ b.hw) : a.clash b = true := by
  simp only [Tr.clash, Bool.or_eq_true, List.any_eq_true, List.contains_iff_mem]
  exact .inr ⟨x, h1, h2⟩

section
variable {P : Program} {md : Nat → FMode} {w0 w w' : World} {N0 M0 M : Nat → Prop} {pv : Nat → Value} {ds : Dfs} {β : Nat → Value} {a : Act} {n : Nat} {ops : Array Oper}
/-- ████ In any order. -/
theorem many_any (hP : WfP P) {Q : Exit → Act → World → Prop} {s s' : St} {es : List E} (hm : Many P md ops ops.toList s es s') (hc : chkDraw ops (es.map (·.tr)) = true) (hu : ∀ r b, s.look r = some b → r ∈ s.used) (hQ : ∀ β a w, RS P md w0 N0 M0 pv s' β a w → Q .normal a w) :
    ∀ (fuel : Nat) (l : Array Bool) (β : Nat → Value) (a : Act) (w : World), l.size = ops.size → left_ ops.size l ≤ fuel → (∀ (j : Nat) (o : Oper), l.getD j false = true → ops[j]? = some o → ∀ e ∈ o.after, Region.binds .any e = true → l.getD e.on false = true) →
      R P md w0 N0 M0 (replay s.tmps.length (fun j => l.getD j false) 0 es s.fs).slot (replay s.tmps.length (fun j => l.getD j false) 0 es s.fs).look (replay s.tmps.length (fun j => l.getD j false) 0 es s.fs).used ⟨s.dp, pv⟩ s.tmps.length β a w → wpAny P .any ops Q fuel l a w := by
  simp only [chkDraw, chkOps, Bool.and_eq_true, List.all_eq_true, List.mem_range] at hc
  obtain ⟨⟨_, hedge⟩, htr⟩ := hc
  have hlen : es.length = ops.size := by rw [many_len hm]; simp
  have hed : ∀ (i : Nat) (o : Oper), ops[i]? = some o → ∀ e ∈ o.after, Region.binds .any e = true → e.on < i := by
    intro i o ho e he hb
    have h := hedge i (Array.getElem?_eq_some_iff.1 ho).1
    rw [ho, Option.map_some, Option.getD_some] at h
    have := Array.all_eq_true_iff_forall_mem.1 h e he
    simpa [hb] using this
  rw [aheadBits_eq] at htr
  have ord : ∀ (i j : Nat) (a b : E), i < j → es[i]? = some a → es[j]? = some b → a.tr.clash b.tr = true → ((aheads ops (j + 1)).getD j 0).testBit i = true := by
    intro i j a b hij ha hb hcl
    have := chkTr_spec htr i j a.tr b.tr hij (by rw [List.getElem?_map, ha]; rfl) (by rw [List.getElem?_map, hb]; rfl) hcl
    have hj : j < ops.size := by rw [← hlen]; exact (List.getElem?_eq_some_iff.1 hb).1
    simp only [Nat.zero_add] at this
    rw [aheads_at ops j ops.size hj] at this
    rw [aheads_at ops j (j + 1) (by omega)]
    exact this
  have getD_tf : ∀ (l : Array Bool) (i : Nat), l.size = ops.size → i < ops.size → (l.getD i true = l.getD i false) := by
    intro l i hl hi
    rw [Array.getD_eq_getD_getElem?, Array.getD_eq_getD_getElem?, Array.getElem?_eq_getElem (by omega)]; rfl
  -- all have come up
  have allDone : ∀ (l : Array Bool) (β : Nat → Value) (a : Act) (w : World), (∀ j, j < ops.size → l.getD j false = true) → R P md w0 N0 M0 (replay s.tmps.length (fun j => l.getD j false) 0 es s.fs).slot (replay s.tmps.length (fun j => l.getD j false) 0 es s.fs).look (replay s.tmps.length (fun j => l.getD j false) 0 es s.fs).used ⟨s.dp, pv⟩ s.tmps.length β a w → Q .normal a w := by
    intro l β a w hall h
    have he : replay s.tmps.length (fun j => l.getD j false) 0 es s.fs = replay s.tmps.length (fun _ => true) 0 es s.fs := replay_congr (fun j hj => by simp only [Nat.zero_add]; exact hall j (by omega))
    rw [he] at h
    obtain ⟨g1, g2, g3, g4, g5⟩ := many_end hm hu (f := s.fs) rfl rfl (fun r hr => hr)
    refine hQ β a w ?_
    show R P md w0 N0 M0 s'.slot s'.look (fun r => r ∈ s'.used) ⟨s'.dp, pv⟩ s'.tmps.length β a w
    rw [g1, g2, ← g3, ← g4]
    exact h.weak g5
  intro fuel
  induction fuel with
  | zero =>
    intro l β a w hl hleft hdown h
    have hall : ∀ j, j < ops.size → l.getD j false = true := by
      intro j hj
      cases hx : l.getD j false with
      | true => rfl
      | false =>
        have hp := List.countP_pos_iff (p := fun j => !l.getD j true) (l := List.range ops.size) |>.2 ⟨j, List.mem_range.2 hj, by rw [getD_tf l j hl hj, hx]; rfl⟩
        unfold left_ at hleft
        omega
    refine ⟨?_, allDone l β a w hall h⟩
    cases hr : Region.ready .any ops l with
    | nil => rfl
    | cons x xs =>
      obtain ⟨hun, o, ho, _⟩ := mem_ready.1 (show x ∈ Region.ready .any ops l by rw [hr]; simp)
      have hx := (Array.getElem?_eq_some_iff.1 ho).1
      rw [getD_tf l x hl hx, hall x hx] at hun
      cases hun
  | succ fuel ih =>
    intro l β a w hl hleft hdown h
    refine ⟨fun hr => ?_, fun i hi => ?_⟩
    · refine allDone l β a w ?_ h
      have hall : ∀ n, n ≤ ops.size → ∀ i, i < n → l.getD i false = true := by
        intro n
        induction n with
        | zero => intro _ i hi; omega
        | succ n ihn =>
          intro hn i hi
          rcases Nat.lt_or_ge i n with h | h
          · exact ihn (by omega) i h
          · obtain rfl : i = n := by omega
            cases hx : l.getD i false with
            | true => rfl
            | false =>
              have : i ∈ Region.ready .any ops l := mem_ready.2 ⟨by rw [getD_tf l i hl (by omega)]; exact hx, ops[i]'(by omega), Array.getElem?_eq_getElem (by omega), fun e he hb => ihn (by omega) e.on (hed i _ (Array.getElem?_eq_getElem (by omega)) e he hb)⟩
              rw [hr] at this; cases this
      exact fun j hj => hall ops.size (Nat.le_refl _) j hj
    · obtain ⟨hun, o, ho, haft⟩ := mem_ready.1 hi
      have his : i < ops.size := (Array.getElem?_eq_some_iff.1 ho).1
      have hli : l.getD i false = false := by rw [← getD_tf l i hl his]; exact hun
      have hei : es[i]? = some (es[i]'(by omega)) := List.getElem?_eq_getElem (by omega)
      generalize es[i]'(by omega) = e at hei
      obtain ⟨si, s1, hone, k1, k2, k3, k4⟩ := many_at hm hu (f := s.fs) rfl rfl (fun r hr => hr) (show ops.toList[i]? = some o by simpa using ho) hei
      obtain ⟨_, _, _, _, _, _, t1, t2, t3, t4, t5⟩ := one_st hone
      have trs : ∀ (j : Nat) (ej : E), es[j]? = some ej → ej.tr.sw = ej.dst.toList ∧ ej.tr.hw = ej.made ++ ej.eff.map (·.1) := by
        intro j ej hej
        have hj : j < ops.size := by rw [← hlen]; exact (List.getElem?_eq_some_iff.1 hej).1
        obtain ⟨sj, s1j, honej, _⟩ := many_at hm hu (f := s.fs) rfl rfl (fun r hr => hr) (show ops.toList[j]? = some (ops[j]'hj) by simp [hj]) hej
        obtain ⟨_, _, _, _, _, _, _, q2, q3, _⟩ := one_st honej
        exact ⟨q2, q3⟩
      -- those that have come up, and those ahead in the text
      have before : ∀ (j : Nat) (ej : E), j < i → es[j]? = some ej → ej.tr.clash e.tr = true → l.getD j false = true := fun j ej hj hej hcl =>
        aheads_listed hdown i o ho haft (hed i o ho) (fun j o' _ ho' => hed j o' ho') j (ord j i ej e hj hej hei hcl)
      have behind : ∀ (j : Nat) (ej : E), i < j → es[j]? = some ej → e.tr.clash ej.tr = true → l.getD j false = false := fun j ej hj hej hcl => by
        cases hx : l.getD j false with
        | false => rfl
        | true =>
          have hjs : j < ops.size := by rw [← hlen]; exact (List.getElem?_eq_some_iff.1 hej).1
          have := aheads_listed hdown j (ops[j]'hjs) (Array.getElem?_eq_getElem hjs) (hdown j _ hx (Array.getElem?_eq_getElem hjs)) (hed j _ (Array.getElem?_eq_getElem hjs)) (fun j o' _ ho' => hed j o' ho') i (ord i j e ej hj hei hej hcl)
          rw [hli] at this; cases this
      have agree : ∀ (X : E → Prop), (∀ (j : Nat) (ej : E), es[j]? = some ej → X ej → (j < i → ej.tr.clash e.tr = true) ∧ (i < j → e.tr.clash ej.tr = true)) → ∀ (j : Nat) (ej : E), es[j]? = some ej → (l.getD (0 + j) false = decide (0 + j < i)) ∨ ¬ X ej := by
        intro X hX j ej hej
        simp only [Nat.zero_add]
        by_cases hx : X ej
        · obtain ⟨x1, x2⟩ := hX j ej hej hx
          refine .inl ?_
          rcases Nat.lt_trichotomy j i with hji | hji | hji
          · rw [before j ej hji hej (x1 hji)]; simp [hji]
          · subst hji; rw [hli]; simp
          · rw [behind j ej hji hej (x2 hji)]
            have : ¬ j < i := by omega
            simp [this]
        · exact .inr hx
      unfold wpOp
      simp only [ho]
      refine one_run hP hone h (fun t ht => ?_) (fun q hq => ?_) (fun q hq hus => ?_) (congrArg Prod.snd k4).symm (fun v w' β' h' => ?_)
      · rw [← k1]
        refine slot_agree rfl (agree (fun ej => t ∈ ej.dst.toList) (fun j ej hej hx => ⟨fun _ => clash_sw (by rw [(trs j ej hej).1]; exact hx) (.inl ht), fun _ => clash_sr ht (by rw [(trs j ej hej).1]; exact hx)⟩))
      · rw [← k2]
        refine look_agree rfl (agree (fun ej => q ∈ ej.eff.map (·.1)) (fun j ej hej hx => ⟨fun _ => clash_hw (by rw [(trs j ej hej).2]; exact List.mem_append_right _ hx) (.inl hq), fun _ => clash_hr hq (by rw [(trs j ej hej).2]; exact List.mem_append_right _ hx)⟩))
      · refine t5 q hq ?_
        rcases used_in hus with h1 | ⟨j, ej, h1, h2, b, h3⟩
        · exact k3 q (used_keep h1)
        · simp only [Nat.zero_add] at h2
          rcases Nat.lt_trichotomy j i with hji | hji | hji
          · exact k3 q (used_of h1 (by simpa using hji) h3)
          · subst hji; rw [hli] at h2; cases h2
          · have := behind j ej hji h1 (clash_hw (x := q) (by rw [t3]; exact List.mem_append_left _ hq) (.inr (by rw [(trs j ej h1).2]; exact List.mem_append_right _ (List.mem_map.2 ⟨_, h3, rfl⟩))))
            rw [h2] at this; cases this
      · have hS : (fun j => (l.setIfInBounds i true).getD j false) = updN (fun j => l.getD j false) (0 + i) true := by
          funext j
          simp only [updN, Nat.zero_add]
          by_cases hji : j = i
          · subst hji; simp [hl, his]
          · rw [if_neg hji, getD_set_ne false (Ne.symm hji)]
        have hrep := replay_ins (n := s.tmps.length) (S := fun j => l.getD j false) (f := s.fs) (k := 0) hei (by simpa using hli) (fun j ej hij hej hSj => ⟨fun t ht ht' => ?_, fun q hq hq' => ?_⟩)
        · refine ih _ β' _ _ (by simpa using hl) ?_ (fun j o' hj ho' e' he' hb' => ?_) ?_
          · have : left_ ops.size (l.setIfInBounds i true) < left_ ops.size l := by
              refine countP_lt _ _ (fun x hx => ?_) i (by simp only [hun]; rfl) ?_ _ (List.mem_range.2 his)
              · by_cases hxi : i = x
                · subst hxi; simp only [hun]; rfl
                · rw [getD_set_ne true hxi] at hx; exact hx
              · simp [hl, his]
            omega
          · refine getD_set_true ?_
            by_cases hji : j = i
            · subst hji
              rw [ho] at ho'
              injection ho' with ho'
              subst ho'
              exact haft e' he' hb'
            · rw [getD_set_ne false (Ne.symm hji)] at hj
              exact hdown j o' hj ho' e' he' hb'
          · rw [hS, hrep]
            exact h'
        · have := behind j ej hij hej (clash_sw (x := t) (by rw [t2]; exact ht) (.inr (by rw [(trs j ej hej).1]; exact ht')))
          simp only [Nat.zero_add] at hSj
          rw [hSj] at this; cases this
        · have := behind j ej hij hej (clash_hw (x := q) (by rw [t3]; exact List.mem_append_right _ hq) (.inr (by rw [(trs j ej hej).2]; exact List.mem_append_right _ hq')))
          simp only [Nat.zero_add] at hSj
          rw [hSj] at this; cases this
/-- ████ A region. -/
theorem region_wp (hP : WfP P) (hmix : P.follows .mixedOrders = true) {Q : Exit → Act → World → Prop} {id : Nat} {draw : Bool} {s : St} {Φ : List D → Prop} {K : Ex → St → Tree} (h : RS P md w0 N0 M0 pv s β a w) (ht : (evOps P md ops ops.toList 0 s [] (regK ops draw K)).wp P md Φ)
    (hQ : ∀ s' β a w, (K .normal s').wp P md Φ → RS P md w0 N0 M0 pv s' β a w → Q .normal a w) : (Code.region id ops draw).wp P Q a w := by
  obtain ⟨es, s', hm, hk⟩ := evOps_many ht
  simp only [List.reverse_nil, List.nil_append, regK] at hk
  cases draw with
  | false =>
    have := many_seq (k := 0) hP hm (by simp) h (fun β a w h' => hQ s' β a w hk h')
    rw [Nat.sub_zero, ← List.range_eq_range'] at this
    exact wp_region this
  | true =>
    simp only [cond_true] at hk
    cases hcd : chkDraw ops (es.map (·.tr)) with
    | false => rw [hcd] at hk; exact hk.elim
    | true =>
      rw [hcd] at hk
      refine wp_region_any hmix (many_any hP hm hcd h.hu (fun β a w h' => hQ s' β a w hk h') ops.size _ β a _ (by simp) ?_ (fun j o hj => ?_) ?_)
      · exact Nat.le_trans List.countP_le_length (by simp)
      · have hjs : ¬ ((Array.replicate ops.size false).getD j false = true) := by
          rw [Array.getD_eq_getD_getElem?, Array.getElem?_replicate]; split <;> simp
        exact absurd hj hjs
      · rw [replay_none (fun j _ => by rw [Array.getD_eq_getD_getElem?, Array.getElem?_replicate]; split <;> rfl)]
        exact h.grow ⟨rfl, rfl, rfl, Nat.le_refl _, fun _ _ => rfl⟩
theorem deferAt_ops {draw : Bool} {o0 o1 : Oper} {g : Operand} (h : deferAt ops draw = some (o0, o1, g)) : ops = #[o0, o1] ∧ draw = false ∧ deferOf o1.op = some g ∧ o1.guard = none ∧ o1.dst = none := by
  unfold deferAt at h
  split at h
  · rename_i p q hops
    split at h
    · rename_i g' hg
      split at h
      · rename_i hgu hds
        simp only [Option.some.injEq, Prod.mk.injEq] at h
        obtain ⟨rfl, rfl, rfl⟩ := h
        exact ⟨by rw [← Array.toList_inj]; exact hops, rfl, hg, hgu, hds⟩
      · cases h
    · cases h
  · cases h
/-- A region that defers a call. -/
theorem region_defer (hP : WfP P) {Q : Exit → Act → World → Prop} {id : Nat} {draw : Bool} {o0 o1 : Oper} {g : Operand} {s : St} {Φ : List D → Prop} {K : Ex → St → Tree} (hd : deferAt ops draw = some (o0, o1, g)) (h : RS P md w0 N0 M0 pv s β a w) (ht : (evOps P md ops [o0] 0 s [] (deferK md g K)).wp P md Φ)
    (hQ : ∀ s' β a w, (K .normal s').wp P md Φ → RS P md w0 N0 M0 pv s' β a w → Q .normal a w) : (Code.region id ops draw).wp P Q a w := by
  obtain ⟨rfl, rfl, hg, hgu, hds⟩ := deferAt_ops hd
  obtain ⟨es, s', hm, hk⟩ := evOps_many ht
  cases hm with
  | @cons _ _ _ s1 _ e _ ho hr =>
    cases hr
    refine wp_region ?_
    show wpOps P #[o0, o1] Q [0, 1] a w
    unfold wpOps
    refine one_run hP ho h (fun _ _ => rfl) (fun _ _ => rfl) (fun q hq => (one_st ho).2.2.2.2.2.2.2.2.2.2 q hq) rfl (fun v w' β' h' => ?_)
    have h1 : RS P md w0 N0 M0 pv s' β' (a.put o0.dst v) w' := rs_step ho h.hu h'
    generalize a.put o0.dst v = a1 at h1
    simp only [deferK] at hk
    split at hk
    · rename_i f caps hf
      cases hno : (md f).noop with
      | false => rw [hno] at hk; exact hk.elim
      | true =>
        rw [hno] at hk
        have hv := opd_vl h1 g
        rw [hf] at hv
        obtain ⟨vs, hvs, hlen, _⟩ := vl_fn hv
        unfold wpOps
        change (if Region.wanted o1 (yielded #[o0, o1] a1.tmps) then o1.wp P a1 w' (wpOps P #[o0, o1] Q []) Q ∨ (o1.asks P a1 w' ∧ LetsOut Q) else _)
        rw [if_pos (by unfold Region.wanted; rw [hgu])]
        refine .inl ?_
        have hrun : (execOp a1.eval o1).run P w' = .ok (.defer { target := .fn (.func f) vs, args := #[] }) w' := by
          unfold deferOf at hg
          split at hg
          · rename_i c hc
            split at hg
            · rename_i g' hcal
              split at hg
              · rename_i hemp
                injection hg with hg
                subst hg
                have hargs : c.args = #[] := by simpa using hemp
                simp [execOp, hc, resolve, hcal, hvs, hargs, Deferred.ofValue]
              · cases hg
            · cases hg
          · cases hg
        unfold Oper.wp
        rw [hrun, Oper.upon_defer, hds]
        refine hQ _ β' _ w' hk ?_
        show R P md w0 N0 M0 s'.slot s'.look (fun r => r ∈ s'.used) ⟨((f, caps) :: s'.defs, s'.pins), pv⟩ s'.tmps.length β' { a1 with defers := { target := .fn (.func f) vs, args := #[] } :: a1.defers } w'
        have h2 : R P md w0 N0 M0 s'.slot s'.look (fun r => r ∈ s'.used) ⟨(s'.defs, s'.pins), pv⟩ s'.tmps.length β' a1 w' := h1
        refine ⟨h2.stp, h2.m0, h2.size, h2.slots, h2.blks, h2.own, h2.sep, h2.usedS, h2.usedB, ⟨by simp [h2.defs.1], fun i d x hi hx => ?_⟩, h2.pin⟩
        cases i with
        | zero =>
          simp at hi hx
          subst hi; subst hx
          exact ⟨vs, rfl, hlen, hno⟩
        | succ i => exact h2.defs.2 i d x (by simpa using hi) (by simpa using hx)
    · exact hk.elim
end

end Go.Proofs.Ytcdjifdllibolaa

namespace Go.Proofs.Ytcdjifdllibolaa
open Go.RowKit

section
variable {P : Program} {md : Nat → FMode} {w0 w w' : World} {N0 M0 M : Nat → Prop} {pv : Nat → Value} {slot slot' : Nat → L} {look look' lookR : Nat → Option Blk} {used used' : Nat → Prop} {ds : Dfs} {β : Nat → Value} {a : Act} {n : Nat}
theorem blurL_at : ∀ {ls : List L} {i : Nat} {l : L}, (L.blurL ls)[i]? = some l → ∃ k, ls[i]? = some k ∧ l = k.blur
  | k :: ls, 0, l, h => by simp only [L.blurL, List.getElem?_cons_zero, Option.some.injEq] at h; exact ⟨k, rfl, h.symm⟩
  | k :: ls, i + 1, l, h => by simp only [L.blurL, List.getElem?_cons_succ] at h; simpa using blurL_at h
  | [], i, l, h => by simp [L.blurL] at h
theorem blurL_len : ∀ (ls : List L), (L.blurL ls).length = ls.length
  | [] => rfl
  | l :: ls => by simp [L.blurL, blurL_len ls]
theorem blur_size (l : L) : l.blur.size P = l.size P := by cases l <;> simp [L.blur, L.size]
theorem blur_agg (l : L) : l.blur.isAgg P = l.isAgg P := by cases l <;> simp [L.blur, L.isAgg]
theorem LC.blur {l : L} {c : Nat → Option Value} (h : LC P md w M look β l c) : LC P md w M look β l.blur c := by
  induction h with
  | undef => exact .undef
  | i h1 h2 hc => exact .i h1 h2 hc
  | b hc => exact .b hc
  | lit hc => exact .b hc
  | ub x hx hc => exact .ub x hx hc
  | s hl hc => exact .s hl hc
  | d h => exact .d h
  | mt hc => exact .mt hc
  | row hu hc => exact .row hu hc
  | rptr hu hc => exact .rptr hu hc
  | ptr hu hc => exact .ptr hu hc
  | at_ hc hMb hbb h => exact .at_ hc hMb hbb h
  | agg ht hl h hz ih =>
    refine .agg ht (by rw [blurL_len]; exact hl) (fun i f l hf hli => ?_) (fun i f l hf hli => ?_)
    · obtain ⟨k, hk, rfl⟩ := blurL_at hli; exact ih i f k hf hk
    · obtain ⟨k, hk, rfl⟩ := blurL_at hli; rw [blur_size]; exact hz i f k hf hk
  | fn hc hl h hs' ih =>
    refine .fn hc (by rw [blurL_len]; exact hl) (fun i l v hli hv => ?_) (fun i l v hli hv => ?_)
    · obtain ⟨k, hk, rfl⟩ := blurL_at hli; exact ih i k v hk hv
    · obtain ⟨k, hk, rfl⟩ := blurL_at hli
      have := hs' i k v hk hv
      exact ⟨by rw [blur_size]; exact this.size, by rw [blur_agg]; exact this.agg, this.ones⟩
theorem V1.blur {l : L} {v : Value} (h : V1 P md w M look β l v) : V1 P md w M look β l.blur v := by
  rcases h with rfl | ⟨rfl, h⟩ | ⟨h, h2⟩
  · exact .inl rfl
  · exact .inr (.inl ⟨rfl, h⟩)
  · exact .inr (.inr ⟨h.blur, by rw [blur_size]; exact h2.size, by rw [blur_agg]; exact h2.agg, h2.ones⟩)
theorem VL.blur {l : L} {v : Value} (h : VL P md w M look β l v) : VL P md w M look β l.blur v := by
  cases l with
  | tup ls => exact h
  | lit x => exact V1.blur h
  | agg t ls => exact V1.blur h
  | fn f ls => exact V1.blur h
  | _ => exact h

/-- What is kept of a block. -/
def KeepB (P : Program) (md : Nat → FMode) (look : Nat → Option Blk) (kept : List Nat) (b b' : Blk) : Prop :=
  (∃ e es lv, b = .row e es lv ∧ b' = b) ∨ ∃ t l lv l', b = .var t l lv ∧ b' = .var t l' lv ∧ (l' = l ∨ l' = l.blur ∨ settle P md look kept t l = some l')
theorem settle_conv {kept : List Nat} {t : Nat} {l l' : L} (h : settle P md look kept t l = some l') : ∃ x, conv P md look l t = some x ∧ l' = ofD P t x ∧ ∀ r ∈ fzOf look l, r ∉ kept := by
  unfold settle at h
  cases hc : (fzOf look l).all (fun r => !kept.contains r) with
  | false => rw [hc] at h; cases h
  | true =>
    rw [hc] at h
    simp only [cond_true, Option.map_eq_some_iff] at h
    obtain ⟨x, hx, rfl⟩ := h
    exact ⟨x, hx, rfl, fun r hr => by have := List.all_eq_true.1 hc r hr; simpa using this⟩
/-- ████ Much is forgotten. -/
theorem R.keep (hP : WfP P) (h : R P md w0 N0 M0 slot look used ds n β a w) {kept : List Nat} (hkept : ∀ r b', look' r = some b' → r ∈ kept) (hlook : ∀ r b', look' r = some b' → ∃ b, look r = some b ∧ KeepB P md look kept b b')
    (hslot : ∀ t, slot' t = .undef ∨ slot' t = slot t ∨ slot' t = (slot t).blur ∨ ∃ ty, settle P md look kept ty (slot t) = some (slot' t))
    (hus : ∀ t, ∀ r ∈ (slot' t).ids, used' r) (hub : ∀ q b, look' q = some b → used' q ∧ ∀ r ∈ b.ids, used' r) : R P md w0 N0 M0 slot' look' used' ds n β a w := by
  have hlike : ∀ r b', look' r = some b' → ∃ b, look r = some b ∧ likeB b b' ∧ b.live = b'.live := by
    intro r b' hr
    obtain ⟨b, hb, hk⟩ := hlook r b' hr
    refine ⟨b, hb, ?_⟩
    rcases hk with ⟨e, es, lv, rfl, rfl⟩ | ⟨t, l, lv, l', rfl, rfl, _⟩
    · exact ⟨⟨rfl, rfl⟩, rfl⟩
    · exact ⟨rfl, rfl⟩
  have hM : ∀ b, Mof M0 look' β b → Mof M0 look β b := by
    rintro b (hb | ⟨r, k, hr, hk, hB⟩)
    · exact .inl hb
    · obtain ⟨k', hk', _, hlv⟩ := hlike r k hr
      exact .inr ⟨r, k', hk', hlv.trans hk, hB⟩
  have hKept : ∀ r, Kept look look' β β r := fun r b' hb' => by
    obtain ⟨b, h1, h2, _⟩ := hlike r b' hb'; exact ⟨b, h1, h2, rfl⟩
  have away : ∀ rs : List Nat, (∀ r ∈ rs, r ∉ kept) → Away (Mof M0 look' β) look β rs := by
    rintro rs hrs r hr b B hb hB (hm | ⟨q, k, hq, hk, hqB⟩)
    · exact h.M0own hb hB hm
    · obtain ⟨k', hk', _⟩ := hlike q k hq
      have := h.sep r q b k' B hb hk' hB hqB
      subst this
      exact hrs r hr (hkept r k hq)
  have hmono : ∀ {l : L} {c : Nat → Option Value}, LC P md w (Mof M0 look β) look β l c → LC P md w (Mof M0 look' β) look' β l c := fun hl => hl.mono (Nat.le_refl _) (fun _ _ _ => rfl) (fun b hb _ => hM b hb) (fun r _ => hKept r)
  refine ⟨h.stp, h.m0, h.size, fun t => ?_, fun r b' hr => ?_, fun r b' B hr hB => ?_, fun r q b c B h1 h2 h3 h4 => ?_, hus, hub, h.defs, h.pin⟩
  · have hv := h.slots t
    have hv' : VL P md w (Mof M0 look' β) look' β (slot t) (a.tmps.getD t undef) := hv.mono (Nat.le_refl _) (fun _ _ _ => rfl) (fun b hb _ => hM b hb) (fun r _ => hKept r)
    rcases hslot t with e | e | e | ⟨ty, e⟩
    · rw [e]; exact .inl rfl
    · rw [e]; exact hv'
    · rw [e]; exact hv'.blur
    · obtain ⟨x, hx, e2, hr⟩ := settle_conv e
      rw [e2]
      obtain ⟨n1, n2, n3⟩ := conv_ne hx
      obtain ⟨hl, hs⟩ := vl_ne hv n1 n2 n3
      have hrd := conv_rd (fun _ _ h => h) hM h.blks h.blt hl hx (away _ hr)
      have hsz := conv_size hP hx hl hs (rd_under hrd)
      exact (rd_vl' hP ⟨hrd, hsz.1, hsz.2⟩).1
  · obtain ⟨b, hb, hk⟩ := hlook r b' hr
    have hbr := h.blks r b hb
    rcases hk with ⟨e, es, lv, rfl, rfl⟩ | ⟨t, l, lv, l', rfl, rfl, hl'⟩
    · exact RowV.mono hbr (Nat.le_refl _) (fun _ _ _ => rfl) (fun b hb _ => hM b hb) (fun _ _ => rfl)
    · obtain ⟨B, cs, T, b1, b2, b3, b4, b5, b6⟩ := hbr
      refine ⟨B, cs, T, b1, b2, b3, b4, ?_, b6⟩
      rcases hl' with rfl | rfl | hl'
      · exact hmono b5
      · exact (hmono b5).blur
      · obtain ⟨x, hx, rfl, hfr⟩ := settle_conv hl'
        exact ofD_lc (t := .ty t) (conv_rd (fun _ _ h => h) hM h.blks h.blt b5 hx (away _ hfr))
  · obtain ⟨b, hb, _⟩ := hlike r b' hr
    exact h.own r b B hb hB
  · obtain ⟨b1, g1, _⟩ := hlike r b h1
    obtain ⟨b2, g2, _⟩ := hlike q c h2
    exact h.sep r q b1 b2 B g1 g2 h3 h4
/-- A row gets another name. -/
theorem R.rename (h : R P md w0 N0 M0 slot look used ds n β a w) {r new e : Nat} {es : List D} {lv : Bool} (hr : look r = some (.row e es lv)) (hn : ¬ used new) :
    R P md w0 N0 M0 slot (updN (updN look r none) new (some (.row e es lv))) (fun q => used q ∨ q = new) ds n (updN β new (β r)) a w := by
  have hrn : r ≠ new := fun e => hn (e ▸ (h.usedB r _ hr).1)
  have hcase : ∀ q k, updN (updN look r none) new (some (.row e es lv)) q = some k → (q = new ∧ k = .row e es lv ∧ updN β new (β r) q = β r) ∨ (q ≠ new ∧ q ≠ r ∧ look q = some k ∧ updN β new (β r) q = β q) := by
    intro q k hq
    by_cases e1 : q = new
    · subst e1
      rw [updN_same] at hq
      injection hq with hq
      exact .inl ⟨rfl, hq.symm, updN_same _ _ _⟩
    · rw [updN_ne _ _ e1] at hq
      by_cases e2 : q = r
      · subst e2; rw [updN_same] at hq; cases hq
      · rw [updN_ne _ _ e2] at hq
        exact .inr ⟨e1, e2, hq, updN_ne _ _ e1⟩
  have hM : ∀ b, Mof M0 (updN (updN look r none) new (some (.row e es lv))) (updN β new (β r)) b → b < w.heap.size → Mof M0 look β b := by
    rintro b (hb | ⟨q, k, hq, hk, hB⟩) _
    · exact .inl hb
    · rcases hcase q k hq with ⟨rfl, rfl, h3⟩ | ⟨_, _, h3, h4⟩
      · rw [h3] at hB; exact .inr ⟨r, _, hr, hk, hB⟩
      · rw [h4] at hB; exact .inr ⟨q, k, h3, hk, hB⟩
  refine h.step (fun _ => False) (Stp.refl _ _) (fun _ hf => hf.elim) (fun q hq k hk => ?_) (fun q k hq => ?_) hM (fun q1 q2 k1 k2 B h1 h2 h3 h4 => ?_) (fun _ hu => .inl hu)
  · rcases hcase q k hk with ⟨rfl, _⟩ | ⟨_, _, h3, h4⟩
    · exact absurd hq hn
    · exact ⟨k, h3, likeB.refl _, h4⟩
  · rcases hcase q k hq with ⟨rfl, rfl, h3⟩ | ⟨_, _, h3, h4⟩
    · refine .inr ⟨?_, (fun x hx => by simp [Blk.ids] at hx), .inr rfl, fun B hB => ?_⟩
      · show RowV P md w _ e es _
        rw [h3]
        exact RowV.mono (h.blks r _ hr) (Nat.le_refl _) (fun _ _ _ => rfl) hM (fun _ _ => rfl)
      · rw [h3] at hB; exact h.own r _ B hr hB
    · exact .inl ⟨h3, h4, fun _ _ hf => hf⟩
  · rcases hcase q1 k1 h1 with ⟨rfl, _, g1⟩ | ⟨n1, r1, l1, g1⟩ <;> rcases hcase q2 k2 h2 with ⟨rfl, _, g2⟩ | ⟨n2, r2, l2, g2⟩
    · rfl
    · rw [g1] at h3; rw [g2] at h4; exact absurd (h.sep q2 r k2 _ B l2 hr h4 h3) r2
    · rw [g1] at h3; rw [g2] at h4; exact absurd (h.sep q1 r k1 _ B l1 hr h3 h4) r1
    · rw [g1] at h3; rw [g2] at h4; exact h.sep q1 q2 k1 k2 B l1 l2 h3 h4
/-- A slot is looked at otherwise. -/
theorem R.reslot (h : R P md w0 N0 M0 slot look used ds n β a w) (t : Nat) (l : L) (hv : VL P md w (Mof M0 look β) look β l (a.tmps.getD t undef)) (hids : ∀ r ∈ l.ids, used r) : R P md w0 N0 M0 (updN slot t l) look used ds n β a w := by
  refine ⟨h.stp, h.m0, h.size, fun q => ?_, h.blks, h.own, h.sep, fun q r hr => ?_, h.usedB, h.defs, h.pin⟩
  · by_cases e : q = t
    · subst e; rw [updN_same]; exact hv
    · rw [updN_ne _ _ e]; exact h.slots q
  · by_cases e : q = t
    · subst e; rw [updN_same] at hr; exact hids r hr
    · rw [updN_ne _ _ e] at hr; exact h.usedS q r hr
/-- A variable is looked at otherwise. -/
theorem R.reblk (h : R P md w0 N0 M0 slot look used ds n β a w) {r t : Nat} {l l' : L} {lv : Bool} (hr : look r = some (.var t l lv)) (hl : ∀ B cs T, β r = .pointer (some ⟨B, 0, none⟩) → w.heap[B]? = some (.cells cs T (0, 0)) → LC P md w (Mof M0 look β) look β l (fun j => cs[j]?) → LC P md w (Mof M0 look β) look β l' (fun j => cs[j]?)) (hids : ∀ q ∈ l'.ids, used q) :
    R P md w0 N0 M0 slot (updN look r (some (.var t l' lv))) used ds n β a w := by
  have hcase : ∀ q k, updN look r (some (.var t l' lv)) q = some k → (q = r ∧ k = .var t l' lv) ∨ (q ≠ r ∧ look q = some k) := by
    intro q k hq
    by_cases e : q = r
    · subst e; rw [updN_same] at hq; injection hq with hq; exact .inl ⟨rfl, hq.symm⟩
    · rw [updN_ne _ _ e] at hq; exact .inr ⟨e, hq⟩
  have hM : ∀ b, Mof M0 (updN look r (some (.var t l' lv))) β b → b < w.heap.size → Mof M0 look β b := by
    rintro b (hb | ⟨q, k, hq, hk, hB⟩) _
    · exact .inl hb
    · rcases hcase q k hq with ⟨rfl, rfl⟩ | ⟨_, h3⟩
      · exact .inr ⟨q, _, hr, hk, hB⟩
      · exact .inr ⟨q, k, h3, hk, hB⟩
  have hkept : ∀ q, Kept look (updN look r (some (.var t l' lv))) β β q := fun q k hk => by
    rcases hcase q k hk with ⟨rfl, rfl⟩ | ⟨_, h3⟩
    · exact ⟨_, hr, rfl, rfl⟩
    · exact ⟨k, h3, likeB.refl _, rfl⟩
  refine h.step (fun _ => False) (Stp.refl _ _) (fun _ hf => hf.elim) (fun q _ => hkept q) (fun q k hq => ?_) hM (fun q1 q2 k1 k2 B h1 h2 h3 h4 => ?_) (fun _ hu => hu)
  · rcases hcase q k hq with ⟨rfl, rfl⟩ | ⟨_, h3⟩
    · obtain ⟨B, cs, T, b1, b2, b3, b4, b5, b6⟩ := h.blks q _ hr
      exact .inr ⟨⟨B, cs, T, b1, b2, b3, b4, (hl B cs T b1 b2 b5).mono (Nat.le_refl _) (fun _ _ _ => rfl) hM (fun x _ => hkept x), b6⟩, hids, (h.usedB q _ hr).1, fun B hB => h.own q _ B hr hB⟩
    · exact .inl ⟨h3, rfl, fun _ _ hf => hf⟩
  · have g : ∀ q k, updN look r (some (.var t l' lv)) q = some k → ∃ k', look q = some k' := fun q k hq => by
      rcases hcase q k hq with ⟨rfl, rfl⟩ | ⟨_, h3⟩
      · exact ⟨_, hr⟩
      · exact ⟨k, h3⟩
    obtain ⟨k1', g1⟩ := g q1 k1 h1
    obtain ⟨k2', g2⟩ := g q2 k2 h2
    exact h.sep q1 q2 k1' k2' B g1 g2 h3 h4

theorem keepSlots_at {kept : List Nat} {ks : List (Nat × Option Nat)} : ∀ {ls ls' : List L} {i : Nat}, keepSlots P md look kept ks i ls = some ls' → ls'.length = ls.length ∧ ∀ t, ls'.getD t .undef = .undef ∨ ls'.getD t .undef = (ls.getD t .undef).blur ∨ ∃ ty, settle P md look kept ty (ls.getD t .undef) = some (ls'.getD t .undef)
  | [], ls', i, h => by simp only [keepSlots, Option.some.injEq] at h; subst h; exact ⟨rfl, fun t => .inl rfl⟩
  | l :: ls, ls', i, h => by
    simp only [keepSlots] at h
    split at h
    · rename_i x xs hx hxs
      injection h with h
      subst h
      obtain ⟨h1, h2⟩ := keepSlots_at hxs
      refine ⟨by simp [h1], fun t => ?_⟩
      cases t with
      | zero =>
        simp only [List.getD_cons_zero]
        split at hx
        · injection hx with hx; exact .inl hx.symm
        · injection hx with hx; exact .inr (.inl hx.symm)
        · exact .inr (.inr ⟨_, hx⟩)
      | succ t => simpa only [List.getD_cons_succ] using h2 t
    · cases h
theorem keepBlks_at {h : List (Nat × Blk)} {kept : List Nat} : ∀ {bs : List (Nat × Bool)} {h' : List (Nat × Blk)}, keepBlks P md h kept bs = some h' → ∀ r b', hget h' r = some b' → r ∈ bs.map (·.1) ∧ ∃ b, hget h r = some b ∧ KeepB P md (hget h) kept b b'
  | [], h', hk, r, b', hr => by simp only [keepBlks, Option.some.injEq] at hk; subst hk; simp [hget] at hr
  | (q, st) :: bs, h', hk, r, b', hr => by
    simp only [keepBlks] at hk
    split at hk
    · rename_i k rest hq hrest
      have ih := keepBlks_at hrest
      have fin : ∀ k' : Blk, KeepB P md (hget h) kept k k' → h' = (q, k') :: rest → r ∈ ((q, st) :: bs).map (·.1) ∧ ∃ b, hget h r = some b ∧ KeepB P md (hget h) kept b b' := by
        intro k' hkk he
        subst he
        simp only [hget] at hr
        by_cases e : q = r
        · subst e
          simp only [beq_self_eq_true, cond_true, Option.some.injEq] at hr
          subst hr
          exact ⟨by simp, k, hq, hkk⟩
        · have : (q == r) = false := by simp [e]
          simp only [this, cond_false] at hr
          obtain ⟨g1, g2⟩ := ih r b' hr
          exact ⟨by simp only [List.map_cons, List.mem_cons]; exact .inr g1, g2⟩
      split at hk
      · rename_i t l lv
        cases st with
        | true =>
          simp only [cond_true, Option.map_eq_some_iff] at hk
          obtain ⟨l', hl', he⟩ := hk
          exact fin _ (.inr ⟨t, l, lv, l', rfl, rfl, .inr (.inr hl')⟩) he.symm
        | false =>
          simp only [cond_false, Option.some.injEq] at hk
          exact fin _ (.inr ⟨t, l, lv, _, rfl, rfl, .inr (.inl rfl)⟩) hk.symm
      · rename_i hnv
        injection hk with hk
        refine fin k ?_ hk.symm
        cases k with
        | var t l lv => exact absurd rfl (hnv t l lv)
        | row e es lv => exact .inl ⟨e, es, lv, rfl, rfl⟩
    · cases hk
theorem hget_mem : ∀ {h : List (Nat × Blk)} {r : Nat} {b : Blk}, hget h r = some b → (r, b) ∈ h
  | (i, k) :: h, r, b, hr => by
    simp only [hget] at hr
    by_cases e : i = r
    · subst e; simp only [beq_self_eq_true, cond_true, Option.some.injEq] at hr; subst hr; simp
    · have : (i == r) = false := by simp [e]
      simp only [this, cond_false] at hr
      exact List.mem_cons_of_mem _ (hget_mem hr)
  | [], r, b, hr => by simp [hget] at hr
theorem closed_use {s : St} {ids : List Nat} (h : s.closed ids = true) : (∀ t, ∀ r ∈ (s.slot t).ids, r ∈ ids) ∧ ∀ q b, s.look q = some b → ∀ r ∈ b.ids, r ∈ ids := by
  simp only [St.closed, Bool.and_eq_true, List.all_eq_true, List.contains_iff_mem] at h
  obtain ⟨⟨h1, h2⟩, _⟩ := h
  refine ⟨fun t r hr => ?_, fun q b hq r hr => h2 _ (hget_mem hq) r hr⟩
  cases ht : s.tmps[t]? with
  | none => rw [St.slot, List.getD_eq_getElem?_getD, ht] at hr; simp [L.ids] at hr
  | some l =>
    rw [St.slot, List.getD_eq_getElem?_getD, ht] at hr
    exact h1 r (mem_idsL ht r (by simpa using hr))
theorem RS.forget (hP : WfP P) {s s' : St} {kept : List Nat} (h : RS P md w0 N0 M0 pv s β a w) (hl : s'.tmps.length = s.tmps.length) (hd : s'.dp = s.dp) (hslot : ∀ t, s'.slot t = .undef ∨ s'.slot t = s.slot t ∨ s'.slot t = (s.slot t).blur ∨ ∃ ty, settle P md s.look kept ty (s.slot t) = some (s'.slot t))
    (hb : ∀ r b', s'.look r = some b' → r ∈ kept ∧ ∃ b, s.look r = some b ∧ KeepB P md s.look kept b b') (hu : s'.used = s'.heap.map (·.1)) (hc : s'.closed s'.used = true) : RS P md w0 N0 M0 pv s' β a w := by
  obtain ⟨c1, c2⟩ := closed_use hc
  show R P md w0 N0 M0 s'.slot s'.look (fun r => r ∈ s'.used) ⟨s'.dp, pv⟩ s'.tmps.length β a w
  rw [hl, hd]
  exact h.keep hP (fun r b' hr => (hb r b' hr).1) (fun r b' hr => (hb r b' hr).2) hslot c1 (fun q b hq => ⟨by rw [hu]; exact List.mem_map.2 ⟨_, hget_mem hq, rfl⟩, c2 q b hq⟩)
/-- What stands at a place is set. -/
theorem RS.setLoc {s s' : St} {loc : Loc} {l l0 : L} {lookX : Nat → Option Blk} {usedX : Nat → Prop} {heapX : List (Nat × Blk)} {usedL : List Nat} (h : R P md w0 N0 M0 s.slot lookX usedX ⟨s.dp, pv⟩ s.tmps.length β a w) (hh : hget heapX = lookX) (hu : ∀ r, usedX r → r ∈ usedL) (h0 : s.loc P loc = some l0) (h0u : l0 ≠ .undef)
    (hkeep : ∀ b t k lv, lookX b = some (.var t k lv) → s.look b = some (.var t k lv))
    (hV : ∀ t, loc = .slot t → s.slot t = l0 → VL P md w (Mof M0 lookX β) lookX β l (a.tmps.getD t undef)) (hC : ∀ b p t k lv B cs T t', loc = .fld b p → lookX b = some (.var t k lv) → β b = .pointer (some ⟨B, 0, none⟩) → w.heap[B]? = some (.cells cs T (0, 0)) → sub P t p k = some (t', l0) → LC P md w (Mof M0 lookX β) lookX β l (fun j => cs[offAt P t p + j]?)) (hids : ∀ r ∈ l.ids, usedX r)
    (hs : St.setLoc P { s with heap := heapX, used := usedL } l loc = some s') : RS P md w0 N0 M0 pv s' β a w := by
  cases loc with
  | slot t =>
    simp only [St.setLoc, Option.some.injEq] at hs
    subst hs
    simp only [St.loc, Option.some.injEq] at h0
    have ht : t < s.tmps.length := by
      rcases Nat.lt_or_ge t s.tmps.length with h1 | h1
      · exact h1
      · rw [St.slot, List.getD_eq_getElem?_getD, List.getElem?_eq_none h1] at h0
        exact absurd h0.symm h0u
    have h1 := h.reslot t l (hV t rfl h0) hids
    show R P md w0 N0 M0 (St.slot _) (St.look _) (fun r => r ∈ usedL) ⟨s.dp, pv⟩ (s.tmps.set t l).length β a w
    have e1 : St.slot { tmps := s.tmps.set t l, heap := heapX, used := usedL, defs := s.defs, pins := s.pins } = updN s.slot t l := by
      have := (put_spec s (some t) l).1
      funext q
      have h2 := congrFun this q
      simp only [St.put] at h2
      show (s.tmps.set t l).getD q .undef = _
      have h3 : (s.tmps.set t l).getD q .undef = putF s.tmps.length (some t) l s.slot q := h2
      rw [h3]
      simp only [putF, updN, Option.some.injEq]
      by_cases e : q = t
      · subst e; simp [ht]
      · have : ¬ t = q := fun h => e h.symm
        simp [e, this]
    rw [e1, List.length_set]
    have e2 : St.look { tmps := s.tmps.set t l, heap := heapX, used := usedL, defs := s.defs, pins := s.pins } = lookX := hh
    rw [e2]
    exact h1.weak hu
  | fld b p =>
    simp only [St.setLoc] at hs
    split at hs
    · rename_i t k lv hb
      have hb' : lookX b = some (.var t k lv) := by rw [← hh]; exact hb
      cases hty : ((typeAt P t p).map fun t' => okAt P t' l).getD false with
      | false => rw [hty] at hs; cases hs
      | true =>
        rw [hty] at hs
        simp only [cond_true, Option.map_eq_some_iff] at hs
        obtain ⟨k', hk', rfl⟩ := hs
        have hsb : s.look b = some (.var t k lv) := hkeep b t k lv hb'
        simp only [St.loc, hsb, Option.map_eq_some_iff] at h0
        obtain ⟨⟨t', l1⟩, hsub, rfl⟩ := h0
        obtain ⟨B, cs, T, b1, b2, b3, b4, b5, b6⟩ := h.blks b _ hb'
        have hk : ∀ B cs T, β b = .pointer (some ⟨B, 0, none⟩) → w.heap[B]? = some (.cells cs T (0, 0)) → LC P md w (Mof M0 lookX β) lookX β k (fun j => cs[j]?) → LC P md w (Mof M0 lookX β) lookX β k' (fun j => cs[j]?) ∧ (∀ r ∈ k'.ids, r ∈ k.ids ∨ r ∈ l.ids) := by
          intro B cs T q1 q2 hc
          obtain ⟨s1, s2, _⟩ := sub_lc hc hsub
          rw [s1] at hty
          exact set_lc hc hk' s1 b4 (by simpa using hty) (hC b p t k lv B cs T t' rfl hb' q1 q2 hsub) (fun _ _ _ => rfl)
        have h1 := h.reblk hb' (fun B cs T q1 q2 hc => (hk B cs T q1 q2 hc).1) (fun q hq => by
          rcases (hk B cs T b1 b2 b5).2 q hq with h2 | h2
          · exact (h.usedB b _ hb').2 q h2
          · exact hids q h2)
        show R P md w0 N0 M0 s.slot (St.look _) (fun r => r ∈ usedL) ⟨s.dp, pv⟩ s.tmps.length β a w
        have e2 : St.look { tmps := s.tmps, heap := hset heapX b (.var t k' lv), used := usedL, defs := s.defs, pins := s.pins } = updN lookX b (some (.var t k' lv)) := by
          funext q
          show hget (hset heapX b (.var t k' lv)) q = _
          rw [hget_hset ⟨_, hb⟩, ← hh]; rfl
        rw [e2]
        exact h1.weak hu
    · cases hs
theorem reRow_ok {s s' : St} {loc : Loc} {new e : Nat} (h : RS P md w0 N0 M0 pv s β a w) (hr : reRow P s loc new e = some s') : ∃ β', RS P md w0 N0 M0 pv s' β' a w := by
  unfold reRow at hr
  split at hr
  · rename_i hloc
    cases hc : s.used.contains new with
    | true => rw [hc] at hr; cases hr
    | false =>
      rw [hc] at hr
      simp only [cond_false] at hr
      have hn : ¬ new ∈ s.used := by simpa using hc
      -- the value there
      obtain ⟨A, hA1, hA2⟩ : ∃ A, (∀ t, loc = .slot t → s.slot t = .mt → a.tmps.getD t undef = .slice A 0 0) ∧ (∀ b p t k lv B cs T t', loc = .fld b p → s.look b = some (.var t k lv) → β b = .pointer (some ⟨B, 0, none⟩) → w.heap[B]? = some (.cells cs T (0, 0)) → sub P t p k = some (t', .mt) → cs[offAt P t p + 0]? = some (.slice A 0 0)) := by
        cases loc with
        | slot t =>
          simp only [St.loc, Option.some.injEq] at hloc
          have hv := h.slots t
          rw [hloc] at hv
          obtain ⟨A, hA⟩ := vl_mt hv
          exact ⟨A, fun t' ht' _ => by injection ht' with ht'; subst ht'; exact hA, fun b p t k lv B cs T t' he => by cases he⟩
        | fld b p =>
          simp only [St.loc] at hloc
          split at hloc
          · rename_i t k lv hb
            simp only [Option.map_eq_some_iff] at hloc
            obtain ⟨⟨t', l1⟩, hsub, hl1⟩ := hloc
            simp only at hl1
            subst hl1
            obtain ⟨B, cs, T, b1, b2, b3, b4, b5, b6⟩ := h.blks b _ hb
            obtain ⟨_, s2, _⟩ := sub_lc b5 hsub
            cases s2 with
            | @mt c A hcc =>
              refine ⟨A, (fun t ht => by cases ht), fun b' p' t2 k2 lv2 B2 cs2 T2 t3 he hb2 hB2 hc2 hs2 => ?_⟩
              injection he with e1 e2
              subst e1; subst e2
              rw [hb] at hb2
              injection hb2 with hb2
              injection hb2 with q1 q2 q3
              subst q1
              rw [b1] at hB2
              injection hB2 with hB2
              injection hB2 with hB2
              injection hB2 with hB2 _ _
              subst hB2
              rw [b2] at hc2
              injection hc2 with hc2
              injection hc2 with hc2 _ _
              subst hc2
              exact hcc
          · cases hloc
      have hnb : ∀ B, ownB (.slice A 0 0) = some B → False := by intro B hB; cases A <;> simp [ownB] at hB
      have h1 := h.new (Ext.refl w) hn (.row e [] true) (.slice A 0 0) (by intro q hq; simp [Blk.ids] at hq) (fun B hB => (hnb B hB).elim) (by
        show RowV P md w _ e [] _
        rw [updN_same]
        exact ⟨A, 0, rfl, .inl ⟨rfl, rfl⟩⟩)
      have hcaseV : ∀ b t k lv, updN s.look new (some (.row e [] true)) b = some (.var t k lv) → b ≠ new ∧ s.look b = some (.var t k lv) := by
        intro b t k lv hb
        by_cases eb : b = new
        · subst eb; rw [updN_same] at hb; cases hb
        · rw [updN_ne _ _ eb] at hb; exact ⟨eb, hb⟩
      refine ⟨updN β new (.slice A 0 0), RS.setLoc (l0 := .mt) (lookX := updN s.look new (some (.row e [] true))) h1 ?_ (fun r hr => ?_) hloc (by simp) (fun b t k lv hb => (hcaseV b t k lv hb).2) (fun t ht hs => ?_) (fun b p t k lv B cs T t' he hb hB hc' hs => ?_) (fun r hr => ?_) hr⟩
      · funext q
        show hget ((new, _) :: s.heap) q = _
        simp only [hget, updN]
        by_cases eq : q = new
        · subst eq; simp
        · have : (new == q) = false := by simp; exact fun h => eq h.symm
          simp [this, eq]; rfl
      · rcases hr with hr | hr
        · simp [hr]
        · simp [hr]
      · rw [hA1 t ht hs]
        exact vl_mk (by simp) (.row ⟨_, rfl, rfl⟩ (fun _ _ _ _ => by rw [updN_same]; rfl)) ⟨rfl, rfl, ones_one rfl⟩
      · obtain ⟨n1, hb'⟩ := hcaseV b t k lv hb
        rw [updN_ne _ _ n1] at hB
        have := hA2 b p t k lv B cs T t' he hb' hB hc' hs
        exact .row ⟨_, this, rfl⟩ (fun _ _ _ _ => by rw [updN_same]; exact this)
      · simp only [L.ids, List.mem_singleton] at hr
        exact .inr hr
  · rename_i r hloc
    cases hrn : (r == new) with
    | true => rw [hrn] at hr; simp only [cond_true, Option.some.injEq] at hr; subst hr; exact ⟨β, h⟩
    | false =>
      rw [hrn] at hr
      simp only [cond_false] at hr
      cases hc : s.used.contains new with
      | true => rw [hc] at hr; cases hr
      | false =>
        rw [hc] at hr
        simp only [cond_false] at hr
        have hn : ¬ new ∈ s.used := by simpa using hc
        split at hr
        · rename_i e' es lv hrow
          cases hee : (e' == e) with
          | false => rw [hee] at hr; cases hr
          | true =>
            rw [hee] at hr
            simp only [cond_true] at hr
            have : e' = e := by simpa using hee
            subst this
            have h1 := h.rename hrow hn
            have hcaseV : ∀ b t k lv', updN (updN s.look r none) new (some (.row e' es lv)) b = some (.var t k lv') → b ≠ new ∧ s.look b = some (.var t k lv') := by
              intro b t k lv' hb
              by_cases eb : b = new
              · subst eb; rw [updN_same] at hb; cases hb
              · rw [updN_ne _ _ eb] at hb
                by_cases er : b = r
                · subst er; rw [updN_same] at hb; cases hb
                · rw [updN_ne _ _ er] at hb; exact ⟨eb, hb⟩
            refine ⟨updN β new (β r), RS.setLoc (l0 := .row r) (lookX := updN (updN s.look r none) new (some (.row e' es lv))) h1 ?_ (fun q hq => ?_) hloc (by simp) (fun b t k lv' hb => (hcaseV b t k lv' hb).2) (fun t ht hs => ?_) (fun b p t k lv' B cs T t' he hb hB hc' hs => ?_) (fun q hq => ?_) hr⟩
            · funext q
              show hget ((new, _) :: hdel s.heap r) q = _
              simp only [hget, updN]
              by_cases eq : q = new
              · subst eq; simp
              · have : (new == q) = false := by simp; exact fun h => eq h.symm
                simp only [this, cond_false, eq, if_false]
                rw [hget_hdel]; rfl
            · rcases hq with hq | hq
              · simp [hq]
              · simp [hq]
            · have hv := h.slots t
              rw [hs] at hv
              have hvr := vl_row hv hrow
              obtain ⟨hl, hsz⟩ := vl_ne hv (by simp) (by simp) (by simp)
              rw [hvr] at hl hsz ⊢
              refine vl_mk (by simp) ?_ ⟨hsz.size, hsz.agg, hsz.ones⟩
              cases hl with
              | row hu hcc => exact .row hu (fun _ _ _ _ => by rw [updN_same]; exact hcc _ _ _ hrow)
            · obtain ⟨n1, hb'⟩ := hcaseV b t k lv' hb
              rw [updN_ne _ _ n1] at hB
              obtain ⟨B2, cs2, T2, b1, b2, b3, b4, b5, b6⟩ := h.blks b _ hb'
              rw [b1] at hB
              injection hB with hB
              injection hB with hB
              injection hB with hB _ _
              subst hB
              rw [b2] at hc'
              injection hc' with hc'
              injection hc' with hc' _ _
              subst hc'
              obtain ⟨_, s2, _⟩ := sub_lc b5 hs
              cases s2 with
              | row hu hcc => exact .row hu (fun _ _ _ _ => by rw [updN_same]; exact hcc _ _ _ hrow)
            · simp only [L.ids, List.mem_singleton] at hq
              exact .inr hq
        · cases hr
  · cases hr
theorem reRows_ok : ∀ {rs : List (Loc × Nat × Nat)} {s s' : St} {β : Nat → Value}, RS P md w0 N0 M0 pv s β a w → reRows P s rs = some s' → ∃ β', RS P md w0 N0 M0 pv s' β' a w
  | [], s, s', β, h, hr => by simp only [reRows, Option.some.injEq] at hr; subst hr; exact ⟨β, h⟩
  | (l, nw, e) :: rs, s, s', β, h, hr => by
    simp only [reRows] at hr
    split at hr
    · rename_i s1 h1
      obtain ⟨β1, g1⟩ := reRow_ok h h1
      exact reRows_ok g1 hr
    · cases hr
/-- ████ At a loop's head. -/
theorem canon_ok (hP : WfP P) {o : Orc} {s s' : St} (h : RS P md w0 N0 M0 pv s β a w) (hc : canon P md o s = some s') : ∃ β', RS P md w0 N0 M0 pv s' β' a w := by
  unfold canon at hc
  simp only at hc
  split at hc
  · rename_i tm hp htm hhp
    obtain ⟨k1, k2⟩ := keepSlots_at htm
    have k3 := keepBlks_at hhp
    cases hcl : St.closed ⟨tm, hp, hp.map (·.1), s.defs, s.pins⟩ (hp.map (·.1)) with
    | false => rw [hcl] at hc; cases hc
    | true =>
      rw [hcl] at hc
      simp only [cond_true] at hc
      have h1 : RS P md w0 N0 M0 pv ⟨tm, hp, hp.map (·.1), s.defs, s.pins⟩ β a w := RS.forget hP h k1 rfl (fun t => (k2 t).imp_right .inr) (fun r b' hr => k3 r b' hr) rfl hcl
      split at hc
      · rename_i s2 hs2
        obtain ⟨β2, h2⟩ := reRows_ok h1 hs2
        split at hc
        · rename_i h2' hh2
          cases hcl2 : St.closed ⟨s2.tmps, h2', h2'.map (·.1), s2.defs, s2.pins⟩ (h2'.map (·.1)) with
          | false => rw [hcl2] at hc; cases hc
          | true =>
            rw [hcl2] at hc
            simp only [cond_true, Option.some.injEq] at hc
            subst hc
            have k4 := keepBlks_at hh2
            refine ⟨β2, RS.forget (kept := (o.blks.map (fun b => (b.1, false)) ++ o.rows.map (fun r => (r.2.1, false))).map (·.1)) hP h2 rfl rfl (fun t => .inr (.inl rfl)) (fun r b' hr => k4 r b' hr) rfl hcl2⟩
        · cases hc
      · cases hc
  · cases hc
end

end Go.Proofs.Ytcdjifdllibolaa

namespace Go.Proofs.Ytcdjifdllibolaa
open Go.RowKit

def Ex.exit_ : Ex → Exit | .normal => .normal | .exit id => .exit id | .ret => .ret

section
variable {P : Program} {md : Nat → FMode} {w0 w w' : World} {N0 M0 M : Nat → Prop} {pv : Nat → Value} {β : Nat → Value} {a : Act} {n : Nat}
theorem least {p : Nat → Prop} (h : ∃ m, p m) : ∃ m, p m ∧ ∀ k, p k → m ≤ k := by
  obtain ⟨m, hm⟩ := h
  induction m using Nat.strongRecOn with
  | _ m ih =>
    by_cases hk : ∃ k, k < m ∧ p k
    · obtain ⟨k, hk, hp⟩ := hk; exact ih k hk hp
    · exact ⟨m, hm, fun k hp => by
        rcases Nat.lt_or_ge k m with h | h
        · exact absurd ⟨k, h, hp⟩ hk
        · exact h⟩
/-- A loop with rounds that are counted. -/
theorem wp_loop_fuel {c : Code} {Q : Exit → Act → World → Prop} {J : Nat → Act → World → Prop} {m : Nat} (h0 : J m a w) (zero : ∀ a w, ¬ J 0 a w) (round : ∀ m a w, J (m + 1) a w → c.wp P (Exit.then (J m) Q) a w) : (Code.loop c).wp P Q a w := by
  classical
  obtain ⟨μ, hμ⟩ : ∃ μ : Act → World → Nat, ∀ a w, (∃ m, J m a w) → J (μ a w) a w ∧ ∀ k, J k a w → μ a w ≤ k :=
    ⟨fun a w => if h : ∃ m, J m a w then Classical.choose (least h) else 0, fun a w h => by simp only [dif_pos h]; exact Classical.choose_spec (least h)⟩
  refine wp_loop (fun a w => ∃ m, J m a w) μ ⟨m, h0⟩ (fun a w hI => ?_)
  obtain ⟨hf, _⟩ := hμ a w hI
  cases hm : μ a w with
  | zero => rw [hm] at hf; exact absurd hf (zero a w)
  | succ k =>
    rw [hm] at hf
    refine wp_mono (round k a w hf) (fun e a' w' hq => ?_)
    cases e with
    | normal =>
      have hJ : J k a' w' := hq
      refine ⟨⟨k, hJ⟩, ?_⟩
      have := (hμ a' w' ⟨k, hJ⟩).2 k hJ
      omega
    | _ => exact hq
/-- Which way was gone is kept in mind. -/
theorem setC_ok {c : Operand} {b x : Bool} {s : St} (h : RS P md w0 N0 M0 pv s β a w) (hc : opd s.slot c = .b b) (hb : b = x) : RS P md w0 N0 M0 pv (setC c x s) β a w := by
  subst hb
  cases c with
  | tmp t =>
    have hc : s.tmps.getD t .undef = .b b := hc
    have hlt : t < s.tmps.length := by
      rcases Nat.lt_or_ge t s.tmps.length with h1 | h1
      · exact h1
      · rw [List.getD_eq_getElem?_getD, List.getElem?_eq_none h1] at hc; cases hc
    have hsl : ∀ j, (setC (.tmp t) b s).slot j = if j = t then .lit b else s.slot j := by
      intro j
      show (s.tmps.set t (.lit b)).getD j .undef = _
      rw [List.getD_eq_getElem?_getD, List.getElem?_set]
      by_cases hj : t = j
      · subst hj; simp [hlt]
      · rw [if_neg hj, if_neg (fun e => hj e.symm)]; rw [← List.getD_eq_getElem?_getD]; rfl
    refine ⟨h.stp, h.m0, ?_, fun j => ?_, h.blks, h.own, h.sep, fun j r hr => ?_, h.usedB, h.defs, h.pin⟩
    · show _ = (s.tmps.set t (.lit b)).length
      rw [List.length_set]; exact h.size
    · rw [hsl j]
      have hv := h.slots j
      split
      · rename_i hj
        subst hj
        have hv' : VL P md w (Mof M0 s.look β) s.look β (.b b) (a.tmps.getD j undef) := by rw [← hc]; exact hv
        rw [vl_b hv']; exact mk_lit
      · exact hv
    · rw [hsl j] at hr
      split at hr
      · cases hr
      · exact h.usedS j r hr
  | _ => exact h
/-- ████ Code does what the machine without memory says. -/
theorem ev_sound (hP : WfP P) (hmix : P.follows .mixedOrders = true) {orc : List (Nat × Orc)} {Φ : List D → Prop} : ∀ (c : Code) {Q : Exit → Act → World → Prop} {K : Ex → St → Tree} {s : St} {β : Nat → Value} {a : Act} {w : World}, RS P md w0 N0 M0 pv s β a w → (ev P md n orc c s K).wp P md Φ →
    (∀ x s' β' a' w', (K x s').wp P md Φ → RS P md w0 N0 M0 pv s' β' a' w' → Q x.exit_ a' w') → c.wp P Q a w := by
  intro c
  induction c with
  | skip => intro Q K s β a w h ht hQ; exact wp_skip (hQ .normal s β a w ht h)
  | region id ops draw =>
    intro Q K s β a w h ht hQ
    simp only [ev] at ht
    split at ht
    · rename_i o0 o1 g hd; exact region_defer hP hd h ht (fun s' β' a' w' hk h' => hQ .normal s' β' a' w' hk h')
    · exact region_wp hP hmix h ht (fun s' β' a' w' hk h' => hQ .normal s' β' a' w' hk h')
  | seq x y ihx ihy =>
    intro Q K s β a w h ht hQ
    refine wp_seq (ihx h ht (fun e s' β' a' w' hk h' => ?_))
    cases e with
    | normal =>
      have hk' : (joinE P md (joinAt orc y) (ev P md n orc y) s' K).wp P md Φ := hk
      cases hj : joinAt orc y with
      | none => rw [hj] at hk'; exact ihy h' hk' hQ
      | some o =>
        rw [hj] at hk'
        simp only [joinE] at hk'
        split at hk'
        · exact hk'.elim
        · rename_i s1 hs1
          obtain ⟨β1, h1⟩ := canon_ok hP h' hs1
          exact ihy h1 hk' hQ
    | exit id => exact hQ (.exit id) s' β' a' w' hk h'
    | ret => exact hQ .ret s' β' a' w' hk h'
  | cond c x y ihx ihy =>
    intro Q K s β a w h ht hQ
    simp only [ev] at ht
    have hv := opd_vl h c
    split at ht
    · rename_i hc; rw [hc] at hv; exact wp_cond_true (vl_lit hv) (ihx h ht hQ)
    · rename_i hc; rw [hc] at hv; exact wp_cond_false (vl_lit hv) (ihy h ht hQ)
    · rename_i b hc
      rw [hc] at hv
      cases hk : known orc with
      | true =>
        rw [hk] at ht
        exact wp_cond_split (vl_b hv) (fun hb => ihx (setC_ok h hc hb) (ht.1 hb) hQ) (fun hb => ihy (setC_ok h hc hb) (ht.2 hb) hQ)
      | false =>
        rw [hk] at ht
        exact wp_cond_split (vl_b hv) (fun hb => ihx h (ht.1 hb) hQ) (fun hb => ihy h (ht.2 hb) hQ)
    · rename_i b hc
      rw [hc] at hv
      obtain ⟨x, hv, hx⟩ := vl_ub hv
      exact wp_cond_split hv (fun hb => ihx h (ht.1 (hx hb)) hQ) (fun hb => ihy h ht.2 hQ)
    · exact ht.elim
  | block id x ih =>
    intro Q K s β a w h ht hQ
    refine wp_block (ih h ht (fun e s' β' a' w' hk h' => ?_))
    cases e with
    | normal => exact hQ .normal s' β' a' w' hk h'
    | exit id' =>
      simp only [blockK] at hk
      simp only [Ex.exit_, Exit.inBlock]
      by_cases hid : id' = id
      · subst hid
        simp only [beq_self_eq_true, cond_true] at hk
        rw [if_pos rfl]
        exact hQ .normal s' β' a' w' hk h'
      · have : (id' == id) = false := by simp [hid]
        rw [this] at hk
        rw [if_neg hid]
        exact hQ (.exit id') s' β' a' w' hk h'
    | ret => exact hQ .ret s' β' a' w' hk h'
  | loop x ih =>
    intro Q K s β a w h ht hQ
    simp only [ev] at ht
    split at ht
    · exact ht.elim
    · rename_i s1 hs1
      obtain ⟨β1, h1⟩ := canon_ok hP h hs1
      refine wp_loop_fuel (J := fun m a w => ∃ s β, RS P md w0 N0 M0 pv s β a w ∧ (evLoop P md (ev P md n orc x) (orcAt orc (firstReg x)) m s K).wp P md Φ) ⟨s1, β1, h1, ht⟩ (fun a w hj => ?_) (fun m a w hj => ?_)
      · obtain ⟨_, _, _, hf⟩ := hj
        exact hf.elim
      · obtain ⟨s2, β2, h2, ht2⟩ := hj
        refine ih h2 ht2 (fun e s' β' a' w' hk h' => ?_)
        cases e with
        | normal =>
          simp only [loopK] at hk
          split at hk
          · exact hk.elim
          · rename_i s3 hs3
            obtain ⟨β3, h3⟩ := canon_ok hP h' hs3
            exact ⟨s3, β3, h3, hk⟩
        | exit id => exact hQ (.exit id) s' β' a' w' hk h'
        | ret => exact hQ .ret s' β' a' w' hk h'
  | exit id => intro Q K s β a w h ht hQ; exact wp_exit (hQ (.exit id) s β a w ht h)
  | ret => intro Q K s β a w h ht hQ; exact wp_ret (hQ .ret s β a w ht h)
  | _ => intros; rename_i ht hQ; exact (show False from ht).elim
end

end Go.Proofs.Ytcdjifdllibolaa

namespace Go.Proofs.Ytcdjifdllibolaa
open Go.RowKit

section
variable {P : Program} {md : Nat → FMode} {w0 w w' : World} {N0 M0 M : Nat → Prop} {pv : Nat → Value} {β : Nat → Value} {a : Act} {n : Nat}
theorem initL_len : ∀ {cts : List CT} {xs : List D}, xs.length = cts.length → (initL P cts xs).length = xs.length
  | [], [], _ => rfl
  | c :: cs, x :: xs, h => by simp [initL, initL_len (cts := cs) (xs := xs) (by simpa using h)]
  | [], _ :: _, h => by simp at h
  | _ :: _, [], h => by simp at h
theorem initL_at : ∀ {cts : List CT} {xs : List D} {i : Nat} {l : L}, (initL P cts xs)[i]? = some l → ∃ ct x, cts[i]? = some ct ∧ xs[i]? = some x ∧ l = ofCT P ct x
  | c :: cs, x :: xs, 0, l, h => by simp [initL] at h; exact ⟨c, x, rfl, rfl, h.symm⟩
  | c :: cs, x :: xs, i + 1, l, h => by simp only [initL, List.getElem?_cons_succ] at h; simpa using initL_at h
  | [], xs, i, l, h => by simp [initL] at h
  | _ :: _, [], i, l, h => by simp [initL] at h
/-- The values at the beginning. -/
def act0 (vs : List Value) (k : Nat) : Act := { tmps := vs.toArray ++ Array.replicate k undef, defers := [] }
theorem act0_at (vs : List Value) (k t : Nat) : (act0 vs k).tmps.getD t undef = vs.getD t undef := by
  simp only [act0, Array.getD_eq_getD_getElem?, List.getD_eq_getElem?_getD, Array.getElem?_append]
  split
  · simp
  · rename_i h
    rw [Array.getElem?_replicate, List.getElem?_eq_none (by simpa using h)]
    split <;> rfl
/-- The state at a function's beginning. -/
theorem init_ok (hP : WfP P) {fm : FMode} {fn : Func} {cts : List CT} {xs : List D} {s : St} {vs : List Value} (hi : initSt P fm fn cts xs = some s) (hx : PreA P md fm w M (fn.params.toList.map CT.ty ++ cts) xs vs) :
    ∃ β, RS P md w (lentN fm vs) M (fun t => vs.getD t undef) s β (act0 vs (fn.ntmps - xs.length)) w := by
  have hlen := initL_len (P := P) hx.lenx
  have hvl : vs.length = xs.length := by rw [hx.lenv, hx.lenx]
  have slots0 : ∀ (Mx : Nat → Prop) (look : Nat → Option Blk) (β : Nat → Value), (∀ b, Mx b → M b ∨ lentN fm vs b) → ∀ t, fm.arg ≠ some t → VL P md w Mx look β ((initL P (fn.params.toList.map CT.ty ++ cts) xs ++ List.replicate (fn.ntmps - xs.length) L.undef).getD t L.undef) (vs.getD t undef) ∧ ((initL P (fn.params.toList.map CT.ty ++ cts) xs ++ List.replicate (fn.ntmps - xs.length) L.undef).getD t L.undef).ids = [] := by
    intro Mx look β hMx t ht
    rw [List.getD_eq_getElem?_getD, List.getElem?_append]
    split
    · rename_i hlt
      rw [List.getElem?_eq_getElem hlt]
      obtain ⟨ct, x, h1, h2, h3⟩ := initL_at (List.getElem?_eq_getElem hlt)
      have hv : vs[t]? = some (vs[t]'(by omega)) := List.getElem?_eq_getElem (by omega)
      have hrd := hx.rd t ct x _ h1 h2 hv ht
      rw [Option.getD_some, h3, List.getD_eq_getElem?_getD, hv, Option.getD_some]
      exact rd_vl hP ⟨hrd.rd.mono (Nat.le_refl _) (fun _ _ _ => rfl) (fun b hb _ => hMx b hb), hrd.size, hrd.agg⟩
    · rw [List.getElem?_replicate]
      split <;> exact ⟨.inl rfl, rfl⟩
  have hM0 : ∀ b, M b → b < w.heap.size ∧ ¬ lentN fm vs b := hx.m
  have hsz : (act0 vs (fn.ntmps - xs.length)).tmps.size = (initL P (fn.params.toList.map CT.ty ++ cts) xs ++ List.replicate (fn.ntmps - xs.length) L.undef).length := by
    simp [act0, hlen, hvl]
  unfold initSt at hi
  simp only at hi
  split at hi
  · rename_i harg
    injection hi with hi
    subst hi
    refine ⟨fun _ => undef, ⟨Stp.refl _ _, hM0, hsz, fun t => ?_, (fun r b hr => by cases hr), (fun r b B hr => by cases hr), (fun r q b c B hr => by cases hr), fun t r hr => ?_, (fun q b hq => by cases hq), ⟨rfl, (fun i d x hd => by cases hd)⟩, (fun t ht => by cases ht)⟩⟩
    · rw [act0_at]
      refine (slots0 _ _ _ (fun b hb => ?_) t (by rw [harg]; simp)).1
      rcases hb with hb | ⟨_, _, hr, _⟩
      · exact .inl hb
      · cases hr
    · have h := (slots0 (fun _ => False) (fun _ => none) (fun _ => undef) (fun b hb => hb.elim) t (by rw [harg]; simp)).2
      have hr' : r ∈ ((initL P (fn.params.toList.map CT.ty ++ cts) xs ++ List.replicate (fn.ntmps - xs.length) L.undef).getD t L.undef).ids := hr
      rw [h] at hr'
      cases hr'
  · rename_i p harg
    split at hi
    · rename_i e he
      injection hi with hi
      subst hi
      obtain ⟨t, e', es, v, l1, l2, l3, l4, l5, l6⟩ := hx.lent p harg
      have hpv : p < vs.length := (List.getElem?_eq_some_iff.1 l5).1
      have hpl : p < fn.params.toList.length := by
        cases hpp : fn.params.toList[p]? with
        | none => rw [hpp] at he; simp at he
        | some u => exact (List.getElem?_eq_some_iff.1 hpp).1
      obtain rfl : e' = e := by
        rw [List.getElem?_append_left (by rw [List.length_map]; exact hpl), List.getElem?_map] at l1
        rw [List.getElem?_eq_getElem hpl] at l1 he
        simp at l1 he
        rw [l1, l2] at he
        injection he
      have hes : (xs.getD p .nil).els = es := by rw [List.getD_eq_getElem?_getD, l4]; rfl
      rw [hes]
      have hlk : ∀ r b, St.look ⟨(initL P (fn.params.toList.map CT.ty ++ cts) xs ++ List.replicate (fn.ntmps - xs.length) L.undef).set p (.row p), [(p, .row e' es true)], [p], [], if fm.back = true then [p] else []⟩ r = some b → r = p ∧ b = .row e' es true := by
        intro r b hr
        have hr' : (bif p == r then some (Blk.row e' es true) else none) = some b := hr
        by_cases e : p = r
        · subst e; simp at hr'; exact ⟨rfl, hr'.symm⟩
        · have : (p == r) = false := by simp [e]
          rw [this] at hr'; cases hr'
      have hlkp : St.look ⟨(initL P (fn.params.toList.map CT.ty ++ cts) xs ++ List.replicate (fn.ntmps - xs.length) L.undef).set p (.row p), [(p, .row e' es true)], [p], [], if fm.back = true then [p] else []⟩ p = some (.row e' es true) := by
        show (bif p == p then _ else _) = _
        simp
      have hMx : ∀ b, Mof M (St.look ⟨(initL P (fn.params.toList.map CT.ty ++ cts) xs ++ List.replicate (fn.ntmps - xs.length) L.undef).set p (.row p), [(p, .row e' es true)], [p], [], if fm.back = true then [p] else []⟩) (fun _ => v) b → M b ∨ lentN fm vs b := by
        rintro b (hb | ⟨r, k, hr, _, hB⟩)
        · exact .inl hb
        · exact .inr ⟨p, v, harg, l5, hB⟩
      have hvget : vs.getD p undef = v := by rw [List.getD_eq_getElem?_getD, l5]; rfl
      have hslot : ∀ t, ((initL P (fn.params.toList.map CT.ty ++ cts) xs ++ List.replicate (fn.ntmps - xs.length) L.undef).set p (.row p)).getD t .undef = if t = p then .row p else (initL P (fn.params.toList.map CT.ty ++ cts) xs ++ List.replicate (fn.ntmps - xs.length) L.undef).getD t .undef := by
        intro t
        rw [List.getD_eq_getElem?_getD, List.getElem?_set, List.getD_eq_getElem?_getD]
        by_cases e : t = p
        · subst e
          have : t < (initL P (fn.params.toList.map CT.ty ++ cts) xs ++ List.replicate (fn.ntmps - xs.length) L.undef).length := by rw [List.length_append, hlen]; omega
          rw [if_pos rfl, if_pos this, if_pos rfl]; rfl
        · have : ¬ p = t := fun h => e h.symm
          simp [e, this]
      refine ⟨fun _ => v, ⟨Stp.refl _ _, hM0, by rw [hsz, List.length_set], fun t => ?_, fun r b hr => ?_, fun r b B hr hB => ?_, fun r q b c B hr hq _ _ => ?_, fun t r hr => ?_, fun q b hq => ?_, ⟨rfl, (fun i d x hd => by cases hd)⟩, fun t _ => act0_at _ _ t⟩⟩
      · rw [act0_at]
        show VL P md w _ _ _ (List.getD _ t .undef) _
        rw [hslot]
        by_cases et : t = p
        · subst et
          rw [if_pos rfl, hvget]
          obtain ⟨A, cap, rfl, _⟩ := l6
          exact vl_mk (by simp) (.row ⟨_, rfl, rfl⟩ (fun _ _ _ _ => rfl)) ⟨rfl, rfl, ones_one rfl⟩
        · rw [if_neg et]
          exact (slots0 _ _ _ hMx t (fun h => et (by rw [harg] at h; injection h with h; exact h.symm))).1
      · obtain ⟨rfl, rfl⟩ := hlk r b hr
        exact RowV.mono l6 (Nat.le_refl _) (fun _ _ _ => rfl) (fun b hb _ => hMx b hb) (fun _ _ => rfl)
      · refine ⟨.inr ⟨p, v, harg, l5, hB⟩, ?_⟩
        obtain ⟨A, cap, rfl, hh⟩ := l6
        rcases hh with ⟨_, hcap⟩ | ⟨B', cur, rfl, h0, h1, _⟩
        · subst hcap; cases A <;> simp [ownB] at hB
        · have : B' = B := by simp [ownB] at hB; exact hB.2
          subst this
          exact (Array.getElem?_eq_some_iff.1 h1).1
      · rw [(hlk r b hr).1, (hlk q c hq).1]
      · have hr' : r ∈ (((initL P (fn.params.toList.map CT.ty ++ cts) xs ++ List.replicate (fn.ntmps - xs.length) L.undef).set p (.row p)).getD t L.undef).ids := hr
        rw [hslot] at hr'
        by_cases et : t = p
        · rw [if_pos et] at hr'; simpa [L.ids] using hr'
        · rw [if_neg et, (slots0 (fun _ => False) (fun _ => none) (fun _ => undef) (fun b hb => hb.elim) t (fun h => et (by rw [harg] at h; injection h with h; exact h.symm))).2] at hr'
          cases hr'
      · obtain ⟨rfl, rfl⟩ := hlk q b hq
        exact ⟨by simp, by intro r hr; simp [Blk.ids] at hr⟩
    · cases hi

def resF (tmps : Array Value) : ResultVar → Sem Value
  | .tmp t => pure (tmps.getD t undef)
  | .cell x t => do loadVar t (← asAddr (tmps.getD x undef))
def ResOk (P : Program) (md : Nat → FMode) (M0 : Nat → Prop) (s : St) (β : Nat → Value) (a : Act) (w : World) (rs : List ResultVar) (ts : List Nat) (ys : List D) : Prop :=
  ∃ us : List Value, (rs.mapM (resF a.tmps)).run P w = .ok us w ∧ us.length = ts.length ∧ ys.length = ts.length ∧ rs.length = ts.length ∧
      ∀ (i : Nat) (t : Nat) (y : D) (u : Value), ts[i]? = some t → ys[i]? = some y → us[i]? = some u → ∃ l, (retLs s rs)[i]? = some l ∧ okAt P t l = true ∧ conv P md s.look l t = some y ∧ VL P md w (Mof M0 s.look β) s.look β l u
/-- What is told, as values. -/
theorem res_run (hP : WfP P) {s : St} (h : RS P md w0 N0 M0 pv s β a w) : ∀ {rs : List ResultVar} {ts : List Nat} {ys : List D}, retDs P md s rs ts = some ys → ResOk P md M0 s β a w rs ts ys
  | [], [], ys, hr => by
    simp only [retDs, Option.some.injEq] at hr
    subst hr
    exact ⟨[], by simp, rfl, rfl, rfl, fun i t y u ht => by simp at ht⟩
  | r :: rs, t :: ts, ys, hr => by
    simp only [retDs] at hr
    split at hr
    · rename_i x xs hx hxs
      injection hr with hr
      subst hr
      obtain ⟨us, g1, g2, g3, g4, g5⟩ := res_run hP h hxs
      have fin : ∀ (l : L) (u : Value), (resF a.tmps r).run P w = .ok u w → retL s r = some l → okAt P t l = true → conv P md s.look l t = some x → VL P md w (Mof M0 s.look β) s.look β l u → ResOk P md M0 s β a w (r :: rs) (t :: ts) (x :: xs) := by
        intro l u q1 q2 q3 q4 q5
        refine ⟨u :: us, ?_, by simp [g2], by simp [g3], by simp [g4], fun i t' y u' ht hy hu => ?_⟩
        · rw [List.mapM_cons]
          simp only [Sem.run_bind]
          rw [q1]
          simp only [Result.andThen_ok]
          rw [g1]
          simp
        · cases i with
          | zero =>
            simp at ht hy hu
            subst ht; subst hy; subst hu
            exact ⟨l, by simp [retLs, q2], q3, q4, q5⟩
          | succ i =>
            obtain ⟨l', k1, k2⟩ := g5 i t' y u' (by simpa using ht) (by simpa using hy) (by simpa using hu)
            exact ⟨l', by simpa [retLs] using k1, k2⟩
      cases r with
      | tmp q =>
        simp only at hx
        split at hx
        · rename_i hok
          exact fin (s.slot q) (a.tmps.getD q undef) (by simp [resF]) rfl hok hx (h.slots q)
        · cases hx
      | cell q t' =>
        simp only at hx
        split at hx
        · rename_i htt
          have : t' = t := by simpa using htt
          subst this
          split at hx
          · rename_i b hq
            split at hx
            · rename_i t0 l lv hb
              split at hx
              · rename_i hc
                simp only [Bool.and_eq_true, beq_iff_eq] at hc
                obtain ⟨rfl, hok⟩ := hc
                have hv := h.slots q
                rw [hq] at hv
                obtain ⟨_, vx⟩ := vl_ptr hv hb
                obtain ⟨B, cs, T, b1, b2, b3, b4, b5, b6⟩ := h.blks b _ hb
                obtain ⟨u, hu, hvl⟩ := load_arr (l := l) (t := t0) (B := B) (off := 0) hP b2 (by simpa using b5) hok b4 (by omega) b6
                refine fin l u ?_ (by simp [retL, hq, hb]) hok hx hvl
                simp only [resF, vx, b1, blkOf, ownB, Option.getD_some, offAt]
                simpa [asAddr] using hu
              · cases hx
            · cases hx
          · cases hx
        · cases hx
    · cases hr
  | [], _ :: _, ys, hr => by simp [retDs] at hr
  | _ :: _, [], ys, hr => by simp [retDs] at hr

theorem results_run {fn : Func} {tmps : Array Value} {us : List Value} (h : (fn.results.toList.mapM (resF tmps)).run P w = .ok us w) : (results fn tmps).run P w = .ok (retV us) w := by
  have e : results fn tmps = (do let vs ← fn.results.mapM (resF tmps); pure (if h : vs.size = 1 then vs[0] else .tuple vs)) := by
    unfold results
    congr 1
  rw [e, Array.mapM_eq_mapM_toList]
  simp only [Sem.run_bind, map_eq_pure_bind, h, Result.andThen_ok, Sem.run_pure]
  congr 1
  match us with
  | [] => rfl
  | [u] => rfl
  | u1 :: u2 :: us => simp [retV]
theorem count_two {r : Nat} {look : Nat → Option Blk} : ∀ {ls : List L} {i j : Nat} {l k : L}, ls[i]? = some l → ls[j]? = some k → i ≠ j → r ∈ fzOf look l → r ∈ fzOf look k → 2 ≤ (fzOfs look ls).count r
  | x :: ls, 0, 0, l, k, _, _, hne, _, _ => absurd rfl hne
  | x :: ls, 0, j + 1, l, k, hi, hj, _, h1, h2 => by
    simp at hi; subst hi
    simp only [fzOfs, List.flatMap_cons, List.count_append]
    have a1 : 0 < (fzOf look x).count r := List.count_pos_iff.2 h1
    have a2 : 0 < (ls.flatMap (fzOf look)).count r := List.count_pos_iff.2 (List.mem_flatMap.2 ⟨k, List.mem_of_getElem? (by simpa using hj), h2⟩)
    omega
  | x :: ls, i + 1, 0, l, k, hi, hj, _, h1, h2 => by
    simp at hj; subst hj
    simp only [fzOfs, List.flatMap_cons, List.count_append]
    have a1 : 0 < (fzOf look x).count r := List.count_pos_iff.2 h2
    have a2 : 0 < (ls.flatMap (fzOf look)).count r := List.count_pos_iff.2 (List.mem_flatMap.2 ⟨l, List.mem_of_getElem? (by simpa using hi), h1⟩)
    omega
  | x :: ls, i + 1, j + 1, l, k, hi, hj, hne, h1, h2 => by
    have := count_two (ls := ls) (by simpa using hi) (by simpa using hj) (fun e => hne (by rw [e])) h1 h2
    simp only [fzOfs, List.flatMap_cons, List.count_append] at this ⊢
    omega
  | [], i, j, l, k, hi, _, _, _, _ => by simp at hi
theorem noDup2_at : ∀ {os : List (Nat × List Nat)} {i j : Nat} {o : Nat × List Nat}, noDup2 os = true → os[i]? = some o → os[j]? = some o → i = j
  | x :: os, 0, 0, _, _, _, _ => rfl
  | x :: os, 0, j + 1, o, h, hi, hj => by
    simp at hi; subst hi
    simp only [noDup2, Bool.and_eq_true, Bool.not_eq_true'] at h
    have : x ∈ os := List.mem_of_getElem? (by simpa using hj)
    have h1 := h.1
    rw [List.contains_iff_mem.2 this] at h1
    cases h1
  | x :: os, i + 1, 0, o, h, hi, hj => by
    simp at hj; subst hj
    simp only [noDup2, Bool.and_eq_true, Bool.not_eq_true'] at h
    have : x ∈ os := List.mem_of_getElem? (by simpa using hi)
    have h1 := h.1
    rw [List.contains_iff_mem.2 this] at h1
    cases h1
  | x :: os, i + 1, j + 1, o, h, hi, hj => by
    simp only [noDup2, Bool.and_eq_true] at h
    have := noDup2_at (os := os) (i := i) (j := j) (o := o) h.2 (by simpa using hi) (by simpa using hj)
    omega
  | [], i, j, o, _, hi, _ => by simp at hi
theorem count_rowsL {r : Nat} : ∀ {ls : List L} {i j : Nat} {l k : L}, ls[i]? = some l → ls[j]? = some k → i ≠ j → r ∈ l.rows → r ∈ k.rows → 2 ≤ (L.rowsL ls).count r
  | x :: ls, 0, 0, l, k, _, _, hne, _, _ => absurd rfl hne
  | x :: ls, 0, j + 1, l, k, hi, hj, _, h1, h2 => by
    simp at hi; subst hi
    simp only [L.rowsL, List.count_append]
    have a1 : 0 < x.rows.count r := List.count_pos_iff.2 h1
    have a2 : 0 < (L.rowsL ls).count r := List.count_pos_iff.2 (mem_rowsL (i := j) (by simpa using hj) r h2)
    omega
  | x :: ls, i + 1, 0, l, k, hi, hj, _, h1, h2 => by
    simp at hj; subst hj
    simp only [L.rowsL, List.count_append]
    have a1 : 0 < x.rows.count r := List.count_pos_iff.2 h2
    have a2 : 0 < (L.rowsL ls).count r := List.count_pos_iff.2 (mem_rowsL (i := i) (by simpa using hi) r h1)
    omega
  | x :: ls, i + 1, j + 1, l, k, hi, hj, hne, h1, h2 => by
    have := count_rowsL (ls := ls) (i := i) (j := j) (by simpa using hi) (by simpa using hj) (fun e => hne (by rw [e])) h1 h2
    simp only [L.rowsL, List.count_append]
    omega
  | [], i, j, l, k, hi, _, _, _, _ => by simp at hi
theorem count_le_fzOfs {r : Nat} {look : Nat → Option Blk} : ∀ {ls : List L} {i : Nat} {l : L}, ls[i]? = some l → (fzOf look l).count r ≤ (fzOfs look ls).count r
  | x :: ls, 0, l, hi => by simp at hi; subst hi; simp only [fzOfs, List.flatMap_cons, List.count_append]; omega
  | x :: ls, i + 1, l, hi => by
    have := count_le_fzOfs (r := r) (look := look) (ls := ls) (i := i) (l := l) (by simpa using hi)
    simp only [fzOfs, List.flatMap_cons, List.count_append] at this ⊢
    omega
  | [], i, l, hi => by simp at hi
theorem rows_sub {l lo : L} {p : List Nat} (h : subL1 l p = some lo) : ∀ r ∈ lo.rows, r ∈ l.rows := by
  intro r hr
  match l, p, h with
  | l, [], h => simp only [subL1, Option.some.injEq] at h; subst h; exact hr
  | .agg t ls, [j], h => simp only [subL1] at h; simp only [L.rows]; exact mem_rowsL h r hr
theorem rows_fz {l : L} {look : Nat → Option Blk} : ∀ r ∈ l.rows, r ∈ fzOf look l := by
  intro r hr
  cases l <;> first | exact hr | simp [L.rows] at hr
/-- A part of what is told. -/
theorem sub_at {look lookR : Nat → Option Blk} {l lo : L} {p : List Nat} {t : Nat} {x : D} {u : Value} (hs : subL1 l p = some lo) (hl : LC P md w M look β l (fun j => u.cells[j]?)) (hx : conv P md lookR l t = some x) :
    ∃ ut, typeAt P t p = some ut ∧ conv P md lookR lo ut = some (x.path p) ∧ LC P md w M look β lo (fun j => u.cells[offAt P t p + j]?) := by
  match l, p, hs with
  | l, [], hs =>
    simp only [subL1, Option.some.injEq] at hs
    subst hs
    exact ⟨t, rfl, hx, by simpa [offAt] using hl⟩
  | .agg t' ls, [j], hs =>
    simp only [subL1] at hs
    have hx' : conv0 P lookR (.agg t' ls) t = some x := hx
    simp only [conv0] at hx'
    split at hx'
    · rename_i hte
      obtain rfl : t' = t := by simpa using hte
      cases hl with
      | @agg _ fs _ _ ht hlen h hz =>
        rw [ht] at hx'
        simp only [Option.map_eq_some_iff] at hx'
        obtain ⟨xs, hxs, rfl⟩ := hx'
        obtain ⟨h1, h2, h3⟩ := convs0_at hxs
        have hj : j < ls.length := (List.getElem?_eq_some_iff.1 hs).1
        have hf := List.getElem?_eq_getElem (l := fs) (i := j) (by omega)
        have hd := List.getElem?_eq_getElem (l := xs) (i := j) (by rw [h2, List.length_map]; omega)
        have hc := h3 j lo _ _ hs (by rw [List.getElem?_map, hf]; rfl) hd
        refine ⟨(fs[j]).type, by simp [typeAt, ht, hf], ?_, ?_⟩
        · have hnf : ∀ f caps, lo ≠ .fn f caps := by intro f caps e; subst e; simp [conv0] at hc
          rw [conv_fn_false hnf, hc]
          simp [D.path, D.fld, D.fs, List.getD_eq_getElem?_getD, hd]
        · have := h j _ lo hf hs
          simpa [offAt, ht, hf] using this
    · cases hx'
/-- What a call tells, with its own rows. -/
theorem setOwn_at {rts : List Nat} : ∀ {os : List (Nat × List Nat)} {d : Nat} {ls0 ls : List L}, (∀ o ∈ os, o.2 = [] ∨ ∃ j, o.2 = [j]) → setOwn P rts os d ls0 = some ls → ∀ (i t : Nat) (l0 l : L), rts[i]? = some t → ls0[i]? = some l0 → ls[i]? = some l →
    (∃ k : Nat, os[k]? = some (i, []) ∧ l = .row (d + 100000 * k)) ∨ ((∀ o ∈ os, o.1 ≠ i) ∧ l = l0) ∨
    (∃ fs ls1 zs, (∃ j, (i, [j]) ∈ os) ∧ fieldsOf P t = some fs ∧ partsOf P t fs l0 = some ls1 ∧ l = .agg t zs ∧ zs.length = ls1.length ∧ ∀ (j : Nat) (z : L), zs[j]? = some z → (∃ k : Nat, os[k]? = some (i, [j]) ∧ z = .row (d + 100000 * k)) ∨ ((∀ o ∈ os, o ≠ (i, [j])) ∧ ls1[j]? = some z))
  | [], d, ls0, ls, _, h, i, t, l0, l, _, hl0, hl => by
    simp only [setOwn, Option.some.injEq] at h
    subst h
    rw [hl0] at hl
    injection hl with hl
    exact .inr (.inl ⟨by simp, hl.symm⟩)
  | o :: os, d, ls0, ls, ho, h, i, t, l0, l, ht, hl0, hl => by
    simp only [setOwn] at h
    split at h
    · rename_i t1 l1 ht1 hl1
      split at h
      · rename_i l' hl'
        have hlt : o.1 < ls0.length := (List.getElem?_eq_some_iff.1 hl1).1
        by_cases e : o.1 = i
        · subst e
          rw [ht] at ht1; injection ht1 with ht1; subst ht1
          rw [hl0] at hl1; injection hl1 with hl1; subst hl1
          have rec_ := setOwn_at (fun q hq => ho q (by simp [hq])) h o.1 t l' l ht (List.getElem?_set_self hlt) hl
          rcases ho o (by simp) with hp | ⟨j, hp⟩
          · rw [hp] at hl'
            simp only [setL, Option.some.injEq] at hl'
            subst hl'
            rcases rec_ with ⟨k, h1, h2⟩ | ⟨h1, h2⟩ | ⟨fs, ls1, zs, _, h2, h3, _⟩
            · exact .inl ⟨k + 1, by simpa using h1, by rw [h2]; congr 1; omega⟩
            · exact .inl ⟨0, by rw [← hp]; rfl, by rw [h2]; rfl⟩
            · simp [partsOf] at h3
          · rw [hp] at hl'
            simp only [setL] at hl'
            split at hl'
            · cases hl'
            · rename_i fs hfs
              split at hl'
              · cases hl'
              · rename_i ls1 hls1
                split at hl'
                · rename_i f l'' hf hl''
                  simp only [Option.map_some, Option.some.injEq] at hl'
                  subst hl'
                  have hj : j < ls1.length := (List.getElem?_eq_some_iff.1 hl'').1
                  have hfl : ls1.length = fs.length := by
                    cases l0 <;> simp only [partsOf] at hls1 <;> first | cases hls1 | skip
                    · split at hls1
                      · injection hls1 with hls1; rw [← hls1, expand_len]
                      · cases hls1
                    · split at hls1
                      · rename_i hh; injection hls1 with hls1; subst hls1; simp only [Bool.and_eq_true, beq_iff_eq] at hh; exact hh.2
                      · cases hls1
                  have hpo : partsOf P t fs (.agg t (ls1.set j (.row d))) = some (ls1.set j (.row d)) := by simp [partsOf, hfl]
                  have hset : ∀ (q : Nat) (z : L), (ls1.set j (.row d))[q]? = some z → (q = j ∧ z = .row d) ∨ (q ≠ j ∧ ls1[q]? = some z) := by
                    intro q z hz
                    by_cases e : j = q
                    · subst e; rw [List.getElem?_set_self hj] at hz; injection hz with hz; exact .inl ⟨rfl, hz.symm⟩
                    · rw [List.getElem?_set_ne e] at hz; exact .inr ⟨fun e' => e e'.symm, hz⟩
                  rcases rec_ with ⟨k, h1, h2⟩ | ⟨h1, h2⟩ | ⟨fs', ls1', zs, ⟨j', h1⟩, h2, h3, h4, h5, h6⟩
                  · exact .inl ⟨k + 1, by simpa using h1, by rw [h2]; congr 1; omega⟩
                  · refine .inr (.inr ⟨fs, ls1, _, ⟨j, by rw [← hp]; simp⟩, hfs, hls1, h2, by simp, fun q z hz => ?_⟩)
                    rcases hset q z hz with ⟨rfl, rfl⟩ | ⟨hq, hz⟩
                    · exact .inl ⟨0, by rw [← hp]; rfl, rfl⟩
                    · refine .inr ⟨fun o' ho' e' => ?_, hz⟩
                      rcases List.mem_cons.1 ho' with rfl | ho'
                      · rw [e'] at hp; simp at hp; exact hq hp
                      · exact h1 o' ho' (by rw [e'])
                  · rw [hfs] at h2; injection h2 with h2; subst h2
                    rw [hpo] at h3; injection h3 with h3; subst h3
                    refine .inr (.inr ⟨fs, ls1, zs, ⟨j, by rw [← hp]; simp⟩, hfs, hls1, h4, by rw [h5, List.length_set], fun q z hz => ?_⟩)
                    rcases h6 q z hz with ⟨k, k1, k2⟩ | ⟨k1, k2⟩
                    · exact .inl ⟨k + 1, by simpa using k1, by rw [k2]; congr 1; omega⟩
                    · rcases hset q z k2 with ⟨rfl, rfl⟩ | ⟨hq, hz'⟩
                      · exact .inl ⟨0, by rw [← hp]; rfl, rfl⟩
                      · refine .inr ⟨fun o' ho' e' => ?_, hz'⟩
                        rcases List.mem_cons.1 ho' with rfl | ho'
                        · rw [e'] at hp; simp at hp; exact hq hp
                        · exact k1 o' ho' e'
                · cases hl'
        · have rec_ := setOwn_at (fun q hq => ho q (by simp [hq])) h i t l0 l ht (by rw [List.getElem?_set_ne e]; exact hl0) hl
          rcases rec_ with ⟨k, h1, h2⟩ | ⟨h1, h2⟩ | ⟨fs', ls1', zs, ⟨j', h1⟩, h2, h3, h4, h5, h6⟩
          · exact .inl ⟨k + 1, by simpa using h1, by rw [h2]; congr 1; omega⟩
          · exact .inr (.inl ⟨fun q hq => by rcases List.mem_cons.1 hq with rfl | hq; · exact e
                                             · exact h1 q hq, h2⟩)
          · refine .inr (.inr ⟨fs', ls1', zs, ⟨j', by simp [h1]⟩, h2, h3, h4, h5, fun q z hz => ?_⟩)
            rcases h6 q z hz with ⟨k, k1, k2⟩ | ⟨k1, k2⟩
            · exact .inl ⟨k + 1, by simpa using k1, by rw [k2]; congr 1; omega⟩
            · refine .inr ⟨fun o' ho' e' => ?_, k2⟩
              rcases List.mem_cons.1 ho' with rfl | ho'
              · rw [e'] at e; exact e rfl
              · exact k1 o' ho' e'
      · cases h
    · cases h
theorem postLook_cases {fm : FMode} {ps rts : List Nat} {ys : List D} {d bid q : Nat} {b : Blk} (h : postLook P fm ps rts ys d bid q = some b) : (∃ (k : Nat) (o : Nat × List Nat), fm.own[k]? = some o ∧ q = d + 100000 * k ∧ ∃ e, ownT P rts o = some e ∧ b = .row e ((ys.getD o.1 .nil).path o.2).els true) ∨ (q = bid ∧ fm.back = true ∧ b = .row (lentE P ps fm) (ys.getD rts.length .nil).els true) := by
  by_cases ho : ownId d fm.own.length q
  · obtain ⟨k, hk, rfl⟩ := ho
    rw [postLook, effF_append, ownEff_at (List.getElem?_eq_getElem hk)] at h
    obtain ⟨e, he, hb⟩ := Option.map_eq_some_iff.1 h
    exact .inl ⟨k, fm.own[k], List.getElem?_eq_getElem hk, rfl, e, he, hb.symm⟩
  · rw [postLook, effF_append, ownEff_not ho] at h
    cases hb : fm.back with
    | false => rw [backEff, hb] at h; simp [effF] at h
    | true =>
      rw [backEff, hb] at h
      simp only [if_true, effF] at h
      by_cases e : q = bid
      · subst e; rw [updN_same] at h; injection h with h; exact .inr ⟨rfl, rfl, h.symm⟩
      · rw [updN_ne _ _ e] at h; cases h
end

end Go.Proofs.Ytcdjifdllibolaa

namespace Go.Proofs.Ytcdjifdllibolaa
open Go.RowKit

section
variable {P : Program} {md : Nat → FMode} {w0 w w' : World} {N0 M0 M : Nat → Prop} {pv : Nat → Value} {β : Nat → Value} {a : Act} {n : Nat}
/-- At the end of a function. -/
theorem ret_ok (hP : WfP P) {fm : FMode} {fn : Func} {s : St} {vs : List Value} {ys : List D} {d bid : Nat} {x : Ex} (hx : ∀ id, x ≠ .exit id) (hbid : ∀ k, k < fm.own.length → bid ≠ d + 100000 * k) (h : RS P md w0 (lentN fm vs) M (fun t => vs.getD t undef) s β a w) (hk : (retK P md fm fn.params.toList fn.results.toList fn.resultTypes.toList x s).wp P md (fun zs => zs = ys)) :
    (∀ d ∈ a.defers, ∃ f vs, d = { target := .fn (.func f) vs, args := #[] } ∧ (md f).noop = true) ∧ ∃ v, (results fn a.tmps).run P w = .ok v w ∧ ∃ us β', PostA P md fm w0 M fn.params.toList fn.resultTypes.toList vs ys d bid (.returned v) w us β' := by
  have hk' : (match retDs P md s fn.results.toList fn.resultTypes.toList, backD s (lentE P fn.params.toList fm) (if fm.back then fm.arg else none) with
    | some ys, some bs => bif (fm.arg.isSome || !fm.back) && ownOk P fn.resultTypes.toList fm.own && retOwn s fn.results.toList (if fm.back then fm.arg else none) fm.own then Tree.ret (ys ++ bs) else .fail
    | _, _ => .fail).wp P md (fun zs => zs = ys) := by
    cases x with
    | exit id => exact absurd rfl (hx id)
    | normal => exact hk
    | ret => exact hk
  clear hk
  split at hk'
  · rename_i ys' bs hys hbs
    cases hcond : ((fm.arg.isSome || !fm.back) && ownOk P fn.resultTypes.toList fm.own && retOwn s fn.results.toList (if fm.back then fm.arg else none) fm.own) with
    | false => rw [hcond] at hk'; exact hk'.elim
    | true =>
      rw [hcond] at hk'
      obtain rfl : ys' ++ bs = ys := hk'
      simp only [Bool.and_eq_true] at hcond
      obtain ⟨⟨hab, hoo⟩, hro⟩ := hcond
      obtain ⟨us, g1, g2, g3, g4, g5⟩ := res_run hP h hys
      have hdefs : ∀ d ∈ a.defers, ∃ f vs, d = { target := .fn (.func f) vs, args := #[] } ∧ (md f).noop = true := by
        intro d hd
        obtain ⟨i, hi⟩ := List.getElem?_of_mem hd
        have h1 := h.defs.1
        have hlt := (List.getElem?_eq_some_iff.1 hi).1
        rw [h1] at hlt
        obtain ⟨vs, e1, _, e2⟩ := h.defs.2 i _ d (List.getElem?_eq_getElem hlt) hi
        exact ⟨_, vs, e1, e2⟩
      refine ⟨hdefs, retV us, results_run g1, us, ?_⟩
      simp only [retOwn, Bool.and_eq_true, List.all_eq_true] at hro
      obtain ⟨⟨hnd, hbk⟩, hown⟩ := hro
      generalize hls0 : retLs s fn.results.toList = ls0 at *
      -- the rows of the call's own
      have hrow : ∀ (k : Nat) (o : Nat × List Nat), fm.own[k]? = some o → (o.2 = [] ∨ ∃ j, o.2 = [j]) ∧ ∃ t ut y u l0 lo vo, fn.resultTypes.toList[o.1]? = some t ∧ ys'[o.1]? = some y ∧ us[o.1]? = some u ∧ ls0[o.1]? = some l0 ∧ subL1 l0 o.2 = some lo ∧ typeAt P t o.2 = some ut ∧ conv P md s.look lo ut = some (y.path o.2) ∧ u.cells[offAt P t o.2]? = some vo ∧
          ((lo = .mt ∧ ∃ A, vo = .slice A 0 0) ∨ ∃ r e es, lo = .row r ∧ s.look r = some (.row e es true) ∧ (fzOfs s.look ls0).count r = 1 ∧ vo = β r) := by
        intro k o ho
        have h2 := hown o (List.mem_of_getElem? ho)
        obtain ⟨l0, lo, hl0, hlo⟩ : ∃ l0 lo, ls0[o.1]? = some l0 ∧ subL1 l0 o.2 = some lo := by
          split at h2
          · rename_i hh; obtain ⟨l0, q1, q2⟩ := Option.bind_eq_some_iff.1 hh; exact ⟨l0, _, q1, q2⟩
          · rename_i hh; obtain ⟨l0, q1, q2⟩ := Option.bind_eq_some_iff.1 hh; exact ⟨l0, _, q1, q2⟩
          · cases h2
        have hp : o.2 = [] ∨ ∃ j, o.2 = [j] := by
          match l0, h3 : o.2, hlo with
          | _, [], _ => exact .inl rfl
          | .agg _ _, [j], _ => exact .inr ⟨j, rfl⟩
        have hlt := (List.getElem?_eq_some_iff.1 hl0).1
        have hl : ls0.length = fn.resultTypes.toList.length := by rw [← hls0, retLs, List.length_map]; exact g4
        have ht := List.getElem?_eq_getElem (l := fn.resultTypes.toList) (i := o.1) (by omega)
        have hy := List.getElem?_eq_getElem (l := ys') (i := o.1) (by omega)
        have hu := List.getElem?_eq_getElem (l := us) (i := o.1) (by omega)
        obtain ⟨l, k1, k2, k3, k4⟩ := g5 o.1 _ _ _ ht hy hu
        rw [hl0] at k1
        injection k1 with k1
        subst k1
        obtain ⟨n1, n2, n3⟩ := conv_ne k3
        obtain ⟨hlc, _⟩ := vl_ne k4 n1 n2 n3
        obtain ⟨ut, u1, u2, u3⟩ := sub_at hlo hlc k3
        rw [hl0, Option.bind_some, hlo] at h2
        split at h2
        · rename_i hh
          injection hh with hh
          subst hh
          cases u3 with
          | mt hc => exact ⟨hp, _, ut, _, _, _, _, _, ht, hy, hu, hl0, hlo, u1, u2, by simpa using hc, .inl ⟨rfl, _, rfl⟩⟩
        · rename_i r hh
          injection hh with hh
          subst hh
          split at h2
          · rename_i e es hr
            cases u3 with
            | row _ hc => exact ⟨hp, _, ut, _, _, _, _, _, ht, hy, hu, hl0, hlo, u1, u2, by simpa using hc e es true hr, .inr ⟨r, e, es, rfl, hr, by simpa using h2, rfl⟩⟩
          · cases h2
        · cases h2
      -- the row that is given back
      have hback : fm.back = true → ∃ p es v, fm.arg = some p ∧ s.look p = some (.row (lentE P fn.params.toList fm) es true) ∧ bs = [.sl es] ∧ β p = vs.getD p undef ∧ p ∉ fzOfs s.look ls0 ∧ v = vs.getD p undef := by
        intro hb
        rw [hb] at hbs hbk
        simp only [if_true] at hbs hbk
        cases ha : fm.arg with
        | none => rw [ha, hb] at hab; simp at hab
        | some p =>
          rw [ha] at hbs hbk
          simp only [backD] at hbs
          split at hbs
          · rename_i q e' es hq hp
            cases hcc : (e' == lentE P fn.params.toList fm && q == p && s.pins.contains p) with
            | false => rw [hcc] at hbs; cases hbs
            | true =>
              rw [hcc] at hbs
              simp only [Bool.and_eq_true, beq_iff_eq] at hcc
              obtain ⟨⟨rfl, rfl⟩, hpin⟩ := hcc
              simp only [cond_true, Option.some.injEq] at hbs
              have hv := h.slots q
              rw [hq] at hv
              have h1 := vl_row hv hp
              have h2 := h.pin q (by simpa [St.dp] using hpin)
              refine ⟨q, es, _, rfl, hp, hbs.symm, ?_, by simpa using hbk, rfl⟩
              rw [← h1, h2]
          · cases hbs
      obtain ⟨β2, hβo, hβb⟩ : ∃ β2 : Nat → Value, (∀ (k : Nat) (o : Nat × List Nat), fm.own[k]? = some o → β2 (d + 100000 * k) = (us.getD o.1 undef).cells.getD (offAt P (fn.resultTypes.toList.getD o.1 0) o.2) undef) ∧ β2 bid = vs.getD (fm.arg.getD 0) undef := by
        refine ⟨fun q => if q = bid then vs.getD (fm.arg.getD 0) undef else (us.getD ((fm.own.getD ((q - d) / 100000) (0, [])).1) undef).cells.getD (offAt P (fn.resultTypes.toList.getD ((fm.own.getD ((q - d) / 100000) (0, [])).1) 0) (fm.own.getD ((q - d) / 100000) (0, [])).2) undef, fun k o ho => ?_, by simp⟩
        have hk := (List.getElem?_eq_some_iff.1 ho).1
        have hne : ¬ d + 100000 * k = bid := fun e => hbid k hk e.symm
        simp only [hne, if_false]
        rw [show (d + 100000 * k - d) / 100000 = k by omega, show fm.own.getD k (0, []) = o by rw [List.getD_eq_getElem?_getD, ho]; rfl]
      have hβv : ∀ (k : Nat) (o : Nat × List Nat) (t : Nat) (u vo : Value), fm.own[k]? = some o → fn.resultTypes.toList[o.1]? = some t → us[o.1]? = some u → u.cells[offAt P t o.2]? = some vo → β2 (d + 100000 * k) = vo := by
        intro k o t u vo ho h1 h2 h3
        rw [hβo k o ho, show us.getD o.1 undef = u by rw [List.getD_eq_getElem?_getD, h2]; rfl, show fn.resultTypes.toList.getD o.1 0 = t by rw [List.getD_eq_getElem?_getD, h1]; rfl, Array.getD_eq_getD_getElem?, h3]; rfl
      refine ⟨β2, ?_⟩
      have src : ∀ q b B, postLook P fm fn.params.toList fn.resultTypes.toList (ys' ++ bs) d bid q = some b → ownB (β2 q) = some B → ∃ r kb, s.look r = some kb ∧ kb.live = true ∧ ownB (β r) = some B ∧ ((∃ (k : Nat) (o : Nat × List Nat) (l0 : L), fm.own[k]? = some o ∧ q = d + 100000 * k ∧ ls0[o.1]? = some l0 ∧ subL1 l0 o.2 = some (.row r) ∧ (fzOfs s.look ls0).count r = 1) ∨ (q = bid ∧ fm.back = true ∧ fm.arg = some r ∧ r ∉ fzOfs s.look ls0)) := by
        intro q b B hq hB
        rcases postLook_cases hq with ⟨k, o, ho, rfl, e, he, rfl⟩ | ⟨rfl, hb, rfl⟩
        · obtain ⟨_, t, ut, y, u, l0, lo, vo, h1, h2, h3, h4, h5, h6, h7, h8, h9⟩ := hrow k o ho
          rw [hβv k o t u vo ho h1 h3 h8] at hB
          rcases h9 with ⟨_, A, rfl⟩ | ⟨r, e', es, rfl, m2, m3, rfl⟩
          · cases A <;> simp [ownB] at hB
          · exact ⟨r, _, m2, rfl, hB, .inl ⟨k, o, l0, ho, rfl, h4, h5, m3⟩⟩
        · obtain ⟨p, es, v, h1, h2, h3, h4, h5, h6⟩ := hback hb
          rw [hβb, h1, Option.getD_some, ← h4] at hB
          exact ⟨p, _, h2, rfl, hB, .inr ⟨rfl, hb, h1, h5⟩⟩
      have hM2 : ∀ b, Mof M (postLook P fm fn.params.toList fn.resultTypes.toList (ys' ++ bs) d bid) β2 b → Mof M s.look β b := by
        rintro b (hb | ⟨q, k, hq, _, hB⟩)
        · exact .inl hb
        · obtain ⟨r, kb, h1, h2, h3, _⟩ := src q k b hq hB
          exact .inr ⟨r, kb, h1, h2, h3⟩
      have hysl : ∀ i, i < ys'.length → (ys' ++ bs).getD i .nil = ys'.getD i .nil := by
        intro i hi
        rw [List.getD_eq_getElem?_getD, List.getElem?_append_left hi, List.getD_eq_getElem?_getD]
      refine ⟨rfl, g2, h.stp, fun ls hls i l u hl hu => ?_, fun r b hr => ?_, fun r b B hr hB => ?_, fun r q b c B hr hq hB hB' => ?_, fun hb p v hp hv => ?_⟩
      · have hi : i < fn.resultTypes.toList.length := by rw [← g2]; exact (List.getElem?_eq_some_iff.1 hu).1
        have ht := List.getElem?_eq_getElem hi
        obtain ⟨yi, hy⟩ : ∃ yi, ys'[i]? = some yi := ⟨_, List.getElem?_eq_getElem (by omega)⟩
        obtain ⟨l1, k1, k2, k3, k4⟩ := g5 i _ _ _ ht hy hu
        obtain ⟨n1, n2, n3⟩ := conv_ne k3
        obtain ⟨hlc, hs'⟩ := vl_ne k4 n1 n2 n3
        have hl0 : (resL P fn.resultTypes.toList (ys' ++ bs) 0)[i]? = some (ofD P fn.resultTypes.toList[i] yi) := by
          rw [resL_at ht, Nat.zero_add, hysl i (by omega), List.getD_eq_getElem?_getD, hy, Option.getD_some]
        rcases setOwn_at (fun o ho => by obtain ⟨k, hk⟩ := List.getElem?_of_mem ho; exact (hrow k o hk).1) hls i _ _ l ht hl0 hl with ⟨k, ho, rfl⟩ | ⟨hno, rfl⟩ | ⟨fs, ls1, zs, ⟨j0, hj0⟩, hfs, hpo, rfl, hzl, hz⟩
        · obtain ⟨_, t, ut, y, u', l0, lo, vo, h1, h2, h3, h4, h5, h6, h7, h8, h9⟩ := hrow k _ ho
          simp only [subL1, Option.some.injEq] at h5
          subst h5
          rw [h4] at k1; injection k1 with k1; subst k1
          rw [hu] at h3; injection h3 with h3; subst h3
          have hag : l0.isAgg P = false := by
            rcases h9 with ⟨rfl, _⟩ | ⟨r, e', es, rfl, _⟩ <;> rfl
          have hcs := one_c hs' hag
          have hvo : vo = u := by rw [hcs] at h8; simp [offAt] at h8; exact h8.symm
          subst hvo
          have hsl : ∃ A len cap, vo = .slice A len cap := by
            rcases h9 with ⟨_, A, hA⟩ | ⟨r, e', es, m1, m2, m3, hA⟩
            · exact ⟨A, 0, 0, hA⟩
            · obtain ⟨A, cap, hv, _⟩ := (show RowV P md w _ e' es (β r) from h.blks r _ m2)
              exact ⟨A, _, cap, hA.trans hv⟩
          obtain ⟨A, len, cap, rfl⟩ := hsl
          exact vl_mk (by simp) (.row ⟨_, rfl, rfl⟩ (fun _ _ _ _ => by rw [hβv k _ t _ _ ho h1 hu h8]; rfl)) ⟨rfl, rfl, ones_one rfl⟩
        · have hrd := conv_rd (fun _ _ h => h) hM2 h.blks h.blt hlc k3 (fun r hr b B hb hB hm => by
            rcases hm with hm | ⟨q, kq, hq, _, hqB⟩
            · exact h.M0own hb hB hm
            · obtain ⟨r', kb, s1, s2, s3, s4⟩ := src q kq B hq hqB
              have := h.sep r r' b kb B hb s1 hB s3
              subst this
              rcases s4 with ⟨k, o, l0, ho, _, m1, m2, m3⟩ | ⟨_, _, _, m1⟩
              · have := count_two (look := s.look) k1 m1 (fun e => hno o (List.mem_of_getElem? ho) e.symm) hr (rows_fz _ (rows_sub m2 _ (by simp [L.rows])))
                omega
              · exact m1 (mem_fzOfs (List.mem_of_getElem? k1) hr))
          have hsz := conv_size hP k3 hlc hs' (rd_under hrd)
          exact (rd_vl' hP ⟨hrd, hsz.1, hsz.2⟩).1
        · obtain ⟨k0, hk0⟩ := List.getElem?_of_mem hj0
          obtain ⟨_, t, ut, y, u', l0, lo, vo, h1, h2, h3, h4, h5, h6, h7, h8, h9⟩ := hrow k0 _ hk0
          rw [h4] at k1; injection k1 with k1; subst k1
          match l0, h5 with
          | .agg t' ps, h5 =>
          have k3' : conv0 P s.look (.agg t' ps) fn.resultTypes.toList[i] = some yi := k3
          simp only [conv0, hfs] at k3'
          split at k3'
          · rename_i hte
            have hte : t' = fn.resultTypes.toList[i] := by simpa using hte
            simp only [Option.map_eq_some_iff] at k3'
            obtain ⟨xs, hxs, hxe⟩ := k3'
            obtain ⟨c1, c2, c3⟩ := convs0_at hxs
            have hls1 : ls1 = expand P fs yi 0 := by
              obtain ⟨⟨a', ha', _⟩, _⟩ := fieldsOf_under hfs
              have hof : ofD P fn.resultTypes.toList[i] yi = .d fn.resultTypes.toList[i] yi := by simp only [ofD, ha']
              rw [hof] at hpo
              simp only [partsOf, beq_self_eq_true, if_true, Option.some.injEq] at hpo
              exact hpo.symm
            subst hls1
            rw [expand_len] at hzl
            cases hlc with
            | @agg _ fs' _ _ ht' hlen hh hzz =>
              rw [hte] at ht'
              rw [hfs] at ht'
              injection ht' with ht'
              subst ht'
              have hok := (fieldsOf_under hfs).2
              refine vl_mk (by simp) (.agg hfs hzl (fun j f z hf hzj => ?_) (fun j f z hf hzj => ?_)) ⟨?_, ?_, hs'.ones⟩
              · rcases hz j z hzj with ⟨k, ho, rfl⟩ | ⟨hno, hex⟩
                · obtain ⟨_, t2, ut2, y2, u2, l2, lo2, vo2, a1, a2, a3, a4, a5, a6, a7, a8, a9⟩ := hrow k _ ho
                  simp only at a1 a3
                  have hu2 : u2 = u := by rw [hu] at a3; injection a3 with a3; exact a3.symm
                  subst hu2
                  have hoff : offAt P t2 [j] = f.offset := by
                    rw [ht] at a1; injection a1 with a1; subst a1
                    simp only [offAt, hfs, hf, Nat.add_zero]
                  have hsl : ∃ A len cap, vo2 = .slice A len cap := by
                    rcases a9 with ⟨_, A, hA⟩ | ⟨r, e', es, m1, m2, m3, hA⟩
                    · exact ⟨A, 0, 0, hA⟩
                    · obtain ⟨A, cap, hv, _⟩ := (show RowV P md w _ e' es (β r) from h.blks r _ m2)
                      exact ⟨A, _, cap, hA.trans hv⟩
                  obtain ⟨A, len, cap, rfl⟩ := hsl
                  have a8' : u2.cells[f.offset + 0]? = some (.slice A len cap) := by rw [← hoff]; exact a8
                  exact .row ⟨_, a8', rfl⟩ (fun _ _ _ _ => by rw [hβv k _ t2 _ _ ho a1 hu a8]; exact a8')
                · rw [expand_at hf, Nat.zero_add] at hex
                  injection hex with hex
                  subst hex
                  have hj : j < fs.length := (List.getElem?_eq_some_iff.1 hf).1
                  have hpj := List.getElem?_eq_getElem (l := ps) (i := j) (by omega)
                  have hdj := List.getElem?_eq_getElem (l := xs) (i := j) (by rw [c2, List.length_map]; exact hj)
                  have hcj := c3 j _ f.type _ hpj (by rw [List.getElem?_map, hf]; rfl) hdj
                  have hfld : yi.fld j = xs[j]'(by rw [c2, List.length_map]; exact hj) := by rw [← hxe]; simp [D.fld, D.fs, List.getD_eq_getElem?_getD, hdj]
                  rw [hfld]
                  refine ofD_lc (t := .ty f.type) (conv0_rd (fun _ _ h => h) hM2 (fun r e es lv hr => h.blks r _ hr) (hh j f _ hf hpj) hcj (fun r hr b B hb hB hm => ?_))
                  rcases hm with hm | ⟨q, kq, hq, _, hqB⟩
                  · exact h.M0own hb hB hm
                  · obtain ⟨r', kb, s1, s2, s3, s4⟩ := src q kq B hq hqB
                    have := h.sep r r' b kb B hb s1 hB s3
                    subst this
                    rcases s4 with ⟨k, o, l0, ho, _, m1, m2, m3⟩ | ⟨_, _, _, m1⟩
                    · by_cases e : o.1 = i
                      · subst e
                        rw [h4] at m1; injection m1 with m1; subst m1
                        obtain ⟨o1, o2⟩ := o
                        match o2, m2 with
                        | [j'], m2 =>
                          simp only [subL1] at m2
                          have hne : j ≠ j' := fun e' => hno _ (List.mem_of_getElem? ho) (by rw [e'])
                          have := count_rowsL (r := r) hpj m2 hne hr (by simp [L.rows])
                          have h2 := count_le_fzOfs (r := r) (look := s.look) h4
                          simp only [fzOf, L.rows] at h2
                          omega
                      · have := count_two (look := s.look) h4 m1 (fun e' => e e'.symm) (rows_fz _ (by simp only [L.rows]; exact mem_rowsL hpj r hr)) (rows_fz _ (rows_sub m2 _ (by simp [L.rows])))
                        omega
                    · exact m1 (mem_fzOfs (List.mem_of_getElem? h4) (rows_fz _ (by simp only [L.rows]; exact mem_rowsL hpj r hr)))
              · have hpos := (okFs_at hok hf).1
                rcases hz j z hzj with ⟨k, ho, rfl⟩ | ⟨hno, hex⟩
                · exact ⟨by simp [L.size], by simp [L.size]; exact hpos⟩
                · rw [expand_at hf] at hex
                  injection hex with hex
                  subst hex
                  have := ofD_size (P := P) (t := .ty f.type) (x := yi.fld (0 + j))
                  simp only [CT.size, ofCT] at this
                  omega
              · have := hs'.size
                simp only [L.size] at this ⊢
                rw [this, hte]
              · exact hs'.agg
          · cases k3'
      · rcases postLook_cases hr with ⟨k, o, ho, rfl, e, he, rfl⟩ | ⟨rfl, hb, rfl⟩
        · obtain ⟨hp0, t, ut, y, u, l0, lo, vo, h1, h2, h3, h4, h5, h6, h7, h8, h9⟩ := hrow k o ho
          show RowV P md w _ e _ (β2 (d + 100000 * k))
          rw [hβv k o t u vo ho h1 h3 h8, hysl _ (List.getElem?_eq_some_iff.1 h2).1, List.getD_eq_getElem?_getD, h2, Option.getD_some]
          have hte : tElem P ut = some e := by
            unfold ownT at he
            rw [h1] at he
            simp only [h6] at he
            split at he
            · exact he
            · cases he
          rcases h9 with ⟨rfl, A, rfl⟩ | ⟨r, e', es, rfl, m2, m3, rfl⟩
          · simp only [conv, conv0, hte, Option.isSome_some, if_true, Option.some.injEq] at h7
            rw [← h7]
            exact ⟨A, 0, rfl, .inl ⟨rfl, rfl⟩⟩
          · simp only [conv, conv0, m2, hte] at h7
            split at h7
            · rename_i hee
              have : e = e' := by simpa using hee
              subst this
              injection h7 with h7
              rw [← h7]
              exact RowV.mono (h.blks r _ m2) (Nat.le_refl _) (fun _ _ _ => rfl) (fun b hb _ => hM2 b hb) (fun _ _ => rfl)
            · cases h7
        · obtain ⟨p, es, v, h1, h2, h3, h4, h5, h6⟩ := hback hb
          show RowV P md w _ _ _ (β2 r)
          rw [hβb, h1, Option.getD_some, ← h4]
          have : ((ys' ++ bs).getD fn.resultTypes.toList.length .nil).els = es := by
            rw [List.getD_eq_getElem?_getD, List.getElem?_append_right (by omega), h3, show fn.resultTypes.toList.length - ys'.length = 0 by omega]
            rfl
          rw [this]
          exact RowV.mono (h.blks p _ h2) (Nat.le_refl _) (fun _ _ _ => rfl) (fun b hb _ => hM2 b hb) (fun _ _ => rfl)
      · obtain ⟨r', kb, s1, s2, s3, _⟩ := src r b B hr hB
        exact h.own r' kb B s1 s3
      · obtain ⟨r1, k1, s1, s2, s3, s4⟩ := src r b B hr hB
        obtain ⟨r2, k2, t1, t2, t3, t4⟩ := src q c B hq hB'
        have := h.sep r1 r2 k1 k2 B s1 t1 s3 t3
        subst this
        rcases s4 with ⟨k, o, l0, ho, rfl, m1, m2, m3⟩ | ⟨rfl, _, _, m1⟩ <;> rcases t4 with ⟨k', o', l0', ho', rfl, m1', m2', m3'⟩ | ⟨rfl, _, _, m1'⟩
        · by_cases e : o.1 = o'.1
          · rw [e] at m1
            rw [m1'] at m1; injection m1 with m1; subst m1
            have heq : o = o' := by
              obtain ⟨i1, p1⟩ := o
              obtain ⟨i2, p2⟩ := o'
              simp only at e m2 m2' m1'
              subst e
              have q1 := (hrow k _ ho).1
              have q2 := (hrow k' _ ho').1
              simp only at q1 q2
              rcases q1 with rfl | ⟨j, rfl⟩ <;> rcases q2 with rfl | ⟨j', rfl⟩
              · rfl
              · simp only [subL1, Option.some.injEq] at m2
                subst m2
                simp [subL1] at m2'
              · simp only [subL1, Option.some.injEq] at m2'
                subst m2'
                simp [subL1] at m2
              · match l0', m2, m2', m1' with
                | .agg _ ps, m2, m2', m1' =>
                simp only [subL1] at m2 m2'
                by_cases ej : j = j'
                · rw [ej]
                · exfalso
                  have := count_rowsL (r := r1) m2 m2' ej (by simp [L.rows]) (by simp [L.rows])
                  have h2 := count_le_fzOfs (r := r1) (look := s.look) m1'
                  simp only [fzOf, L.rows] at h2
                  omega
            subst heq
            rw [noDup2_at hnd ho ho']
          · have := count_two (r := r1) (look := s.look) m1 m1' e (rows_fz _ (rows_sub m2 _ (by simp [L.rows]))) (rows_fz _ (rows_sub m2' _ (by simp [L.rows])))
            omega
        · exact absurd (mem_fzOfs (List.mem_of_getElem? m1) (rows_fz _ (rows_sub m2 _ (by simp [L.rows])))) m1'
        · exact absurd (mem_fzOfs (List.mem_of_getElem? m1') (rows_fz _ (rows_sub m2' _ (by simp [L.rows])))) m1
        · rfl
      · rw [hβb, hp, Option.getD_some, List.getD_eq_getElem?_getD, hv]; rfl
  · exact hk'.elim

/-- A deferred call that does nothing, when nothing has gone wrong. -/
def NoopP (P : Program) (md : Nat → FMode) : Prop := ∀ f, (md f).noop = true → (∃ fn, P.funcs[f]? = some fn ∧ fn.body.isSome = true ∧ (fn.name == "runtime.NumGoroutine") = false) ∧ ∀ (vs : Array Value) (w : World), CallsD P f vs .returning w (fun e u' w' => (∃ v, e = .returned v) ∧ u' = .returning ∧ w' = w)
theorem leaves_noop (hN : NoopP P md) {fn : Func} {tmps : Array Value} {R : Ending → World → Prop} {v : Value} (hr : (results fn tmps).run P w = .ok v w) (hR : R (.returned v) w) : ∀ ds : List Deferred, (∀ d ∈ ds, ∃ f vs, d = { target := .fn (.func f) vs, args := #[] } ∧ (md f).noop = true) → Leaves P fn tmps R ds .returning w
  | [], _ => ⟨v, hr, hR⟩
  | d :: ds, h => by
    obtain ⟨f, vs, rfl, hno⟩ := h d (by simp)
    obtain ⟨⟨fn', f1, f2, f3⟩, hc⟩ := hN f hno
    refine leaves_cons (by simp) (f := f) (args := vs) (by simpa [invoke] using run_callFunc (w := w) (vs := vs) f1 f2 f3) ((hc vs w).mono fun e u' w' hh => ?_)
    obtain ⟨⟨v', rfl⟩, hu, hw⟩ := hh
    rw [hu, hw]
    exact leaves_noop hN hr hR ds (fun d hd => h d (by simp [hd]))
/-- ████ A function does what the machine without memory says. -/
theorem fun_sound (hP : WfP P) (hmix : P.follows .mixedOrders = true) (hN : NoopP P md) {orc : List (Nat × Orc)} {f : Nat} {cts : List CT} {xs ys : List D} (h : (evFun P md orc n f cts xs).wp P md (fun zs => zs = ys)) : Spec P md f cts xs ys := by
  unfold evFun at h
  split at h
  · exact h.elim
  · rename_i fn hfn
    split at h
    · rename_i c s hb hs
      cases hc : (xs.length == fn.params.size + cts.length && fn.nfree == cts.length && fn.results.size == fn.resultTypes.size && fn.name != "runtime.NumGoroutine") with
      | false => rw [hc] at h; exact h.elim
      | true =>
        rw [hc] at h
        simp only [Bool.and_eq_true, bne_iff_ne, ne_eq] at hc
        refine ⟨fn, hfn, by rw [hb]; rfl, by simpa using hc.2, fun w M vs d bid hbid hpre => calls_of_wp_defers hfn hb ?_⟩
        obtain ⟨β, hR⟩ := init_ok hP hs hpre
        have hvl : vs.toArray.size = xs.length := by rw [List.size_toArray, hpre.lenv, hpre.lenx]
        rw [hvl]
        refine ev_sound hP hmix c hR h (fun x s' β' a' w' hk h' => ?_)
        cases x with
        | exit id => exact (show False from hk).elim
        | normal =>
          obtain ⟨h1, v, h2, h3⟩ := ret_ok hP (fun id => by simp) hbid h' hk
          exact leaves_noop hN h2 h3 _ h1
        | ret =>
          obtain ⟨h1, v, h2, h3⟩ := ret_ok hP (fun id => by simp) hbid h' hk
          exact leaves_noop hN h2 h3 _ h1
    · exact h.elim
end

end Go.Proofs.Ytcdjifdllibolaa

namespace Go.Proofs.Ytcdjifdllibolaa

section
variable {P : Program} {md : Nat → FMode} {Φ Ψ : List D → Prop}
theorem wp_dec {c : Prop} [Decidable c] {t e : Tree} (h : c) (ht : t.wp P md Φ) : (Tree.br (decide c) t e).wp P md Φ := ⟨fun _ => ht, fun hf => absurd h (of_decide_eq_false hf)⟩
theorem wp_ndec {c : Prop} [Decidable c] {t e : Tree} (h : ¬ c) (ht : e.wp P md Φ) : (Tree.br (decide c) t e).wp P md Φ := ⟨fun hf => absurd (of_decide_eq_true hf) h, fun _ => ht⟩
theorem wp_tt {b : Bool} {t e : Tree} (h : b = true) (ht : t.wp P md Φ) : (Tree.br b t e).wp P md Φ := ⟨fun _ => ht, fun hf => by rw [h] at hf; cases hf⟩
theorem wp_ff {b : Bool} {t e : Tree} (h : b = false) (ht : e.wp P md Φ) : (Tree.br b t e).wp P md Φ := ⟨fun hf => (by rw [h] at hf; cases hf), fun _ => ht⟩
theorem wp_br {b : Bool} {t e : Tree} (h1 : b = true → t.wp P md Φ) (h2 : b = false → e.wp P md Φ) : (Tree.br b t e).wp P md Φ := ⟨h1, h2⟩
theorem wp_decs {c : Prop} [Decidable c] {t e : Tree} (h1 : c → t.wp P md Φ) (h2 : ¬ c → e.wp P md Φ) : (Tree.br (decide c) t e).wp P md Φ := ⟨fun h => h1 (of_decide_eq_true h), fun h => h2 (of_decide_eq_false h)⟩
theorem wp_call {f : Nat} {cts : List CT} {xs ys : List D} {k : List D → Tree} (hs : Spec P md f cts xs ys) (hk : (k ys).wp P md Φ) : (Tree.call f cts xs k).wp P md Φ := ⟨ys, hs, hk⟩
theorem wp_ret {ys : List D} (h : Φ ys) : (Tree.ret ys).wp P md Φ := h
theorem Tree.wp_mono : ∀ {t : Tree}, t.wp P md Φ → (∀ ys, Φ ys → Ψ ys) → t.wp P md Ψ
  | .ret ys, h, hm => hm ys h
  | .fail, h, _ => h.elim
  | .br b t e, h, hm => ⟨fun hb => wp_mono (h.1 hb) hm, fun hb => wp_mono (h.2 hb) hm⟩
  | .call f cts xs k, ⟨ys, h1, h2⟩, hm => ⟨ys, h1, wp_mono h2 hm⟩
  | .amb e t f, h, hm => ⟨fun hb => wp_mono (h.1 hb) hm, wp_mono h.2 hm⟩
end
/-- The types are as they must be. -/
def wfB (P : Program) : Bool := (List.range P.types.size).all fun t => isAggT P t || (P.underlying t).isNone || P.cellsOf t == 1
def wordy (i : TypeInfo) : Prop := (∀ n u, i.desc ≠ .named n u) ∧ ((∃ fs, i.desc = .struct fs) ∨ (∃ n e, i.desc = .array n e) ∨ i.size = 1)
theorem reckon_wordy {info : TypeId → Option TypeInfo} {d : TypeDesc} {i : TypeInfo} (h : Made.reckon info d = some i) : wordy i := by
  unfold Made.reckon at h
  cases d <;> simp only at h
  case pointer e =>
    simp only [Option.bind_eq_bind, Option.bind_eq_some_iff] at h
    obtain ⟨i0, h0, h⟩ := h
    split at h
    · cases h
    · split at h
      · cases h
      · simp only [Option.bind_eq_some_iff, Option.pure_def, Option.some.injEq] at h
        obtain ⟨s, _, rfl⟩ := h
        exact ⟨by simp [Made.word], .inr (.inr rfl)⟩
    · simp only [Option.bind_eq_some_iff, Option.pure_def, Option.some.injEq] at h
      obtain ⟨s, _, rfl⟩ := h
      exact ⟨by simp [Made.word], .inr (.inr rfl)⟩
  case slice e =>
    simp only [Option.bind_eq_bind, Option.bind_eq_some_iff, Option.pure_def, Option.some.injEq] at h
    obtain ⟨i0, h0, s, _, rfl⟩ := h
    exact ⟨by simp [Made.word], .inr (.inr rfl)⟩
  case map k e =>
    simp only [Option.bind_eq_bind, Option.bind_eq_some_iff, Option.pure_def, Option.some.injEq] at h
    obtain ⟨i0, h0, s, _, i1, _, s1, _, rfl⟩ := h
    exact ⟨by simp [Made.word], .inr (.inr rfl)⟩
  case chan dir e =>
    simp only [Option.bind_eq_bind, Option.bind_eq_some_iff, Option.pure_def, Option.some.injEq] at h
    obtain ⟨i0, h0, s, _, rfl⟩ := h
    exact ⟨by simp [Made.word], .inr (.inr rfl)⟩
  case func ps rs v =>
    simp only [Option.bind_eq_bind, Option.bind_eq_some_iff, Option.pure_def, Option.some.injEq] at h
    obtain ⟨s, _, rfl⟩ := h
    exact ⟨by simp [Made.word], .inr (.inr rfl)⟩
  case array n e =>
    simp only [Option.bind_eq_bind, Option.bind_eq_some_iff, Option.pure_def, Option.some.injEq] at h
    obtain ⟨i0, h0, s, _, rfl⟩ := h
    exact ⟨by simp, .inr (.inl ⟨n, e, rfl⟩)⟩
  case struct fs =>
    unfold Made.reckonStruct at h
    simp only [Option.bind_eq_bind, Option.bind_eq_some_iff] at h
    obtain ⟨r, _, h⟩ := h
    split at h <;> (simp only [Option.pure_def, Option.some.injEq] at h; subst h; exact ⟨by simp, .inl ⟨_, rfl⟩⟩)
  all_goals cases h
theorem wf_of {P : Program} (h : wfB P = true) : WfP P := by
  refine ⟨fun t ha hu => ?_⟩
  rcases Nat.lt_or_ge t P.types.size with hlt | hge
  · have := List.all_eq_true.1 h t (List.mem_range.2 hlt)
    simp only [Bool.or_eq_true, beq_iff_eq] at this
    rcases this with (h1 | h1) | h1
    · rw [ha] at h1; cases h1
    · rw [Option.isNone_iff_eq_none.1 h1] at hu; cases hu
    · exact h1
  · cases hi : P.info? t with
    | none => simp [Program.underlying, hi] at hu
    | some i =>
      have hw : wordy i := by
        have hi' : Tables.info? _ t = some i := hi
        unfold Tables.info? at hi'
        rw [if_neg (by show ¬ t < P.types.size; omega)] at hi'
        change (if t < P.types.size then P.types[t]? else (Made.decode (t - P.types.size)).bind (Made.reckon (Made.infoAt _ 99))) = some i at hi'
        rw [if_neg (by omega)] at hi'
        obtain ⟨d, _, hd⟩ := Option.bind_eq_some_iff.1 hi'
        exact reckon_wordy hd
      have hun : P.underlying t = some i.desc := by
        unfold Program.underlying
        rw [hi]
        split
        · rename_i heq; injection heq with heq; subst heq; exact absurd rfl (hw.1 _ _)
        · rename_i heq; injection heq with heq; subst heq; rfl
        · rename_i heq; cases heq
      rcases hw.2 with ⟨fs, hf⟩ | ⟨n, e, hf⟩ | hs
      · simp [isAggT, hun, hf] at ha
      · simp [isAggT, hun, hf] at ha
      · simp [Program.cellsOf, hi, hs]

end Go.Proofs.Ytcdjifdllibolaa

namespace Go.Proofs.Ytcdjifdllibolaa
open Go.ChangeShapes Go.WideShapes Go.ChangeAt Go.RowKit

/-- Types that are made of integers, bools, strings, slices, structs. -/
def plainT (P : Program) (Ts : List Nat) (t : Nat) : Bool := match P.underlying t with
  | some (.int _) => true | some .bool => true | some .string => true
  | some (.slice e) => Ts.contains e && decide (0 < P.cellsOf e) && decide (0 < P.bytesOf e)
  | some (.struct _) => (match fieldsOf P t with | some fs => fs.all (fun f => Ts.contains f.type) | none => false)
  | _ => false
def plainTs (P : Program) (Ts : List Nat) : Bool := Ts.all (plainT P Ts)

mutual
/-- No list, and no text, is longer than memory has room for. -/
def D.wok : D → Prop
  | .sl es => es.length ≤ 140737488351232 ∧ D.wokL es
  | .agg fs => D.wokL fs
  | .str s => s.size ≤ 140737488351232
  | _ => True
def D.wokL : List D → Prop
  | [] => True
  | x :: xs => x.wok ∧ D.wokL xs
end
theorem wokL_iff : ∀ {l : List D}, D.wokL l ↔ ∀ x ∈ l, x.wok
  | [] => by simp [D.wokL]
  | x :: xs => by simp [D.wokL, wokL_iff (l := xs)]
theorem wokL_at {l : List D} (h : ∀ (i : Nat) (x : D), l[i]? = some x → x.wok) : D.wokL l := wokL_iff.2 fun x hx => by
  obtain ⟨i, hi⟩ := List.getElem?_of_mem hx
  exact h i x hi
theorem mem_weightsAll {H : Type} {P : Program} {e : Nat} : ∀ {l : List (DataW H)} {d : DataW H} {z : Nat}, d ∈ l → z ∈ d.weights P e → z ∈ DataW.weightsAll P e l
  | c :: l, d, z, h, hz => by
    simp only [DataW.weightsAll, List.mem_append]
    rcases List.mem_cons.1 h with rfl | h
    · exact .inl hz
    · exact .inr (mem_weightsAll h hz)
section
variable {H : Type} {enc : TypeId × Value → H} {P : Program} {md : Nat → FMode} {W : World} {sp : Nat → Bool} {held : Bool}
theorem cells_at {w : World} {a : Addr} {k : Nat} {cs : List Value} (h : w.cells? 0 a k = some cs) (hk : 0 < k) : a.spot = none ∧ a.block < w.heap.size ∧ cs.length = k ∧ ∀ j, j < k → w.cell? ⟨a.block, a.off + j, none⟩ = cs[j]? := by
  unfold World.cells? at h
  rw [if_pos (Nat.zero_le _)] at h
  have hl := mapM_some_length h
  have hg := fun j (hj : j < k) => mapM_some_get h j j (by simp [hj])
  have h0 := hg 0 hk
  have hsp : a.spot = none := by
    have hc : cs[0]? = some (cs[0]'(by simp at hl; omega)) := List.getElem?_eq_getElem _
    rw [hc] at h0
    simp only [Addr.add, if_true] at h0
    unfold World.cell? at h0
    split at h0
    · split at h0
      · cases h0
      · rename_i hn; simpa using hn
    · cases h0
  refine ⟨hsp, ?_, by simpa using hl, fun j hj => ?_⟩
  · have hc : cs[0]? = some (cs[0]'(by simp at hl; omega)) := List.getElem?_eq_getElem _
    rw [hc] at h0
    exact World.block_lt_of_cell? w _ h0
  · rw [← hg j hj]
    congr 1
    cases a
    simp only at hsp
    subst hsp
    unfold Addr.add
    split
    · rename_i hj0; subst hj0; rfl
    · rfl
theorem wf_bd {k : IntKind} {n : Int} (h : (Lit.int k n).wf = true) : k.min ≤ n ∧ n ≤ k.max := by
  simpa [Lit.wf] using h
/-- Choice for a list. -/
theorem list_pick {α : Type} {p : Nat → α → Prop} : ∀ (k : Nat), (∀ i, i < k → ∃ y, p i y) → ∃ ys : List α, ys.length = k ∧ ∀ (i : Nat) (y : α), ys[i]? = some y → p i y
  | 0, _ => ⟨[], rfl, fun i y h => by simp at h⟩
  | k + 1, h => by
    obtain ⟨ys, h1, h2⟩ := list_pick k (fun i hi => h i (by omega))
    obtain ⟨y, hy⟩ := h k (by omega)
    refine ⟨ys ++ [y], by simp [h1], fun i z hz => ?_⟩
    rw [List.getElem?_append] at hz
    split at hz
    · exact h2 i z hz
    · rename_i hi
      have : i = k := by
        have := (List.getElem?_eq_some_iff.1 hz).1
        simp at this
        omega
      subst this
      simp [h1] at hz
      subst hz
      exact hy
/-- ████ What reads as data, reads as data. -/
theorem trod_rd {Ts : List Nat} (hT : plainTs P Ts = true) : ∀ (fuel t : Nat) (cs : List Value) (x : DataW H × List MemPlace), t ∈ Ts → DataW.trod enc P W 0 sp held fuel t cs = some x → ∃ y, RdC P md W (fun _ => False) (.ty t) y (fun j => cs[j]?) ∧ ((∀ z ∈ x.1.weights P t, z ≤ reachBytes) → y.wok)
  | 0, t, cs, x, _, h => by simp [DataW.trod] at h
  | fuel + 1, t, cs, x, ht, h => by
    have hp := List.all_eq_true.1 hT t ht
    unfold plainT at hp
    unfold DataW.trod at h
    split at h
    · rename_i b hu; exact ⟨.bool b, .bool hu rfl, fun _ => trivial⟩
    · rename_i k k' m hu
      split at h
      · rename_i hc
        obtain ⟨rfl, hw⟩ := hc
        exact ⟨.int m, .int hu (wf_bd hw).1 (wf_bd hw).2 rfl, fun _ => trivial⟩
      · cases h
    · rename_i hu; rw [hu] at hp; cases hp
    · rename_i s hu
      split at h
      · rename_i hl
        injection h with h
        subst h
        refine ⟨.str s, .str hu hl rfl, fun hw => ?_⟩
        have := hw s.data.toList.length (by simp [DataW.weights])
        exact this
      · cases h
    · rename_i hu; rw [hu] at hp; cases hp
    · rename_i hu; rw [hu] at hp; cases hp
    · rename_i e hu
      exact ⟨.sl [], .sl (A := none) (cap := 0) (bk := 0) (off := 0) hu rfl (Nat.le_refl _) (Nat.zero_le _) (fun hne => absurd rfl hne) (fun i x hx => by simp at hx), fun _ => ⟨by simp, trivial⟩⟩
    · rename_i e a len cap hu
      rw [hu] at hp
      simp only [Bool.and_eq_true, List.contains_iff_mem, decide_eq_true_eq] at hp
      obtain ⟨⟨he, hpos⟩, hby⟩ := hp
      simp only at h
      split at h
      · rename_i hc
        obtain ⟨_, h1, h2⟩ := hc
        obtain ⟨els, hel, hrest⟩ := Option.bind_eq_some_iff.1 h
        obtain ⟨rst, _, hx1⟩ := Option.map_eq_some_iff.1 hrest
        have hlen : els.length = len := by simpa using mapM_some_length hel
        have hat : ∀ i, i < len → ∃ ci xi, W.cells? 0 (a.add (i * P.cellsOf e)) (P.cellsOf e) = some ci ∧ DataW.trod enc P W 0 sp held fuel e ci = some xi ∧ xi ∈ els := by
          intro i hi
          have := mapM_some_get hel i i (by simp [hi])
          rw [List.getElem?_eq_getElem (by omega)] at this
          obtain ⟨ci, hci, hxi⟩ := Option.bind_eq_some_iff.1 this
          exact ⟨ci, _, hci, hxi, List.getElem_mem _⟩
        obtain ⟨ys, y1, y2⟩ := list_pick (p := fun i y => ∃ ci, W.cells? 0 (a.add (i * P.cellsOf e)) (P.cellsOf e) = some ci ∧ RdC P md W (fun _ => False) (.ty e) y (fun j => ci[j]?) ∧ ((∀ z ∈ x.1.weights P t, z ≤ reachBytes) → y.wok)) len (fun i hi => by
          obtain ⟨ci, xi, hci, hxi, hmem⟩ := hat i hi
          obtain ⟨y, hy, hyw⟩ := trod_rd hT fuel e ci xi he hxi
          refine ⟨y, ci, hci, hy, fun hw => hyw (fun z hz => hw z ?_)⟩
          rw [← hx1]
          simp only [DataW.weights, hu, List.mem_cons, List.mem_append]
          exact .inr (.inl (mem_weightsAll (List.mem_map.2 ⟨xi, hmem, rfl⟩) hz)))
        have hspot : 0 < len → a.spot = none ∧ a.block < W.heap.size := by
          intro hl
          obtain ⟨ci, _, hci, _, _⟩ := hat 0 hl
          have := cells_at hci hpos
          rw [Nat.zero_mul] at this
          simp only [Addr.add, if_true] at this
          exact ⟨this.1, this.2.1⟩
        have hadd : ∀ i, 0 < len → a.add i = ⟨a.block, a.off + i, none⟩ := by
          intro i hl
          obtain ⟨hs, _⟩ := hspot hl
          cases a
          simp only at hs
          subst hs
          unfold Addr.add
          split
          · rename_i h0; subst h0; rfl
          · rfl
        refine ⟨.sl ys, .sl (A := some a) (cap := cap) (bk := a.block) (off := a.off) hu (by simp [y1]) (by omega) h2 (fun hne => ?_) (fun i x hx => ?_), fun hw => ⟨?_, wokL_at (fun i y hy => (y2 i y hy).elim fun _ hh => hh.2.2 hw)⟩⟩
        · have hl : 0 < len := by rw [← y1]; exact List.length_pos_iff.2 hne
          have := hadd 0 hl
          simp only [Addr.add, if_true, Nat.add_zero] at this
          exact ⟨by rw [← this], fun h => h, (hspot hl).2⟩
        · have hi : i < len := by rw [← y1]; exact (List.getElem?_eq_some_iff.1 hx).1
          obtain ⟨ci, hci, hrd, _⟩ := y2 i x hx
          rw [hadd _ (by omega)] at hci
          obtain ⟨_, _, c3, c4⟩ := cells_at hci hpos
          refine hrd.congr (fun j hj => ?_) hpos
          rw [← c4 j hj]
          simp only [Nat.add_assoc]
        · have := hw ((els.length + rst.length) * P.bytesOf e) (by rw [← hx1]; simp [DataW.weights, hu])
          have h3 : ys.length * 1 ≤ (els.length + rst.length) * P.bytesOf e := Nat.mul_le_mul (by omega) hby
          have h4 : reachBytes = 140737488351232 := rfl
          omega
      · cases h
    · rename_i cs _ csq fs hu
      rw [hu] at hp
      simp only at hp
      split at hp
      · rename_i fs' hfs
        split at h
        · rename_i hl
          obtain ⟨xs, hxs, hx1⟩ := Option.map_eq_some_iff.1 h
          obtain ⟨⟨b, hb, hbl⟩, hok⟩ := fieldsOf_under hfs
          rw [hu] at hb
          injection hb with hb
          injection hb with hb
          subst hb
          have hlen : xs.length = fs'.length := by rw [mapM_some_length hxs, hbl]
          obtain ⟨ys, y1, y2⟩ := list_pick (p := fun i y => (∀ f, fs'[i]? = some f → RdC P md W (fun _ => False) (.ty f.type) y (fun j => cs[f.offset + j]?)) ∧ ((∀ z ∈ x.1.weights P t, z ≤ reachBytes) → y.wok)) fs'.length (fun i hi => by
            have hf := List.getElem?_eq_getElem hi
            have hg := mapM_some_get hxs i fs'[i] (by rw [hbl]; exact hf)
            rw [List.getElem?_eq_getElem (by omega)] at hg
            have hft : (fs'[i]).type ∈ Ts := by
              have := List.all_eq_true.1 hp _ (List.getElem_mem hi)
              simpa using this
            obtain ⟨y, hy, hyw⟩ := trod_rd hT fuel _ _ _ hft hg
            refine ⟨y, fun f hf' => ?_, fun hw => hyw (fun z hz => hw z ?_)⟩
            rotate_left
            · rw [← hx1]
              simp only [DataW.weights, hu]
              refine DataW.weights_mem_each (j := i) (t := fs'[i].type) (by rw [hbl, List.getElem?_map, hf]; rfl) (d := xs[i].1) (by rw [List.getElem?_map, List.getElem?_eq_getElem (by omega)]; rfl) z hz
            rw [hf] at hf'
            injection hf' with hf'
            subst hf'
            obtain ⟨p1, p2⟩ := okFs_at hok hf
            refine hy.congr (fun j hj => ?_) p1
            rw [List.getElem?_take, if_pos (show j < P.cellsOf _ from hj), List.getElem?_drop])
          exact ⟨.agg ys, .struct hfs y1 (fun i f d hf hd => (y2 i d hd).1 f hf), fun hw => wokL_at (fun i y hy => (y2 i y hy).2 hw)⟩
        · cases h
      · cases hp
    all_goals first | (cases h; done) | (rename_i hu; rw [hu] at hp; cases hp)
/-- An argument, as data. -/
theorem arg_rd (hP : WfP P) {Ts : List Nat} (hT : plainTs P Ts = true) {r : Reach} {b0 t : Nat} {v : Value} {d : DataW H} {ps : List MemPlace} (ht : t ∈ Ts) (hval : Value.okWide P W r b0 t v) (h : DataW.Trod enc P W 0 sp held t v d ps) : ∃ y, Rd P md W (fun _ => False) (.ty t) y v ∧ ((∀ z ∈ d.weights P t, z ≤ reachBytes) → y.wok) := by
  obtain ⟨fuel, hf⟩ := h
  obtain ⟨y, hy, hyw⟩ := trod_rd (md := md) hT fuel t _ _ ht hf
  have hy' : RdC P md W (fun _ => False) (.ty t) y (fun j => v.cells[j]?) := by simpa using hy
  have hu := rd_under hy'
  cases ha : isAggT P t with
  | true =>
    have : ∃ cs, v = .agg cs ∧ cs.size = P.cellsOf t := by
      unfold isAggT at ha
      unfold Value.okWide at hval
      split at ha
      · rename_i hh; rw [hh] at hval; obtain ⟨cs, h1, h2, _⟩ := hval; exact ⟨cs, h1, h2⟩
      · rename_i hh; rw [hh] at hval; obtain ⟨cs, h1, h2, _⟩ := hval; exact ⟨cs, h1, h2⟩
      · cases ha
    obtain ⟨cs, rfl, hs⟩ := this
    exact ⟨y, ⟨hy', hs, by simp [isAggV, CT.isAgg, ha]⟩, hyw⟩
  | false =>
    have hv : isAggV v = false := by
      cases v <;> first | rfl | skip
      rename_i cs
      exfalso
      unfold Value.okWide at hval
      split at hval
      · rename_i hh; simp [isAggT, hh] at ha
      · rename_i hh; simp [isAggT, hh] at ha
      · cases hd : P.underlying t with
        | none => rw [hd] at hu; cases hu
        | some de => cases de <;> simp [Cell.okWide, Cell.ok, hd] at hval
    exact ⟨y, ⟨hy', by rw [cells_of hv]; exact (hP.one t ha hu).symm, by simp [hv, CT.isAgg, ha]⟩, hyw⟩
end

end Go.Proofs.Ytcdjifdllibolaa

namespace Go.Proofs.Ytcdjifdllibolaa

def mdAt : List (Nat × FMode) → Nat → FMode
  | [], _ => {}
  | (i, m) :: r, f => bif i == f then m else mdAt r f
/-- What is asked of such a call. -/
def NoopF (P : Program) (f : Nat) : Prop := (∃ fn, P.funcs[f]? = some fn ∧ fn.body.isSome = true ∧ (fn.name == "runtime.NumGoroutine") = false) ∧ ∀ (vs : Array Value) (w : World), CallsD P f vs .returning w (fun e u' w' => (∃ v, e = .returned v) ∧ u' = .returning ∧ w' = w)
theorem mdAt_mem : ∀ {l : List (Nat × FMode)} {f : Nat}, (mdAt l f).noop = true → ∃ m, (f, m) ∈ l ∧ m.noop = true
  | [], f, h => by cases h
  | (i, m) :: r, f, h => by
    simp only [mdAt] at h
    cases hi : (i == f) with
    | true =>
      rw [hi] at h
      have : i = f := by simpa using hi
      subst this
      exact ⟨m, by simp, h⟩
    | false =>
      rw [hi] at h
      obtain ⟨m', h1, h2⟩ := mdAt_mem h
      exact ⟨m', by simp [h1], h2⟩
theorem noop_all {P : Program} {l : List (Nat × FMode)} (h : ∀ p ∈ l, p.2.noop = true → NoopF P p.1) : NoopP P (mdAt l) := fun f hf => by
  obtain ⟨m, h1, h2⟩ := mdAt_mem hf
  exact h _ h1 h2
end Go.Proofs.Ytcdjifdllibolaa

namespace Go.Proofs.Ytcdjifdllibolaa
open Go.ChangeShapes Go.WideShapes Go.ChangeAt Go.RowKit

theorem knob : ownKnob Try.prog.godebug = none := by kernel_rfl
theorem laidOut : laidOutB Try.prog = true := by kernel_rfl

section
variable {H : Type} {enc : TypeId × Value → H} {P : Program}
theorem trodAll_stays (hl : laidOutB P = true) {W W' : World} (hx : Ext W W') (sp : Nat → Bool) : ∀ (ts : List TypeId) (vs : List Value) (ds : List (DataW H)) (ps : List MemPlace), DataW.TrodAll enc P W 0 (fun _ => true) true ts vs ds ps →
    (∀ t ∈ ts, P.readableRec t = true ∧ t < P.types.size) → (∀ x ∈ ps, x.block < W.heap.size) → (∀ x ∈ ps, sp x.block = true) → DataW.TrodAll enc P W' 0 sp true ts vs ds ps
  | [], vs, ds, ps, h, _, _, _ => by
    obtain ⟨rfl, rfl, rfl⟩ := trodAll_nil h
    exact trodAll_mk0
  | t :: ts, vs, ds, ps, h, hr, hlt, hsp => by
    obtain ⟨v, vs', d, ds', p, q, rfl, rfl, rfl, h1, h2⟩ := trodAll_cons h
    have := hr t (by simp)
    refine trodAll_cons_mk (WideElems.Trod_stays hl this.1 this.2 h1 (fun x hm => Below.same hx (hlt x (by simp [hm]))) (fun x hm => hsp x (by simp [hm]))) ?_
    exact trodAll_stays hl hx sp ts vs' ds' q h2 (fun t' ht => hr t' (by simp [ht])) (fun x hm => hlt x (by simp [hm])) (fun x hm => hsp x (by simp [hm]))

theorem law_post {f : Func} {s : ChangeSpec} (hl : laidOutB P = true) {W W' : World} {args : Array Value} {ds gs : List (DataW H)} {before : List MemPlace} {tb : TypeId}
    (hW : DataW.Whole enc P f.params.toList s.vars false W args.toList ds gs before) (hv : s.vars = []) (hrt : f.resultTypes = #[tb]) (htb : P.underlying tb = some .bool)
    (hfn : s.fn H ds = { results := [.lit (.bool true)], args := ds }) (hr : f.params.toList.all (fun t => P.readableRec t && decide (t < P.types.size)) = true) (hx : Ext W W') :
    s.post enc P f false true false false W args (.bool true) W' := by
  have hW' := hW
  obtain ⟨p, q, hA, hV, rfl, hfz, hnd⟩ := hW
  rw [hv] at hV
  obtain ⟨rfl, rfl⟩ := trodVars_none hV
  have hlt : ∀ x ∈ p, x.block < W.heap.size := fun x hm => hW'.lt x (by simpa using hm)
  have hrr : ∀ t ∈ f.params.toList, P.readableRec t = true ∧ t < P.types.size := fun t ht => by
    have := List.all_eq_true.1 hr t ht
    simpa using this
  have hold : ∀ x ∈ p ++ [], (fun b => decide (b < W.heap.size)) x.block = true := fun x hm => by simpa using hlt x (by simpa using hm)
  have hres : ∀ (b : Nat) (sp : Nat → Bool) (hd : Bool), DataW.TrodAll enc P W' b sp hd f.resultTypes.toList ((Value.bool true).resultList f.resultTypes.size) (s.fn H (ds ++ [])).results [] := by
    intro b sp hd
    rw [hrt, List.append_nil, hfn]
    exact trodAll_mk1 (shut_bool htb _)
  have hargs : ∀ sp : Nat → Bool, (∀ x ∈ p ++ [], sp x.block = true) → DataW.TrodAll enc P W' 0 sp true f.params.toList args.toList (s.fn H (ds ++ [])).args p := by
    intro sp hsp
    rw [List.append_nil, hfn]
    exact trodAll_stays hl hx sp _ _ _ _ hA hrr hlt (fun x hm => hsp x (by simpa using hm))
  have hvars : ∀ sp : Nat → Bool, DataW.TrodVars enc P W' sp s.vars (s.fn H (ds ++ [])).vars [] := by
    intro sp
    rw [hv, List.append_nil, hfn]; rfl
  refine ⟨ds, [], p ++ [], [], p, [], hW', hres _ _ _, hargs _ hold, hvars _, World.keptBut_mono (fun x hm => ⟨hm, ?_⟩) (Below.frame hx (· ∈ p ++ [])), fun _ => ?_⟩
  · exact Or.inr (by simpa using hm)
  · refine ⟨ok_one hrt rfl (okWide_bool_mk htb _), _, _, ([] ++ p) ++ [], ⟨[] ++ p, [], trodAll_append (hargs (fun _ => true) (fun _ _ => rfl)) (hres _ _ _), hvars _, rfl, ?_, ?_⟩, ?_⟩
    · intro b off hm
      have hin : MemPlace.cell b off ∈ p ++ [] := by simpa using hm
      rw [hx.frozen (p := ⟨b, off, none⟩) (show b < W.heap.size from hlt (.cell b off) (by simpa using hin))]
      exact hfz b off hin
    · intro ha; cases ha
    · intro x hm _
      simpa using hm
end

end Go.Proofs.Ytcdjifdllibolaa

