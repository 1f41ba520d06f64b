/- A rule for a statement that leaves its order open: each operation tells a value of which something holds that stays so while memory grows; then, whatever the order, all that holds at the end. -/
import Derived.Test.YtfacgdjfeogalaaMem
import Derived.Orders
namespace Go.Proofs.Ytfacgdjfeogalaa
open Go.RowKit

/-- What holds of a value in a world. -/
def VP : Type := Value → World → Prop
/-- It stays so while memory grows. -/
def Stay (φ : VP) : Prop := ∀ v w w', φ v w → Ext w w' → φ v w'
def EqV (x : Value) : VP := fun u _ => u = x
theorem EqV.rfl_ {x : Value} {w : World} : EqV x x w := rfl
theorem stay_eq (x : Value) : Stay (EqV x) := fun _ _ _ h _ => h
def upd (f : Nat → VP) (i : Nat) (φ : VP) : Nat → VP := fun k => if k = i then φ else f k

/-- With the values that are looked at, in their slots. -/
def Need (f : Nat → VP) (w : World) (K : Act → Prop) : List (Nat × Tmp) → Act → Prop
  | [], a => K a
  | (j, d) :: r, a => ∀ v, f j v w → Need f w K r (a.put (some d) v)

/-- An operation, carried out in a world, tells a value of which this holds. -/
def RunOp (P : Program) (ops : Array Oper) (o : Oper) (φ : VP) (w : World) (a : Act) : Prop :=
  ∀ K : Act → World → Prop, (∀ v w', Ext w w' → φ v w' → K (a.put o.dst v) w') →
    wpList P ops (Exit.then K (fun _ _ _ => False)) [o] a w

/-- The operations one behind the other, each with what holds of its value. -/
def Grow (P : Program) (ops : Array Oper) (a0 : Act) (w0 : World) (fin : (Nat → VP) → Prop) : Nat → List Oper → List (List (Nat × Tmp)) → (Nat → VP) → Prop
  | _, [], _, f => fin f
  | i, o :: os, ns, f => ∃ φ : VP, Stay φ ∧ (∀ w, Ext w0 w → Need f w (RunOp P ops o φ w) (ns.headD []) a0) ∧ Grow P ops a0 w0 fin (i + 1) os ns.tail (upd f i φ)

theorem Grow.step {P : Program} {ops : Array Oper} {a0 : Act} {w0 : World} {fin : (Nat → VP) → Prop} {i : Nat} {o : Oper} {os : List Oper} {n : List (Nat × Tmp)} {ns : List (List (Nat × Tmp))} {f : Nat → VP} {φ : VP}
    (h : ∀ w, Ext w0 w → Need f w (RunOp P ops o φ w) n a0) (hs : Stay φ) (hr : Grow P ops a0 w0 fin (i + 1) os ns (upd f i φ)) : Grow P ops a0 w0 fin i (o :: os) (n :: ns) f :=
  ⟨φ, hs, h, hr⟩

/-- The check of what is looked at: each is told by an operation that stands ahead; no slot is written twice. -/
def chkOne (ops : Array Oper) (i : Nat) (o : Oper) (n : List (Nat × Tmp)) : Bool :=
  (o.after.all fun e => !Region.binds .any e || decide (e.on < i)) && (n.all fun (j, d) => decide (j < i) && ((ops[j]?).bind (·.dst)) == some d && o.after.any fun e => e.on == j && Region.binds .any e) &&
  ((o.looksAt ops).all fun t => (List.range ops.size).all fun j => j == i || ((ops[j]?).bind (·.dst)) != some t || n.contains (j, t) || ((ops[j]?).map fun o' => o'.after.any fun e => e.on == i && Region.binds .any e).getD false)
def chkAll (ops : Array Oper) (ns : List (List (Nat × Tmp))) : Bool :=
  decide (ns.length ≤ ops.size) && Region.noSelect ops && ((List.range ops.size).all fun i => ((ops[i]?).map fun o => chkOne ops i o (ns.getD i [])).getD true) &&
  ((List.range ops.size).all fun i => (List.range ops.size).all fun j => i == j || ((ops[i]?).bind (·.dst)) == none || ((ops[i]?).bind (·.dst)) != ((ops[j]?).bind (·.dst)))
/-- All slots that are written. -/
def allDst (ops : Array Oper) : List (Nat × Tmp) := ops.toList.zipIdx.filterMap fun (o, i) => o.dst.map fun d => (i, d)

section
variable {P : Program} {ops : Array Oper} {a0 : Act} {w0 : World}

theorem put_size (a : Act) (d : Option Tmp) (v : Value) : (a.put d v).tmps.size = a.tmps.size := by cases d <;> simp [Act.put]
theorem put_at (a : Act) (d : Tmp) (v : Value) (t : Tmp) : (a.put (some d) v).tmps[t]? = if d = t ∧ d < a.tmps.size then some v else a.tmps[t]? := by
  simp only [Act.put, Array.getElem?_setIfInBounds]
  by_cases h : d = t
  · subst h
    by_cases h2 : d < a.tmps.size
    · simp [h2]
    · simp [h2]
  · simp [h]

/-- The state when some operations have come up. -/
structure Stands (ops : Array Oper) (a0 : Act) (w0 : World) (f : Nat → VP) (l : Array Bool) (a : Act) (w : World) : Prop where
  ext : Ext w0 w
  size : a.tmps.size = a0.tmps.size
  defers : a.defers = a0.defers
  old : ∀ t, (∀ j, l.getD j false = true → ((ops[j]?).bind (·.dst)) ≠ some t) → a.tmps[t]? = a0.tmps[t]?
  down : ∀ (j : Nat) (o : Oper), l.getD j false = true → ops[j]? = some o → ∀ e ∈ o.after, Region.binds .any e = true → l.getD e.on false = true
  got : ∀ j d, l.getD j false = true → ((ops[j]?).bind (·.dst)) = some d → d < a0.tmps.size → ∃ v, a.tmps[d]? = some v ∧ f j v w

/-- Two frames that agree where an operation looks. -/
theorem run_congr {o : Oper} {a b : Act} {w : World} (hs : ∀ cs x, o.op ≠ .select cs x) (hag : ∀ t, t ∈ o.looksAt ops → a.tmps[t]? = b.tmps[t]?) :
    execOp a.eval o = execOp b.eval o ∧ Region.wanted o (yielded ops a.tmps) = Region.wanted o (yielded ops b.tmps) := by
  constructor
  · refine execOp_congr o hs fun x hx => ?_
    cases x with
    | tmp t =>
      have := hag t (List.mem_append_left _ (List.mem_filterMap.2 ⟨.tmp t, by simpa using hx, rfl⟩))
      simp [Act.eval, this]
    | _ => rfl
  · unfold Region.wanted
    cases hg : o.guard with
    | none => rfl
    | some gw =>
      obtain ⟨g, want⟩ := gw
      have hy : yielded ops a.tmps g = yielded ops b.tmps g := by
        unfold yielded
        cases ht : (ops[g]?).bind (·.dst) with
        | none => rfl
        | some t =>
          have := hag t (by simp [Oper.looksAt, hg, ht])
          simp [this]
      simp only [hy]

def putAll (n : List (Nat × Tmp)) (vs : Tmp → Value) (b : Act) : Act := n.foldl (fun a p => a.put (some p.2) (vs p.2)) b
theorem need_of {f : Nat → VP} {w : World} {K : Act → Prop} : ∀ (n : List (Nat × Tmp)) (b : Act), Need f w K n b →
    (vs : Tmp → Value) → (∀ j d, (j, d) ∈ n → f j (vs d) w) → K (putAll n vs b)
  | [], _, h, _, _ => h
  | (j, d) :: r, b, h, vs, hv => by
    show K (putAll r vs (b.put (some d) (vs d)))
    exact need_of r _ (h _ (hv j d (by simp))) vs (fun j' d' hm => hv j' d' (List.mem_cons_of_mem _ hm))

open Classical in
theorem putAll_at (n : List (Nat × Tmp)) (vs : Tmp → Value) (t : Tmp) : ∀ b : Act, (putAll n vs b).tmps[t]? = if (∃ j, (j, t) ∈ n) ∧ t < b.tmps.size then some (vs t) else b.tmps[t]? := by
  induction n with
  | nil => intro b; simp [putAll]
  | cons p r ih =>
    intro b
    obtain ⟨j, d⟩ := p
    show (putAll r vs (b.put (some d) (vs d))).tmps[t]? = _
    rw [ih, put_size, put_at]
    by_cases hd : d = t
    · subst hd
      by_cases hlt : d < b.tmps.size
      · simp [hlt]
      · simp [hlt]
    · by_cases h2 : (∃ j, (j, t) ∈ r) ∧ t < b.tmps.size
      · rw [if_pos h2, if_pos ⟨by obtain ⟨⟨j', hj'⟩, _⟩ := h2; exact ⟨j', List.mem_cons_of_mem _ hj'⟩, h2.2⟩]
      · rw [if_neg h2, if_neg (by simp [hd]), if_neg]
        rintro ⟨⟨j', hj'⟩, hlt⟩
        rcases List.mem_cons.1 hj' with h | h
        · injection h with _ h; exact hd h.symm
        · exact h2 ⟨⟨j', h⟩, hlt⟩

theorem putAll_size (n : List (Nat × Tmp)) (vs : Tmp → Value) : ∀ b : Act, (putAll n vs b).tmps.size = b.tmps.size ∧ (putAll n vs b).defers = b.defers := by
  induction n with
  | nil => intro b; exact ⟨rfl, rfl⟩
  | cons p r ih => intro b; have := ih (b.put (some p.2) (vs p.2)); exact ⟨this.1.trans (put_size _ _ _), this.2⟩

theorem upon_move {o : Oper} {a b : Act} {K K' : Act → World → Prop} {Q : Exit → Act → World → Prop} {r : Result Next} (h : o.upon P b (wpList P ops (Exit.then K (fun _ _ _ => False)) []) (Exit.then K (fun _ _ _ => False)) r)
    (hv : ∀ v w', K (b.put o.dst v) w' → K' (a.put o.dst v) w') (hdf : ∀ d w', ¬ K (({ b with defers := d :: b.defers } : Act).put o.dst undef) w') : o.upon P a K' Q r := by
  cases r with
  | ok n w' =>
    cases n <;> simp only [Oper.upon] at h ⊢
    case value v => exact hv _ _ h
    case skip => exact hv _ _ h
    case defer d => exact absurd h (hdf d w')
    case enter f args =>
      refine Calls.mono h fun e w'' he => ?_
      cases e with
      | returned u => exact hv _ _ he
      | panicked c => exact (show False from he).elim
      | outgrown => obtain ⟨_, _, hf⟩ := he; exact (show False from hf).elim
    case row row args => exact Rows.mono h fun u w'' he => hv _ _ he
  | halt x w' => cases x <;> simp only [Oper.upon] at h ⊢ <;> exact (show False from h).elim

theorem need_congr {f g : Nat → VP} {w : World} {K : Act → Prop} : ∀ (n : List (Nat × Tmp)) (b : Act), (∀ j d, (j, d) ∈ n → f j = g j) → Need f w K n b → Need g w K n b
  | [], _, _, h => h
  | (j, d) :: r, b, he, h => fun v hv => need_congr r _ (fun j' d' hm => he j' d' (List.mem_cons_of_mem _ hm)) (h v (by rw [he j d (by simp)]; exact hv))

/-- What the walk gives, all at once. -/
theorem grow_fin {fin : (Nat → VP) → Prop} : ∀ (os : List Oper) (i : Nat) (ns : List (List (Nat × Tmp))) (f : Nat → VP), (∀ k n, ns[k]? = some n → ∀ j d, (j, d) ∈ n → j < i + k) → Grow P ops a0 w0 fin i os ns f →
    ∃ g : Nat → VP, (∀ k, k < i → g k = f k) ∧ (∀ k o, os[k]? = some o → Stay (g (i + k)) ∧ ∀ w, Ext w0 w → Need g w (RunOp P ops o (g (i + k)) w) (ns.getD k []) a0) ∧ fin g
  | [], _, _, f, _, h => ⟨f, fun _ _ => rfl, fun k o ho => by simp at ho, h⟩
  | o :: os, i, ns, f, hns, ⟨φ, hs, hrun, hr⟩ => by
    obtain ⟨g, h1, h2, h3⟩ := grow_fin os (i + 1) ns.tail (upd f i φ) (fun k n hn j d hm => by
      have := hns (k + 1) n (by simpa using hn) j d hm
      omega) hr
    have hgi : g i = φ := by rw [h1 i (by omega)]; simp [upd]
    refine ⟨g, fun k hk => by rw [h1 k (by omega)]; simp [upd, Nat.ne_of_lt hk], fun k o' ho => ?_, h3⟩
    cases k with
    | zero =>
      simp only [List.getElem?_cons_zero, Option.some.injEq] at ho
      subst ho
      rw [Nat.add_zero, hgi]
      refine ⟨hs, fun w hw => ?_⟩
      have := hrun w hw
      rw [show ns.getD 0 [] = ns.headD [] by cases ns <;> rfl]
      refine need_congr _ _ (fun j d hm => ?_) this
      have hj : j < i := by
        cases ns with
        | nil => simp at hm
        | cons n ns => have := hns 0 n (by simp) j d (by simpa using hm); omega
      rw [h1 j (by omega)]; simp [upd, Nat.ne_of_lt hj]
    | succ k =>
      have := h2 k o' (by simpa using ho)
      rw [show i + (k + 1) = i + 1 + k by omega]
      rw [show ns.getD (k + 1) [] = ns.tail.getD k [] by cases ns <;> rfl]
      exact this

theorem countP_lt (p q : Nat → Bool) (h : ∀ x, q x = true → p x = true) (i : Nat) (hp : p i = true) (hq : q i = false) : ∀ L : List Nat, i ∈ L → L.countP q < L.countP p
  | x :: L, hm => by
    have hle : ∀ M : List Nat, M.countP q ≤ M.countP p := fun M => List.countP_mono_left fun x _ hx => h x hx
    rcases List.mem_cons.1 hm with rfl | hm
    · rw [List.countP_cons, List.countP_cons, if_pos hp, if_neg (by simp [hq])]
      have := hle L; omega
    · have := countP_lt p q h i hp hq L hm
      rw [List.countP_cons, List.countP_cons]
      by_cases hx : q x = true
      · rw [if_pos hx, if_pos (h x hx)]; omega
      · rw [if_neg hx]; split <;> omega

def left_ (n : Nat) (l : Array Bool) : Nat := (List.range n).countP fun j => !l.getD j true

theorem grow_any {Q : Exit → Act → World → Prop} {ns : List (List (Nat × Tmp))} (hc : chkAll ops ns = true) (g : Nat → VP)
    (hg : ∀ (i : Nat) (o : Oper), ops[i]? = some o → Stay (g i) ∧ ∀ w, Ext w0 w → Need g w (RunOp P ops o (g i) w) (ns.getD i []) a0)
    (hd : ∀ (i : Nat) (o : Oper) (d : Tmp), ops[i]? = some o → o.dst = some d → d < a0.tmps.size)
    (hQ : ∀ a w, Stands ops a0 w0 g (Array.replicate ops.size true) a w → Q .normal a w) :
    ∀ (fuel : Nat) (l : Array Bool) (a : Act) (w : World), l.size = ops.size → left_ ops.size l ≤ fuel → Stands ops a0 w0 g l a w → wpAny P .any ops Q fuel l a w := by
  simp only [chkAll, Bool.and_eq_true, List.all_eq_true, List.mem_range] at hc
  obtain ⟨⟨⟨_, hsel⟩, hone⟩, hdst⟩ := hc
  have hsel' := Region.noSelect_spec hsel
  have one : ∀ (i : Nat) (o : Oper), ops[i]? = some o → (∀ e ∈ o.after, Region.binds .any e = true → e.on < i) ∧ (∀ j d, (j, d) ∈ ns.getD i [] → j < i ∧ ((ops[j]?).bind (·.dst)) = some d ∧ ∃ e ∈ o.after, e.on = j ∧ Region.binds .any e = true) ∧
      (∀ t, t ∈ o.looksAt ops → ∀ j, j < ops.size → j = i ∨ ((ops[j]?).bind (·.dst)) ≠ some t ∨ (j, t) ∈ ns.getD i [] ∨ ∃ o', ops[j]? = some o' ∧ ∃ e ∈ o'.after, e.on = i ∧ Region.binds .any e = true) := by
    intro i o ho
    have h := hone i (Array.getElem?_eq_some_iff.1 ho).1
    rw [ho] at h
    simp only [Option.map_some, Option.getD_some, chkOne, Bool.and_eq_true, Array.all_eq_true_iff_forall_mem, List.all_eq_true, List.mem_range, Bool.or_eq_true, beq_iff_eq, bne_iff_ne, decide_eq_true_eq, Bool.not_eq_true', List.contains_iff_mem] at h
    obtain ⟨⟨h1, h2⟩, h3⟩ := h
    refine ⟨fun e he hb => (h1 e he).resolve_left (by simp [hb]), fun j d hm => ?_, fun t ht j hj => ?_⟩
    · obtain ⟨⟨ha, hb⟩, hc⟩ := h2 (j, d) hm
      obtain ⟨e, he, hb'⟩ := Array.any_eq_true'.1 hc
      simp only [Bool.and_eq_true, beq_iff_eq] at hb'
      exact ⟨ha, hb, e, he, hb'.1, hb'.2⟩
    · rcases h3 t ht j hj with ((h | h) | h) | h
      · exact .inl h
      · exact .inr (.inl h)
      · exact .inr (.inr (.inl h))
      · refine .inr (.inr (.inr ?_))
        cases ho' : ops[j]? with
        | none => rw [ho'] at h; simp at h
        | some o' =>
          rw [ho', Option.map_some, Option.getD_some] at h
          obtain ⟨e, he, hb'⟩ := Array.any_eq_true'.1 h
          simp only [Bool.and_eq_true, beq_iff_eq] at hb'
          exact ⟨o', rfl, e, he, hb'.1, hb'.2⟩
  have lone_ : ∀ (i j : Nat) (d : Tmp), ((ops[i]?).bind Oper.dst) = some d → ((ops[j]?).bind Oper.dst) = some d → i = j := by
    intro i j d h1 h2
    have hi : i < ops.size := by
      rcases Nat.lt_or_ge i ops.size with h | h
      · exact h
      · rw [Array.getElem?_eq_none h] at h1; cases h1
    have hj : j < ops.size := by
      rcases Nat.lt_or_ge j ops.size with h | h
      · exact h
      · rw [Array.getElem?_eq_none h] at h2; cases h2
    have h := hdst i hi j hj
    simp only [Bool.or_eq_true, beq_iff_eq, bne_iff_ne] at h
    rcases h with (h | h) | h
    · exact h
    · rw [h1] at h; cases h
    · exact absurd (h1.trans h2.symm) h
  -- all have come up where none is ready
  have done_ : ∀ (l : Array Bool) (a : Act) (w : World), l.size = ops.size → Region.ready .any ops l = [] → Stands ops a0 w0 g l a w → Q .normal a w := by
    intro l a w hl hr hst
    have hall : ∀ n, n ≤ ops.size → ∀ i, i < n → l.getD i true = true := by
      intro n
      induction n with
      | zero => intro _ i hi; omega
      | succ n ih =>
        intro hn i hi
        rcases Nat.lt_or_ge i n with h | h
        · exact ih (by omega) i h
        · have hin : i = n := by omega
          subst hin
          cases hx : l.getD i true with
          | true => rfl
          | false =>
            have : i ∈ Region.ready .any ops l := mem_ready.2 ⟨hx, ops[i]'(by omega), Array.getElem?_eq_getElem (by omega), fun e he hb => by
              have hlt := (one i _ (Array.getElem?_eq_getElem (by omega))).1 e he hb
              have := ih (by omega) e.on hlt
              rw [Array.getD_eq_getD_getElem?] at this ⊢
              rw [Array.getElem?_eq_getElem (by omega)] at this ⊢
              exact this⟩
            rw [hr] at this; cases this
    refine hQ a w ⟨hst.ext, hst.size, hst.defers, fun t ht => hst.old t fun j hj hd => ?_, fun j o hj ho e he hb => ?_, fun j d hj hd hlt => ?_⟩
    · have hjs : j < ops.size := by
        rcases Nat.lt_or_ge j ops.size with h | h
        · exact h
        · rw [Array.getElem?_eq_none h] at hd; cases hd
      exact ht j (by simp [hjs]) hd
    · have hlt := (one j o ho).1 e he hb
      have hjs : j < ops.size := (Array.getElem?_eq_some_iff.1 ho).1
      simp [show e.on < ops.size by omega]
    · have hjs : j < ops.size := by
        rcases Nat.lt_or_ge j ops.size with h | h
        · exact h
        · rw [Array.getElem?_eq_none h] at hd; cases hd
      refine hst.got j d ?_ hd hlt
      have := hall ops.size (Nat.le_refl _) j hjs
      rw [Array.getD_eq_getD_getElem?] at this ⊢
      rw [Array.getElem?_eq_getElem (by omega)] at this ⊢
      exact this
  intro fuel
  induction fuel with
  | zero =>
    intro l a w hl hleft hst
    have hr : Region.ready .any ops l = [] := by
      cases h : Region.ready .any ops l with
      | nil => rfl
      | cons i r =>
        have hi : i ∈ Region.ready .any ops l := by rw [h]; simp
        obtain ⟨hun, o, ho, _⟩ := mem_ready.1 hi
        have hp := List.countP_pos_iff (p := fun j => !l.getD j true) (l := List.range ops.size) |>.2 ⟨i, List.mem_range.2 (Array.getElem?_eq_some_iff.1 ho).1, by simp only [hun]; rfl⟩
        unfold left_ at hleft
        omega
    exact ⟨hr, done_ l a w hl hr hst⟩
  | succ fuel ih =>
    intro l a w hl hleft hst
    refine ⟨fun hr => done_ l a w hl hr hst, fun i hi => ?_⟩
    obtain ⟨hun, o, ho, haft⟩ := mem_ready.1 hi
    have his : i < ops.size := (Array.getElem?_eq_some_iff.1 ho).1
    obtain ⟨one1, one2, one3⟩ := one i o ho
    have hli : l.getD i false = false := by
      rw [Array.getD_eq_getD_getElem?] at hun ⊢
      rw [Array.getElem?_eq_getElem (by omega)] at hun ⊢
      exact hun
    -- what holds behind this operation
    have next : ∀ v w', Ext w w' → g i v w' → wpAny P .any ops Q fuel (l.setIfInBounds i true) (a.put o.dst v) w' := by
      intro v w' hx hv
      refine ih _ _ _ (by simpa using hl) ?_ ?_
      · have : left_ ops.size (l.setIfInBounds i true) < left_ ops.size l := by
          refine countP_lt _ _ (fun x hx => ?_) i (by simp only [hun]; rfl) ?_ _ (List.mem_range.2 his)
          · by_cases hxi : i = x
            · subst hxi; simp only [hun]; rfl
            · rw [getD_set_ne true hxi] at hx; exact hx
          · simp [hl, his]
        omega
      · have hsame : ∀ j, (l.setIfInBounds i true).getD j false = true → j ≠ i → l.getD j false = true := fun j hj hne => by
          rw [getD_set_ne false (Ne.symm hne)] at hj; exact hj
        refine ⟨hst.ext.trans hx, (put_size _ _ _).trans hst.size, by cases o.dst <;> exact hst.defers, fun t ht => ?_, fun j o' hj ho' e he hb => ?_, fun j d hj hd' hlt => ?_⟩
        · have hti : o.dst ≠ some t := by
            have := ht i (by simp [hl, his])
            rw [ho] at this; exact this
          have hput : (a.put o.dst v).tmps[t]? = a.tmps[t]? := by
            cases hd' : o.dst with
            | none => rfl
            | some d => rw [put_at, if_neg (by rintro ⟨rfl, _⟩; exact hti hd')]
          rw [hput]
          refine hst.old t fun j hj => ?_
          exact ht j (getD_set_true hj)
        · refine getD_set_true ?_
          by_cases hji : j = i
          · subst hji
            rw [ho] at ho'
            injection ho' with ho'
            subst ho'
            exact haft e he hb
          · exact hst.down j o' (hsame j hj hji) ho' e he hb
        · by_cases hji : j = i
          · subst hji
            rw [ho] at hd'
            have hd'' : o.dst = some d := hd'
            rw [hd'', put_at, if_pos ⟨rfl, by rw [hst.size]; exact hlt⟩]
            exact ⟨v, rfl, hv⟩
          · obtain ⟨u, hu, hf⟩ := hst.got j d (hsame j hj hji) hd' hlt
            refine ⟨u, ?_, (by
              obtain ⟨oj, hoj, _⟩ := Option.bind_eq_some_iff.1 hd'
              exact (hg j oj hoj).1 _ _ _ hf hx)⟩
            cases hdo : o.dst with
            | none => exact hu
            | some e =>
              rw [put_at, if_neg]
              · exact hu
              · rintro ⟨rfl, _⟩
                exact hji (lone_ j i _ hd' (by rw [ho]; exact hdo))
    -- the operation itself, in the frame of what it looks at
    have hn := need_of (ns.getD i []) a0 ((hg i o ho).2 w hst.ext) (fun d => (a.tmps[d]?).getD undef) (fun j d hm => by
      obtain ⟨_, hjd, e, he, hej, heb⟩ := one2 j d hm
      have hlj : l.getD j false = true := by have := haft e he heb; rw [hej] at this; exact this
      obtain ⟨oj, hoj, hdj⟩ := Option.bind_eq_some_iff.1 hjd
      obtain ⟨v, hv, hf⟩ := hst.got j d hlj hjd (hd j oj d hoj hdj)
      rw [hv]; exact hf)
    have hag : ∀ t, t ∈ o.looksAt ops → a.tmps[t]? = (putAll (ns.getD i []) (fun d => (a.tmps[d]?).getD undef) a0).tmps[t]? := by
      intro t ht
      rw [putAll_at]
      split
      · rename_i h
        obtain ⟨⟨j, hm⟩, hlt⟩ := h
        rw [Array.getElem?_eq_getElem (by rw [hst.size]; exact hlt)]
        rfl
      · rename_i h
        refine hst.old t fun j hj hjt => ?_
        have hjs : j < ops.size := by
          rcases Nat.lt_or_ge j ops.size with h | h
          · exact h
          · rw [Array.getElem?_eq_none h] at hjt; cases hjt
        rcases one3 t ht j hjs with e | e | e | ⟨o', ho', e', he', hee, heb⟩
        · subst e; rw [hli] at hj; cases hj
        · exact e hjt
        · obtain ⟨oj, hoj, hdj⟩ := Option.bind_eq_some_iff.1 hjt
          exact h ⟨⟨j, e⟩, hd j oj t hoj hdj⟩
        · have := hst.down j o' hj ho' e' he' heb
          rw [hee, hli] at this; cases this
    obtain ⟨hex, hwa⟩ := run_congr (ops := ops) (w := w) (fun cs b => hsel' i o cs b ho) hag
    unfold wpOp
    simp only [ho]
    generalize hbb : putAll (ns.getD i []) (fun d => (a.tmps[d]?).getD undef) a0 = b at *
    have hbs : b.tmps.size = a0.tmps.size ∧ b.defers = a0.defers := by rw [← hbb]; exact putAll_size _ _ _
    have hK := hn (fun b' w' => (∃ v, b' = b.put o.dst v) ∧ ∀ u, b' = b.put o.dst u → wpAny P .any ops Q fuel (l.setIfInBounds i true) (a.put o.dst u) w') (fun v w' hx hv => ⟨⟨v, rfl⟩, fun u hu => by
      have : a.put o.dst u = a.put o.dst v := by
        cases hdo : o.dst with
        | none => rfl
        | some d =>
          rw [hdo] at hu
          have h1 := put_at b d v d
          have h2 := put_at b d u d
          rw [hu] at h1
          have hlt : d < b.tmps.size := by rw [hbs.1]; exact hd i o d ho hdo
          rw [h1] at h2
          simp only [hlt, and_self, if_true, Option.some.injEq] at h2
          rw [h2]
      rw [this]; exact next v w' hx hv⟩)
    split
    · rename_i hw
      rw [hwa] at hw
      unfold wpList at hK
      rw [if_pos hw] at hK
      refine .inl ?_
      replace hK := hK.resolve_right (by rintro ⟨_, _, _, hf⟩; exact hf)
      unfold Oper.wp at hK ⊢
      rw [hex]
      refine upon_move hK (fun v w' h => h.2 v rfl) (fun d w' h => ?_)
      obtain ⟨⟨v, hv⟩, _⟩ := h
      have := congrArg Act.defers hv
      have pd : ∀ (x : Act) (y : Option Tmp) (z : Value), (x.put y z).defers = x.defers := fun x y z => by cases y <;> rfl
      rw [pd, pd] at this
      have h2 := congrArg List.length this
      simp at h2
    · rename_i hw
      rw [hwa] at hw
      unfold wpList at hK
      rw [if_neg hw] at hK
      exact (show _ ∧ _ from hK).2 undef rfl

theorem chk_ns {ns : List (List (Nat × Tmp))} (hc : chkAll ops ns = true) : ∀ k n, ns[k]? = some n → ∀ j d, (j, d) ∈ n → j < 0 + k := by
  simp only [chkAll, Bool.and_eq_true, List.all_eq_true, List.mem_range, decide_eq_true_eq] at hc
  obtain ⟨⟨⟨hl, _⟩, hone⟩, _⟩ := hc
  intro k n hn j d hm
  have hk : k < ns.length := (List.getElem?_eq_some_iff.1 hn).1
  have h := hone k (by omega)
  rw [Array.getElem?_eq_getElem (by omega)] at h
  simp only [Option.map_some, Option.getD_some, chkOne, Bool.and_eq_true, List.all_eq_true, List.getD_eq_getElem?_getD, hn] at h
  have := (h.1.2 (j, d) hm).1.1
  simp only [decide_eq_true_eq] at this
  omega

theorem mem_allDst {i : Nat} {d : Tmp} : (i, d) ∈ allDst ops ↔ ((ops[i]?).bind Oper.dst) = some d := by
  unfold allDst
  rw [List.mem_filterMap]
  constructor
  · rintro ⟨⟨o, k⟩, hm, he⟩
    rw [List.mem_zipIdx_iff_getElem?] at hm
    simp only [Option.map_eq_some_iff, Prod.mk.injEq] at he
    obtain ⟨d', hd, rfl, rfl⟩ := he
    simp only [Array.getElem?_toList] at hm
    rw [hm]; exact hd
  · intro h
    obtain ⟨o, ho, hd⟩ := Option.bind_eq_some_iff.1 h
    refine ⟨(o, i), ?_, by simp [hd]⟩
    rw [List.mem_zipIdx_iff_getElem?]
    simpa using ho

/-- ████ The rule. -/
theorem region_grow {id : Nat} {Q : Exit → Act → World → Prop} {w : World} (ns : List (List (Nat × Tmp))) (hm : P.follows .mixedOrders = true) (hc : chkAll ops ns = true)
    (hd : (ops.all fun o => o.dst.all fun d => decide (d < a0.tmps.size)) = true)
    (h : Grow P ops a0 w.drew (fun f => ∀ w', Ext w.drew w' → Need f w' (fun a => Q .normal a w') (allDst ops) a0) 0 ops.toList ns (fun _ _ _ => False)) : (Code.region id ops true).wp P Q a0 w := by
  refine wp_region_any hm ?_
  obtain ⟨g, _, hg, hfin⟩ := grow_fin ops.toList 0 ns _ (chk_ns hc) h
  have hd' : ∀ (i : Nat) (o : Oper) (d : Tmp), ops[i]? = some o → o.dst = some d → d < a0.tmps.size := fun i o d ho hdo => by
    have := Array.all_eq_true_iff_forall_mem.1 hd o (Array.mem_of_getElem? ho)
    rw [hdo] at this
    simpa using this
  refine grow_any (w0 := w.drew) (a0 := a0) hc g (fun i o ho => by have := hg i o (by simpa using ho); simpa using this) hd' (fun a w' hst => ?_) ops.size _ a0 _ (by simp) ?_ ⟨Ext.refl _, rfl, rfl, fun _ _ => rfl, fun j o hj => ?_, fun j d hj => ?_⟩
  · have hk := need_of (allDst ops) a0 (hfin w' hst.ext) (fun d => (a.tmps[d]?).getD undef) (fun j d hm => by
      have hjd := mem_allDst.1 hm
      obtain ⟨oj, hoj, hdj⟩ := Option.bind_eq_some_iff.1 hjd
      have hjs : j < ops.size := (Array.getElem?_eq_some_iff.1 hoj).1
      obtain ⟨v, hv, hf⟩ := hst.got j d (by simp [hjs]) hjd (hd' j oj d hoj hdj)
      rw [hv]; exact hf)
    have he : putAll (allDst ops) (fun d => (a.tmps[d]?).getD undef) a0 = a := by
      have h1 := putAll_size (allDst ops) (fun d => (a.tmps[d]?).getD undef) a0
      have h2 : (putAll (allDst ops) (fun d => (a.tmps[d]?).getD undef) a0).tmps = a.tmps := by
        apply Array.ext_getElem?
        intro t
        rw [putAll_at]
        split
        · rename_i h
          rw [Array.getElem?_eq_getElem (by rw [hst.size]; exact h.2)]
          rfl
        · rename_i h
          refine (hst.old t fun j hj hjt => h ⟨⟨j, mem_allDst.2 hjt⟩, ?_⟩).symm
          obtain ⟨oj, hoj, hdj⟩ := Option.bind_eq_some_iff.1 hjt
          exact hd' j oj t hoj hdj
      have h3 : (putAll (allDst ops) (fun d => (a.tmps[d]?).getD undef) a0).defers = a.defers := h1.2.trans hst.defers.symm
      cases ha : putAll (allDst ops) (fun d => (a.tmps[d]?).getD undef) a0
      rw [ha] at h2 h3
      cases a
      simp_all
    rw [he] at hk
    exact hk
  · exact Nat.le_trans List.countP_le_length (by simp)
  · have hjs : ¬ ((Array.replicate ops.size false).getD j false = true) := by
      rw [Array.getD_eq_getD_getElem?, Array.getElem?_replicate]; split <;> simp
    exact absurd hj hjs
  · have hjs : ¬ ((Array.replicate ops.size false).getD j false = true) := by
      rw [Array.getD_eq_getD_getElem?, Array.getElem?_replicate]; split <;> simp
    exact absurd hj hjs
end

theorem region_growL {P : Program} {os : List Oper} {a0 : Act} {id : Nat} {Q : Exit → Act → World → Prop} {w : World} (ns : List (List (Nat × Tmp))) (ds : List (Nat × Tmp)) (hm : P.follows .mixedOrders = true) (hc : chkAll os.toArray ns = true)
    (hds : allDst os.toArray = ds) (hd : (os.toArray.all fun o => o.dst.all fun d => decide (d < a0.tmps.size)) = true)
    (h : Grow P os.toArray a0 w.drew (fun f => ∀ w', Ext w.drew w' → Need f w' (fun a => Q .normal a w') ds a0) 0 os ns (fun _ _ _ => False)) : (Code.region id os.toArray true).wp P Q a0 w := by
  subst hds
  exact region_grow ns hm hc hd h
theorem Grow.last {P : Program} {ops : Array Oper} {a0 : Act} {w0 : World} {fin : (Nat → VP) → Prop} {i : Nat} {ns : List (List (Nat × Tmp))} {f : Nat → VP} (h : fin f) : Grow P ops a0 w0 fin i [] ns f := h
theorem Need.done {f : Nat → VP} {w : World} {K : Act → Prop} {a : Act} (h : K a) : Need f w K [] a := h
theorem Ext.cells {a b : World} (h : Ext a b) : ∀ p : Addr, p.block < a.heap.size → b.cell? p = a.cell? p := fun _ hp => h.cell hp

end Go.Proofs.Ytfacgdjfeogalaa
