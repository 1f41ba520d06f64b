/- Proved: lemmas for the law of this folder, part 4. No condition. -/
import Derived.Test.YtcdjifdllibolaaRows
import Derived.WalkKit
import Derived.WalkSpells
import Derived.WalkLawsBesides
import Derived.Lib.Hide
import Derived.Laws.CopyOwn
import Derived.Deep.QuietTactic
import Derived.BigQuiet
import Derived.Orders
import Derived.Defers
import Derived.ProofKit
import Derived.OpenShut
import Derived.Recover
import Derived.Test.YtcdjifdllibolaaProg
import Derived.KernelRfl
import Derived.Test.YtcdjifdllibolaaZ00079efa
set_option linter.unusedSimpArgs false
set_option linter.unusedVariables false
namespace Go.Proofs.Ytcdjifdllibolaa

abbrev Lab := BitVec 64
abbrev Limb := BitVec 32
structure Num where
  neg : Bool
  top : List Limb
  bot : List Limb
  deriving DecidableEq
structure CellF (α : Type) where
  l : Lab
  kind : Int
  n : Num
  c : Int
  inn : List α
inductive Arr where
  | mk (s : Lab) (shape : List Int) (cells : List (CellF Arr))
abbrev Cell := CellF Arr
def Arr.s : Arr → Lab | .mk s _ _ => s
def Arr.shape : Arr → List Int | .mk _ s _ => s
def Arr.cells : Arr → List Cell | .mk _ _ c => c
@[simp] theorem Arr.s_mk (s sh cs) : (Arr.mk s sh cs).s = s := rfl
@[simp] theorem Arr.shape_mk (s sh cs) : (Arr.mk s sh cs).shape = sh := rfl
@[simp] theorem Arr.cells_mk (s sh cs) : (Arr.mk s sh cs).cells = cs := rfl
def Num.zero : Num := ⟨false, [], []⟩
theorem Arr.ind {p : Arr → Prop} (h : ∀ s sh cs, (∀ c ∈ cs, ∀ x ∈ c.inn, p x) → p (.mk s sh cs)) (a : Arr) : p a :=
  Arr.rec (motive_1 := p) (motive_2 := fun cs => ∀ c ∈ cs, ∀ x ∈ c.inn, p x) (motive_3 := fun c => ∀ x ∈ c.inn, p x) (motive_4 := fun as_ => ∀ x ∈ as_, p x)
    (fun s sh cs ih => h s sh cs ih) (fun c hc => by cases hc)
    (fun c cs h1 h2 d hd => by rcases List.mem_cons.1 hd with rfl | hd; exact h1; exact h2 d hd)
    (fun _ _ _ _ _ ih => ih) (fun x hx => by cases hx)
    (fun a as_ h1 h2 x hx => by rcases List.mem_cons.1 hx with rfl | hx; exact h1; exact h2 x hx) a

def dB {k : Nat} (x : BitVec k) : D := .int (x.toNat : Int)
def dI (l : List Int) : D := .sl (l.map .int)
def dL (l : List Limb) : D := .sl (l.map dB)
def dN (n : Num) : D := .agg [.bool n.neg, dL n.top, dL n.bot]
mutual
def dA : Arr → D
  | .mk s sh cs => .agg [dB s, dI sh, .sl (dCs cs)]
def dCs : List (CellF Arr) → List D
  | [] => []
  | c :: cs => dC c :: dCs cs
def dC : CellF Arr → D
  | ⟨l, k, n, c, inn⟩ => .agg [dB l, .int k, dN n, .int c, .sl (dAs inn)]
def dAs : List Arr → List D
  | [] => []
  | a :: as_ => dA a :: dAs as_
end
theorem dCs_map : ∀ cs, dCs cs = cs.map dC
  | [] => by simp [dCs]
  | c :: cs => by simp [dCs, dCs_map cs]
theorem dAs_map : ∀ as_, dAs as_ = as_.map dA
  | [] => by simp [dAs]
  | a :: as_ => by simp [dAs, dAs_map as_]
theorem dA_eq (a : Arr) : dA a = .agg [dB a.s, dI a.shape, .sl (a.cells.map dC)] := by cases a; simp [dA, dCs_map]
theorem dC_eq (c : Cell) : dC c = .agg [dB c.l, .int c.kind, dN c.n, .int c.c, .sl (c.inn.map dA)] := by cases c; simp [dC, dAs_map]
section simps
@[simp] theorem fld_agg0 (x : D) (l : List D) : (D.agg (x :: l)).fld 0 = x := rfl
@[simp] theorem fld_agg1 (x y : D) (l : List D) : (D.agg (x :: y :: l)).fld 1 = y := rfl
@[simp] theorem fld_agg2 (x y z : D) (l : List D) : (D.agg (x :: y :: z :: l)).fld 2 = z := rfl
@[simp] theorem fld_agg3 (x y z u : D) (l : List D) : (D.agg (x :: y :: z :: u :: l)).fld 3 = u := rfl
@[simp] theorem fld_agg4 (x y z u v : D) (l : List D) : (D.agg (x :: y :: z :: u :: v :: l)).fld 4 = v := rfl
@[simp] theorem dA_0 (a : Arr) : (dA a).fld 0 = dB a.s := by rw [dA_eq]; rfl
@[simp] theorem dA_1 (a : Arr) : (dA a).fld 1 = dI a.shape := by rw [dA_eq]; rfl
@[simp] theorem dA_2 (a : Arr) : (dA a).fld 2 = .sl (a.cells.map dC) := by rw [dA_eq]; rfl
@[simp] theorem dC_0 (c : Cell) : (dC c).fld 0 = dB c.l := by rw [dC_eq]; rfl
@[simp] theorem dC_1 (c : Cell) : (dC c).fld 1 = .int c.kind := by rw [dC_eq]; rfl
@[simp] theorem dC_2 (c : Cell) : (dC c).fld 2 = dN c.n := by rw [dC_eq]; rfl
@[simp] theorem dC_3 (c : Cell) : (dC c).fld 3 = .int c.c := by rw [dC_eq]; rfl
@[simp] theorem dC_4 (c : Cell) : (dC c).fld 4 = .sl (c.inn.map dA) := by rw [dC_eq]; rfl
@[simp] theorem dN_0 (n : Num) : (dN n).fld 0 = .bool n.neg := rfl
@[simp] theorem dN_1 (n : Num) : (dN n).fld 1 = dL n.top := rfl
@[simp] theorem dN_2 (n : Num) : (dN n).fld 2 = dL n.bot := rfl
@[simp] theorem els_sl (l : List D) : (D.sl l).els = l := rfl
@[simp] theorem els_dI (l : List Int) : (dI l).els = l.map .int := rfl
@[simp] theorem els_dL (l : List Limb) : (dL l).els = l.map dB := rfl
@[simp] theorem toInt_int (n : Int) : (D.int n).toInt = n := rfl
@[simp] theorem toInt_dB {k : Nat} (x : BitVec k) : (dB x).toInt = (x.toNat : Int) := rfl
@[simp] theorem toBool_bool (b : Bool) : (D.bool b).toBool = b := rfl
@[simp] theorem unref_ref (x : D) : (D.ref x).unref = x := rfl
@[simp] theorem fnId_fn (f c d) : (D.fn f c d).fnId = f := rfl
@[simp] theorem fnCts_fn (f c d) : (D.fn f c d).fnCts = c := rfl
@[simp] theorem fnDs_fn (f c d) : (D.fn f c d).fnDs = d := rfl
@[simp] theorem getD_c0 (x : D) (l : List D) : (x :: l).getD 0 D.nil = x := rfl
@[simp] theorem getD_c1 (x y : D) (l : List D) : (x :: y :: l).getD 1 D.nil = y := rfl
@[simp] theorem getD_c2 (x y z : D) (l : List D) : (x :: y :: z :: l).getD 2 D.nil = z := rfl
@[simp] theorem getD_c3 (x y z u : D) (l : List D) : (x :: y :: z :: u :: l).getD 3 D.nil = u := rfl
theorem dInt_dB {k : Nat} (x : BitVec k) : D.int (x.toNat : Int) = dB x := rfl
end simps

/-- A row, from a place on. -/
theorem drop_cons {α : Type} {l : List α} {i : Nat} {x : α} {xs : List α} (h : l.drop i = x :: xs) : i < l.length ∧ l[i]? = some x ∧ l.drop (i + 1) = xs := by
  have hi : i < l.length := by
    rcases Nat.lt_or_ge i l.length with h1 | h1
    · exact h1
    · rw [List.drop_eq_nil_of_le h1] at h; cases h
  rw [List.drop_eq_getElem_cons hi] at h
  injection h with h1 h2
  exact ⟨hi, by rw [List.getElem?_eq_getElem hi, h1], h2⟩
theorem drop_nil {α : Type} {l : List α} {i : Nat} (h : l.drop i = []) : l.length ≤ i := List.drop_eq_nil_iff.1 h
theorem getD_map {α : Type} {l : List α} {i : Nat} {x : α} {f : α → D} (h : l[i]? = some x) : (l.map f).getD i D.nil = f x := by
  rw [List.getD_eq_getElem?_getD, List.getElem?_map, h]; rfl
theorem wrap64 {x : Int} (h1 : -9223372036854775808 ≤ x) (h2 : x ≤ 9223372036854775807) : IntKind.wrap .i64 x = x := by rw [IntKind.wrap_i64]; omega
theorem wrapU64 {x : Int} (h1 : 0 ≤ x) (h2 : x < 18446744073709551616) : IntKind.wrap .u64 x = x := by rw [IntKind.wrap_u64]; omega
theorem wrapU32 {x : Int} (h1 : 0 ≤ x) (h2 : x < 4294967296) : IntKind.wrap .u32 x = x := by rw [IntKind.wrap_u32]; omega

end Go.Proofs.Ytcdjifdllibolaa

namespace Go.Proofs.Ytcdjifdllibolaa
def mdL : List (Nat × FMode) := [(75, { own := [(0, [])] }), (78, { arg := some 0, back := true }), (81, { own := [(0, [])] })]
def md (f : Nat) : FMode := mdAt mdL f
theorem wfP : WfP Try.prog := wf_of (by kernel_rfl)
theorem mixP : Try.prog.follows .mixedOrders = true := by kernel_rfl
theorem noopP : NoopP Try.prog md := noop_all (by
  intro p hp hn
  simp only [mdL, List.mem_cons, List.not_mem_nil, or_false] at hp
  rcases hp with rfl | rfl | rfl
  all_goals first | exact absurd hn (by decide) | skip
  )
theorem sound_ {f : Nat} {cts : List CT} {xs ys : List D} {orc : List (Nat × Orc)} {t : Tree} (n : Nat) (h : evFun Try.prog md orc n f cts xs = t) (ht : t.wp Try.prog md (fun zs => zs = ys)) : Spec Try.prog md f cts xs ys :=
  fun_sound wfP mixP noopP (orc := orc) (n := n) (by rw [h]; exact ht)
end Go.Proofs.Ytcdjifdllibolaa

namespace Go.Proofs.Ytcdjifdllibolaa

/-- What is told of a function without captures. -/
abbrev Sp (f : Nat) (xs ys : List D) : Prop := Spec Try.prog md f [] xs ys
/-- What a tree comes to. -/
abbrev Tw (t : Tree) (ys : List D) : Prop := t.wp Try.prog md (fun zs => zs = ys)

theorem int_beq (x y : Int) : (x == y) = decide (x = y) := by by_cases h : x = y <;> simp [h]
theorem int_bne (x y : Int) : (x != y) = decide (¬ x = y) := by by_cases h : x = y <;> simp [h]
theorem not_dec (p : Prop) [Decidable p] : (!decide p) = decide (¬ p) := by by_cases h : p <;> simp [h]
theorem wrap_succ {k : Nat} (h : k < 9223372036854775807) : IntKind.wrap .i64 ((k : Int) + 1) = ((k + 1 : Nat) : Int) := by rw [wrap64 (by omega) (by omega)]; rfl
/-- A loop along a list. -/
theorem loop_list {α σ : Type} {P : Program} {md : Nat → FMode} (xs : List α) (L : Nat → Nat → σ → Tree) (f : List α → σ → List D) (I : List α → σ → Prop)
    (hnil : ∀ m k s, k = xs.length → I [] s → (L (m + 1) k s).wp P md (fun zs => zs = f [] s))
    (hcons : ∀ m k s x rest, xs.drop k = x :: rest → I (x :: rest) s → (∀ s', I rest s' → (L m (k + 1) s').wp P md (fun zs => zs = f rest s')) → (L (m + 1) k s).wp P md (fun zs => zs = f (x :: rest) s)) :
    ∀ m k s, xs.length - k < m → k ≤ xs.length → I (xs.drop k) s → (L m k s).wp P md (fun zs => zs = f (xs.drop k) s) := by
  intro m
  induction m with
  | zero => intro k s h; omega
  | succ m ih =>
    intro k s h1 h2 hI
    cases hd : xs.drop k with
    | nil => rw [hd] at hI; exact hnil m k s (by have := drop_nil hd; omega) hI
    | cons x rest =>
      rw [hd] at hI
      obtain ⟨a1, a2, a3⟩ := drop_cons hd
      refine hcons m k s x rest hd hI (fun s' hI' => ?_)
      have := ih (k + 1) s' (by omega) (by omega) (by rw [a3]; exact hI')
      rwa [a3] at this
/-- A loop that counts up. -/
theorem loop_up {σ : Type} {P : Program} {md : Nat → FMode} (N : Nat) (L : Nat → Nat → σ → Tree) (f : Nat → σ → List D) (I : Nat → σ → Prop)
    (hend : ∀ m s, I N s → (L (m + 1) N s).wp P md (fun zs => zs = f N s))
    (hstep : ∀ m k s, k < N → I k s → (∀ s', I (k + 1) s' → (L m (k + 1) s').wp P md (fun zs => zs = f (k + 1) s')) → (L (m + 1) k s).wp P md (fun zs => zs = f k s)) :
    ∀ m k s, N - k < m → k ≤ N → I k s → (L m k s).wp P md (fun zs => zs = f k s) := by
  intro m
  induction m with
  | zero => intro k s h; omega
  | succ m ih =>
    intro k s h1 h2 hI
    by_cases hk : k = N
    · subst hk; exact hend m s hI
    · exact hstep m k s (by omega) hI (fun s' hI' => ih (k + 1) s' (by omega) (by omega) hI')
/-- A loop that counts down to 0, from k-1 on. -/
theorem loop_down {σ : Type} {P : Program} {md : Nat → FMode} (L : Nat → Nat → σ → Tree) (f : Nat → σ → List D) (I : Nat → σ → Prop)
    (hend : ∀ m s, I 0 s → (L (m + 1) 0 s).wp P md (fun zs => zs = f 0 s))
    (hstep : ∀ m k s, I (k + 1) s → (∀ s', I k s' → (L m k s').wp P md (fun zs => zs = f k s')) → (L (m + 1) (k + 1) s).wp P md (fun zs => zs = f (k + 1) s)) :
    ∀ m k s, k < m → I k s → (L m k s).wp P md (fun zs => zs = f k s) := by
  intro m
  induction m with
  | zero => intro k s h; omega
  | succ m ih =>
    intro k s h1 hI
    cases k with
    | zero => exact hend m s hI
    | succ k => exact hstep m k s hI (fun s' hI' => ih k s' (by omega) hI')
end Go.Proofs.Ytcdjifdllibolaa

set_option maxRecDepth 100000
namespace Go.Proofs.Ytcdjifdllibolaa
open Go.ChangeShapes Go.WideShapes Go.ChangeAt Go.RowKit

section
variable {P : Program} {md : Nat → FMode}
theorem law_calls {F : Nat} {fn : Func} {xs : List D} {vs : List Value} {W : World} {tb : Nat} (hs : Spec P md F [] xs [.bool true]) (hfn : P.funcs[F]? = some fn) (hm : md F = {}) (hrt : fn.resultTypes = #[tb]) (htb : P.underlying tb = some .bool)
    (hlx : xs.length = fn.params.size) (hlv : vs.length = fn.params.size) (hrd : ∀ (i t : Nat) (x : D) (v : Value), fn.params.toList[i]? = some t → xs[i]? = some x → vs[i]? = some v → Rd P md W (fun _ => False) (.ty t) x v) :
    Calls P F vs.toArray W (fun e w' => e = .returned (.bool true) ∧ Ext W w') := by
  obtain ⟨fn', h1, _, _, h⟩ := hs
  rw [hfn] at h1
  injection h1 with h1
  subst h1
  refine (h W (fun _ => False) vs 0 1 (fun k hk => by rw [hm] at hk; cases hk) ⟨by simp [hlx], by simp [hlv], fun b hb => hb.elim, ?_, fun p hp => by rw [hm] at hp; cases hp⟩).mono ?_
  · intro i ct x v hc hx hv _
    simp only [List.append_nil, List.getElem?_map, Option.map_eq_some_iff] at hc
    obtain ⟨t, ht, rfl⟩ := hc
    have := hrd i t x v ht hx hv
    exact ⟨this.rd.mono (Nat.le_refl _) (fun _ _ _ => rfl) (fun b hb _ => by
      rcases hb with hb | ⟨p, u, hp, _⟩
      · exact hb
      · rw [hm] at hp; cases hp), this.size, this.agg⟩
  · rintro e w' ⟨us, β', hp⟩
    have hl := hp.len
    rw [hrt] at hl
    have : ∃ u, us = [u] := by
      match us, hl with
      | [u], _ => exact ⟨u, rfl⟩
    obtain ⟨u, rfl⟩ := this
    have hv := hp.vl [.b true] (by rw [hrt, hm]; simp [resL, setOwn, ofD, htb, D.toBool, List.getD]) 0 (.b true) u rfl rfl
    have hu := vl_b hv
    subst hu
    refine ⟨hp.ending, ?_⟩
    have := hp.stp
    refine Stp.ext (this.weak fun b ⟨p, v, h1, _⟩ => ?_)
    rw [hm] at h1; cases h1

theorem rd_int {t : Nat} {k : IntKind} {w : World} {M : Nat → Prop} {y : D} {c : Nat → Option Value} (h : RdC P md w M (.ty t) y c) (ht : P.underlying t = some (.int k)) : ∃ n, y = .int n ∧ k.min ≤ n ∧ n ≤ k.max := by
  cases h <;> simp_all [CT.desc]
  all_goals (rename_i hf _; obtain ⟨⟨a, ha, _⟩, _⟩ := fieldsOf_under hf; rw [ht] at ha; cases ha)
theorem rd_bool {t : Nat} {w : World} {M : Nat → Prop} {y : D} {c : Nat → Option Value} (h : RdC P md w M (.ty t) y c) (ht : P.underlying t = some .bool) : ∃ b, y = .bool b := by
  cases h <;> simp_all [CT.desc]
  all_goals (rename_i hf _; obtain ⟨⟨a, ha, _⟩, _⟩ := fieldsOf_under hf; rw [ht] at ha; cases ha)
theorem rd_str {t : Nat} {w : World} {M : Nat → Prop} {y : D} {c : Nat → Option Value} (h : RdC P md w M (.ty t) y c) (ht : P.underlying t = some .string) : ∃ s, y = .str s ∧ s.size ≤ maxLen := by
  cases h <;> simp_all [CT.desc]
  all_goals (rename_i hf _; obtain ⟨⟨a, ha, _⟩, _⟩ := fieldsOf_under hf; rw [ht] at ha; cases ha)
theorem rd_slc {t e : Nat} {w : World} {M : Nat → Prop} {y : D} {c : Nat → Option Value} (h : RdC P md w M (.ty t) y c) (ht : P.underlying t = some (.slice e)) : ∃ es, y = .sl es ∧ es.length ≤ maxLen ∧ ∀ x ∈ es, ∃ c', RdC P md w M (.ty e) x c' := by
  cases h with
  | sl ht' hc h1 h2 hA hh =>
    have : P.underlying t = some (.slice _) := ht'
    rw [ht] at this
    injection this with this
    injection this with this
    subst this
    refine ⟨_, rfl, Nat.le_trans h1 h2, fun x hx => ?_⟩
    obtain ⟨i, hi, rfl⟩ := List.getElem_of_mem hx
    exact ⟨_, hh i _ (List.getElem?_eq_getElem hi)⟩
  | struct hf _ _ => obtain ⟨⟨a, ha, _⟩, _⟩ := fieldsOf_under hf; rw [ht] at ha; cases ha
  | int ht' => have : P.underlying t = _ := ht'; rw [ht] at this; cases this
  | bool ht' => have : P.underlying t = _ := ht'; rw [ht] at this; cases this
  | str ht' => have : P.underlying t = _ := ht'; rw [ht] at this; cases this
  | fn ht' => have : P.underlying t = _ := ht'; rw [ht] at this; cases this
  | mp ht' => have : P.underlying t = _ := ht'; rw [ht] at this; cases this
  | ref ht' => have : P.underlying t = _ := ht'; rw [ht] at this; cases this
theorem rd_struct {t : Nat} {fs : List Field} {w : World} {M : Nat → Prop} {y : D} {c : Nat → Option Value} (h : RdC P md w M (.ty t) y c) (ht : fieldsOf P t = some fs) : ∃ ds, y = .agg ds ∧ ds.length = fs.length ∧ ∀ (i : Nat) (f : Field) (d : D), fs[i]? = some f → ds[i]? = some d → ∃ c', RdC P md w M (.ty f.type) d c' := by
  obtain ⟨⟨a, ha, _⟩, _⟩ := fieldsOf_under ht
  cases h with
  | struct hf hl hh =>
    rw [ht] at hf
    injection hf with hf
    subst hf
    exact ⟨_, rfl, hl, fun i f d h1 h2 => ⟨_, hh i f d h1 h2⟩⟩
  | sl ht' => have : P.underlying t = _ := ht'; rw [ha] at this; cases this
  | int ht' => have : P.underlying t = _ := ht'; rw [ha] at this; cases this
  | bool ht' => have : P.underlying t = _ := ht'; rw [ha] at this; cases this
  | str ht' => have : P.underlying t = _ := ht'; rw [ha] at this; cases this
  | fn ht' => have : P.underlying t = _ := ht'; rw [ha] at this; cases this
  | mp ht' => have : P.underlying t = _ := ht'; rw [ha] at this; cases this
  | ref ht' => have : P.underlying t = _ := ht'; rw [ha] at this; cases this
theorem rd_ints {t e : Nat} {w : World} {M : Nat → Prop} {y : D} {c : Nat → Option Value} (h : RdC P md w M (.ty t) y c) (ht : P.underlying t = some (.slice e)) (he : P.underlying e = some (.int .i64)) : ∃ l, y = dI l ∧ l.length ≤ maxLen ∧ ∀ x ∈ l, -9223372036854775808 ≤ x ∧ x ≤ 9223372036854775807 := by
  obtain ⟨es, rfl, hl, hh⟩ := rd_slc h ht
  have : ∃ l : List Int, es = l.map .int ∧ ∀ x ∈ l, -9223372036854775808 ≤ x ∧ x ≤ 9223372036854775807 := by
    clear hl h
    induction es with
    | nil => exact ⟨[], rfl, fun _ h => by cases h⟩
    | cons x es ih =>
      obtain ⟨l, rfl, hl⟩ := ih (fun y hy => hh y (by simp [hy]))
      obtain ⟨c', hc⟩ := hh x (by simp)
      obtain ⟨n, rfl, h1, h2⟩ := rd_int hc he
      exact ⟨n :: l, rfl, fun y hy => by rcases List.mem_cons.1 hy with rfl | hy; exact ⟨h1, h2⟩; exact hl y hy⟩
  obtain ⟨l, rfl, h2⟩ := this
  exact ⟨l, rfl, by simpa using hl, h2⟩
theorem rd_limbs {t e : Nat} {w : World} {M : Nat → Prop} {y : D} {c : Nat → Option Value} (h : RdC P md w M (.ty t) y c) (ht : P.underlying t = some (.slice e)) (he : P.underlying e = some (.int .u32)) : ∃ l : List Limb, y = dL l ∧ l.length ≤ maxLen := by
  obtain ⟨es, rfl, hl, hh⟩ := rd_slc h ht
  have : ∃ l : List Limb, es = l.map dB := by
    clear hl h
    induction es with
    | nil => exact ⟨[], rfl⟩
    | cons x es ih =>
      obtain ⟨l, rfl⟩ := ih (fun y hy => hh y (by simp [hy]))
      obtain ⟨c', hc⟩ := hh x (by simp)
      obtain ⟨n, rfl, h1, h2⟩ := rd_int hc he
      have h1 : 0 ≤ n := h1
      have h2 : n ≤ 4294967295 := h2
      refine ⟨BitVec.ofNat 32 n.toNat :: l, ?_⟩
      simp only [List.map_cons, dB, BitVec.toNat_ofNat]
      rw [Nat.mod_eq_of_lt (by omega), Int.toNat_of_nonneg h1]
  obtain ⟨l, rfl⟩ := this
  exact ⟨l, rfl, by simpa using hl⟩
end
end Go.Proofs.Ytcdjifdllibolaa

set_option maxRecDepth 100000
namespace Go.Proofs.Ytcdjifdllibolaa
/-! scrim/scrimref03.Of -/
def ref03_Of_orc : List (Nat × Orc) := []
theorem ref03_Of_tree (n : Nat) (nn0 : D) : evFun Try.prog md ref03_Of_orc n 42 [] [nn0] =
 .br (decide (0 ≤ nn0.toInt)) (.br (!(4294967296 == (0 : Int))) (.br (!(4294967296 == (0 : Int))) (.call 47 [] [D.agg [D.bool false, D.sl [D.int (IntKind.wrap .u32 (Int.tmod nn0.toInt 4294967296)), D.int (IntKind.wrap .u32 (IntKind.wrap .i64 (Int.tdiv nn0.toInt 4294967296)))]]] fun yy1 =>
 .ret [yy1.getD 0 D.nil]) .fail) .fail)
 (.br (!(4294967296 == (0 : Int))) (.br (!(4294967296 == (0 : Int))) (.call 48 [] [D.sl [D.int (IntKind.wrap .u32 (Int.tmod (IntKind.wrap .i64 ((-1) - nn0.toInt)) 4294967296)), D.int (IntKind.wrap .u32 (IntKind.wrap .i64 (Int.tdiv (IntKind.wrap .i64 ((-1) - nn0.toInt)) 4294967296)))], D.sl [D.int 1]] fun yy2 =>
 .call 47 [] [D.agg [D.bool true, yy2.getD 0 D.nil]] fun yy3 =>
 .ret [yy3.getD 0 D.nil]) .fail) .fail) := by kernel_rfl

/-! scrim/scrimref03.Norm -/
def ref03_Norm_orc : List (Nat × Orc) := []
theorem ref03_Norm_tree (n : Nat) (a0 : D) : evFun Try.prog md ref03_Norm_orc n 47 [] [a0] =
 .call 62 [] [a0.fld 1] fun yy1 =>
 .br ((((yy1.getD 0 D.nil).els).length : Int) == 0) (.ret [D.agg [D.bool false, D.sl []]])
 (.ret [D.agg [D.bool ((a0.fld 0).toBool), yy1.getD 0 D.nil]]) := by kernel_rfl

end Go.Proofs.Ytcdjifdllibolaa

set_option maxRecDepth 100000
namespace Go.Proofs.Ytcdjifdllibolaa
/-! scrim/scrimref02.Same -/
def ref02_Same_orc : List (Nat × Orc) := [(4, ⟨[(0, some 28), (1, some 28), (5, none)], [], []⟩)]
def ref02_Same_ps : List Nat := [28, 28]
def ref02_Same_rs : List ResultVar := [.tmp 4]
def ref02_Same_ts : List Nat := [4]
noncomputable def ref02_Same_l4 (n m4 : Nat) (a0 : D) (b1 : D) (i5 : Int) : Tree :=
  evLoop Try.prog md (ev Try.prog md n ref02_Same_orc (cAt (bodyOf Try.prog 46) [1, 1, 0, 1, 0, 0])) (orcAt ref02_Same_orc 4) m4 ⟨[.d 28 a0, .d 28 b1, .undef, .undef, .undef, .i .i64 i5, .undef, .undef, .undef, .undef, .undef, .undef, .undef, .undef, .undef, .undef, .undef, .undef, .undef, .undef, .undef, .undef, .undef, .undef, .undef, .undef], [], [], [], []⟩
   (blockK 0 (seqK (joinE Try.prog md (joinAt ref02_Same_orc (cAt (bodyOf Try.prog 46) [1, 1, 1])) (ev Try.prog md n ref02_Same_orc (cAt (bodyOf Try.prog 46) [1, 1, 1]))) (retK Try.prog md (md 46) ref02_Same_ps ref02_Same_rs ref02_Same_ts)))
theorem ref02_Same_l4_succ (n m4 : Nat) (a0 : D) (b1 : D) (i5 : Int) : ref02_Same_l4 n (m4 + 1) a0 b1 i5 =
 .br (decide (i5 < (a0.els.length : Int))) (.br (decide (0 ≤ i5)) (.br (decide (i5 < (a0.els.length : Int))) (.br (decide (0 ≤ i5)) (.br (decide (i5 < (b1.els.length : Int))) (.br (((a0.els.getD (Int.toNat i5) D.nil).toInt) != ((b1.els.getD (Int.toNat i5) D.nil).toInt)) (.ret [D.bool false])
 (ref02_Same_l4 n m4 a0 b1 (IntKind.wrap .i64 (i5 + 1)))) .fail) .fail) .fail) .fail)
 (.ret [D.bool true]) := by kernel_rfl
theorem ref02_Same_tree (n : Nat) (a0 : D) (b1 : D) : evFun Try.prog md ref02_Same_orc n 46 [] [a0, b1] =
 .br ((a0.els.length : Int) != (b1.els.length : Int)) (.ret [D.bool false])
 (ref02_Same_l4 n n a0 b1 0) := by kernel_rfl

/-! scrim/scrimref02.Add -/
def ref02_Add_orc : List (Nat × Orc) := [(4, ⟨[(0, some 28), (1, some 28), (5, none), (6, none), (7, none)], [], [(.slot 5, 1040, 51)]⟩)]
def ref02_Add_ps : List Nat := [28, 28]
def ref02_Add_rs : List ResultVar := [.tmp 4]
def ref02_Add_ts : List Nat := [28]
noncomputable def ref02_Add_l4 (n m4 : Nat) (a0 : D) (b1 : D) (out5 : List D) (carry6 : Int) (i7 : Int) : Tree :=
  evLoop Try.prog md (ev Try.prog md n ref02_Add_orc (cAt (bodyOf Try.prog 48) [1, 1, 1, 0, 1, 0, 0])) (orcAt ref02_Add_orc 4) m4 ⟨[.d 28 a0, .d 28 b1, .undef, .undef, .undef, .row 1040, .i .u64 carry6, .i .i64 i7, .undef, .undef, .undef, .undef, .undef, .undef, .undef, .undef, .undef, .undef, .undef, .undef, .undef, .undef, .undef, .undef, .undef, .undef, .undef, .undef, .undef, .undef, .undef, .undef, .undef, .undef, .undef], [(1040, .row 51 out5 true)], [1040], [], []⟩
   (blockK 0 (seqK (joinE Try.prog md (joinAt ref02_Add_orc (cAt (bodyOf Try.prog 48) [1, 1, 1, 1])) (ev Try.prog md n ref02_Add_orc (cAt (bodyOf Try.prog 48) [1, 1, 1, 1]))) (retK Try.prog md (md 48) ref02_Add_ps ref02_Add_rs ref02_Add_ts)))
theorem ref02_Add_l4_succ (n m4 : Nat) (a0 : D) (b1 : D) (out5 : List D) (carry6 : Int) (i7 : Int) : ref02_Add_l4 n (m4 + 1) a0 b1 out5 carry6 i7 =
 .call 63 [] [a0, b1] fun yy1 =>
 .br (decide (i7 ≤ ((yy1.getD 0 D.nil).toInt))) (.call 64 [] [a0, D.int i7] fun yy2 =>
 .call 64 [] [b1, D.int i7] fun yy3 =>
 .br (!(4294967296 == (0 : Int))) (.br (decide (out5.length + [D.int (IntKind.wrap .u32 (Int.tmod (IntKind.wrap .u64 ((IntKind.wrap .u64 (((yy2.getD 0 D.nil).toInt) + ((yy3.getD 0 D.nil).toInt))) + carry6)) 4294967296))].length ≤ bigN)) (.br (!(4294967296 == (0 : Int))) (ref02_Add_l4 n m4 a0 b1 (out5 ++ [D.int (IntKind.wrap .u32 (Int.tmod (IntKind.wrap .u64 ((IntKind.wrap .u64 (((yy2.getD 0 D.nil).toInt) + ((yy3.getD 0 D.nil).toInt))) + carry6)) 4294967296))]) (IntKind.wrap .u64 (Int.tdiv (IntKind.wrap .u64 ((IntKind.wrap .u64 (((yy2.getD 0 D.nil).toInt) + ((yy3.getD 0 D.nil).toInt))) + carry6)) 4294967296)) (IntKind.wrap .i64 (i7 + 1))) .fail) .fail) .fail)
 (.call 62 [] [D.sl out5] fun yy4 =>
 .ret [yy4.getD 0 D.nil]) := by kernel_rfl
theorem ref02_Add_tree (n : Nat) (a0 : D) (b1 : D) : evFun Try.prog md ref02_Add_orc n 48 [] [a0, b1] =
 ref02_Add_l4 n n a0 b1 [] 0 0 := by kernel_rfl

/-! scrim/scrimref02.Norm -/
def ref02_Norm_orc : List (Nat × Orc) := [(2, ⟨[(0, some 28), (3, none)], [], []⟩)]
def ref02_Norm_ps : List Nat := [28]
def ref02_Norm_rs : List ResultVar := [.tmp 2]
def ref02_Norm_ts : List Nat := [28]
noncomputable def ref02_Norm_l2 (n m2 : Nat) (a0 : D) (nn3 : Int) : Tree :=
  evLoop Try.prog md (ev Try.prog md n ref02_Norm_orc (cAt (bodyOf Try.prog 62) [1, 1, 0, 0, 0])) (orcAt ref02_Norm_orc 2) m2 ⟨[.d 28 a0, .undef, .undef, .i .i64 nn3, .undef, .undef, .undef, .undef, .undef, .undef, .undef, .undef, .undef, .undef, .undef, .undef, .undef, .undef, .undef, .undef, .undef, .undef, .undef, .undef], [], [], [], []⟩
   (blockK 0 (seqK (joinE Try.prog md (joinAt ref02_Norm_orc (cAt (bodyOf Try.prog 62) [1, 1, 1])) (ev Try.prog md n ref02_Norm_orc (cAt (bodyOf Try.prog 62) [1, 1, 1]))) (retK Try.prog md (md 62) ref02_Norm_ps ref02_Norm_rs ref02_Norm_ts)))
theorem ref02_Norm_l2_succ (n m2 : Nat) (a0 : D) (nn3 : Int) : ref02_Norm_l2 n (m2 + 1) a0 nn3 =
 .br (decide (0 < nn3)) (.br (decide (0 ≤ IntKind.wrap .i64 (nn3 - 1))) (.br (decide (IntKind.wrap .i64 (nn3 - 1) < (a0.els.length : Int))) (.br (((a0.els.getD (Int.toNat (IntKind.wrap .i64 (nn3 - 1))) D.nil).toInt) == 0) (ref02_Norm_l2 n m2 a0 (IntKind.wrap .i64 (nn3 - 1)))
 (.br (decide (0 ≤ nn3)) (.br (decide (nn3 ≤ (a0.els.length : Int))) (.br (decide ((a0.els.take (Int.toNat nn3)).length ≤ bigN)) (.ret [D.sl (a0.els.take (Int.toNat nn3))]) .fail) .fail) .fail)) .fail) .fail)
 (.br (decide (0 ≤ nn3)) (.br (decide (nn3 ≤ (a0.els.length : Int))) (.br (decide ((a0.els.take (Int.toNat nn3)).length ≤ bigN)) (.ret [D.sl (a0.els.take (Int.toNat nn3))]) .fail) .fail) .fail) := by kernel_rfl
theorem ref02_Norm_tree (n : Nat) (a0 : D) : evFun Try.prog md ref02_Norm_orc n 62 [] [a0] =
 ref02_Norm_l2 n n a0 (a0.els.length : Int) := by kernel_rfl

/-! scrim/scrimref02.longer -/
def ref02_longer_orc : List (Nat × Orc) := []
theorem ref02_longer_tree (n : Nat) (a0 : D) (b1 : D) : evFun Try.prog md ref02_longer_orc n 63 [] [a0, b1] =
 .br (decide ((b1.els.length : Int) < (a0.els.length : Int))) (.ret [D.int (a0.els.length : Int)])
 (.ret [D.int (b1.els.length : Int)]) := by kernel_rfl

/-! scrim/scrimref02.limb -/
def ref02_limb_orc : List (Nat × Orc) := []
theorem ref02_limb_tree (n : Nat) (a0 : D) (i1 : D) : evFun Try.prog md ref02_limb_orc n 64 [] [a0, i1] =
 .br (decide (i1.toInt < (a0.els.length : Int))) (.br (decide (0 ≤ i1.toInt)) (.br (decide (i1.toInt < (a0.els.length : Int))) (.ret [D.int (IntKind.wrap .u64 ((a0.els.getD (Int.toNat i1.toInt) D.nil).toInt))]) .fail) .fail)
 (.ret [D.int 0]) := by kernel_rfl

/-! scrim/nat.Gcd -/
def nat_Gcd_orc : List (Nat × Orc) := [(2, ⟨[(0, some 28), (1, some 28)], [], []⟩)]
def nat_Gcd_ps : List Nat := [28, 28]
def nat_Gcd_rs : List ResultVar := [.tmp 4]
def nat_Gcd_ts : List Nat := [28]
noncomputable def nat_Gcd_l2 (n m2 : Nat) (a0 : D) (b1 : D) : Tree :=
  evLoop Try.prog md (ev Try.prog md n nat_Gcd_orc (cAt (bodyOf Try.prog 67) [1, 1, 0, 0, 0])) (orcAt nat_Gcd_orc 2) m2 ⟨[.d 28 a0, .d 28 b1, .undef, .undef, .undef, .undef, .undef, .undef, .undef, .undef, .undef, .undef, .undef, .undef, .undef, .undef, .undef, .undef, .undef, .undef, .undef, .undef, .undef, .undef, .undef, .undef, .undef, .undef, .undef, .undef, .undef, .undef, .undef, .undef, .undef, .undef, .undef, .undef, .undef], [], [], [], []⟩
   (blockK 0 (seqK (joinE Try.prog md (joinAt nat_Gcd_orc (cAt (bodyOf Try.prog 67) [1, 1, 1])) (ev Try.prog md n nat_Gcd_orc (cAt (bodyOf Try.prog 67) [1, 1, 1]))) (retK Try.prog md (md 67) nat_Gcd_ps nat_Gcd_rs nat_Gcd_ts)))
theorem nat_Gcd_l2_succ (n m2 : Nat) (a0 : D) (b1 : D) : nat_Gcd_l2 n (m2 + 1) a0 b1 =
 .br (decide (0 < (b1.els.length : Int))) (.br (decide ((a0.els.length : Int) ≤ 2)) (.br (decide ((b1.els.length : Int) ≤ 2)) (.call 73 [] [a0] fun yy3 =>
 .call 73 [] [b1] fun yy4 =>
 .call 72 [] [D.int ((yy3.getD 0 D.nil).toInt), D.int ((yy4.getD 0 D.nil).toInt)] fun yy5 =>
 .ret [yy5.getD 0 D.nil])
 (.call 74 [] [a0, b1] fun yy6 =>
 nat_Gcd_l2 n m2 b1 (yy6.getD 1 D.nil)))
 (.call 74 [] [a0, b1] fun yy7 =>
 nat_Gcd_l2 n m2 b1 (yy7.getD 1 D.nil)))
 (.call 75 [] [a0] fun yy8 =>
 .ret [D.sl ((yy8.getD 0 D.nil).els)]) := by kernel_rfl
theorem nat_Gcd_tree (n : Nat) (a0 : D) (b1 : D) : evFun Try.prog md nat_Gcd_orc n 67 [] [a0, b1] =
 .call 71 [] [a0] fun yy1 =>
 .call 71 [] [b1] fun yy2 =>
 nat_Gcd_l2 n n (yy1.getD 0 D.nil) (yy2.getD 0 D.nil) := by kernel_rfl

/-! scrim/nat.trim -/
def nat_trim_orc : List (Nat × Orc) := [(2, ⟨[(0, some 28), (3, none)], [], []⟩)]
def nat_trim_ps : List Nat := [28]
def nat_trim_rs : List ResultVar := [.tmp 2]
def nat_trim_ts : List Nat := [28]
noncomputable def nat_trim_l2 (n m2 : Nat) (a0 : D) (nn3 : Int) : Tree :=
  evLoop Try.prog md (ev Try.prog md n nat_trim_orc (cAt (bodyOf Try.prog 71) [1, 1, 0, 0, 0])) (orcAt nat_trim_orc 2) m2 ⟨[.d 28 a0, .undef, .undef, .i .i64 nn3, .undef, .undef, .undef, .undef, .undef, .undef, .undef, .undef, .undef, .undef, .undef, .undef, .undef, .undef, .undef, .undef, .undef, .undef], [], [], [], []⟩
   (blockK 0 (seqK (joinE Try.prog md (joinAt nat_trim_orc (cAt (bodyOf Try.prog 71) [1, 1, 1])) (ev Try.prog md n nat_trim_orc (cAt (bodyOf Try.prog 71) [1, 1, 1]))) (retK Try.prog md (md 71) nat_trim_ps nat_trim_rs nat_trim_ts)))
theorem nat_trim_l2_succ (n m2 : Nat) (a0 : D) (nn3 : Int) : nat_trim_l2 n (m2 + 1) a0 nn3 =
 .br (decide (0 < nn3)) (.br (decide (0 ≤ IntKind.wrap .i64 (nn3 - 1))) (.br (decide (IntKind.wrap .i64 (nn3 - 1) < (a0.els.length : Int))) (.br (((a0.els.getD (Int.toNat (IntKind.wrap .i64 (nn3 - 1))) D.nil).toInt) == 0) (nat_trim_l2 n m2 a0 (IntKind.wrap .i64 (nn3 - 1)))
 (.br (decide (0 ≤ nn3)) (.br (decide (nn3 ≤ nn3)) (.br (decide (nn3 ≤ (a0.els.length : Int))) (.ret [D.sl (a0.els.take (Int.toNat nn3))]) .fail) .fail) .fail)) .fail) .fail)
 (.br (decide (0 ≤ nn3)) (.br (decide (nn3 ≤ nn3)) (.br (decide (nn3 ≤ (a0.els.length : Int))) (.ret [D.sl (a0.els.take (Int.toNat nn3))]) .fail) .fail) .fail) := by kernel_rfl
theorem nat_trim_tree (n : Nat) (a0 : D) : evFun Try.prog md nat_trim_orc n 71 [] [a0] =
 nat_trim_l2 n n a0 (a0.els.length : Int) := by kernel_rfl

/-! scrim/nat.small -/
def nat_small_orc : List (Nat × Orc) := [(1, ⟨[(0, none), (1, none)], [], []⟩)]
def nat_small_ps : List Nat := [60, 60]
def nat_small_rs : List ResultVar := [.tmp 4]
def nat_small_ts : List Nat := [28]
noncomputable def nat_small_l1 (n m1 : Nat) (a0 : Int) (b1 : Int) : Tree :=
  evLoop Try.prog md (ev Try.prog md n nat_small_orc (cAt (bodyOf Try.prog 72) [1, 0, 0, 0])) (orcAt nat_small_orc 1) m1 ⟨[.i .u64 a0, .i .u64 b1, .undef, .undef, .undef, .undef, .undef, .undef, .undef, .undef, .undef, .undef, .undef, .undef, .undef, .undef, .undef, .undef], [], [], [], []⟩
   (blockK 0 (seqK (joinE Try.prog md (joinAt nat_small_orc (cAt (bodyOf Try.prog 72) [1, 1])) (ev Try.prog md n nat_small_orc (cAt (bodyOf Try.prog 72) [1, 1]))) (retK Try.prog md (md 72) nat_small_ps nat_small_rs nat_small_ts)))
theorem nat_small_l1_succ (n m1 : Nat) (a0 : Int) (b1 : Int) : nat_small_l1 n (m1 + 1) a0 b1 =
 .br (b1 != 0) (.br (!(b1 == (0 : Int))) (nat_small_l1 n m1 b1 (Int.tmod a0 b1)) .fail)
 (.br (decide (0 ≤ 32)) (.call 75 [] [D.sl [D.int (IntKind.wrap .u32 a0), D.int (IntKind.wrap .u32 (Int.fdiv a0 (2 ^ (min (Int.toNat 32) (IntKind.bits .u64)))))]] fun yy1 =>
 .ret [D.sl ((yy1.getD 0 D.nil).els)]) .fail) := by kernel_rfl
theorem nat_small_tree (n : Nat) (a0 : D) (b1 : D) : evFun Try.prog md nat_small_orc n 72 [] [a0, b1] =
 nat_small_l1 n n a0.toInt b1.toInt := by kernel_rfl

/-! scrim/nat.word -/
def nat_word_orc : List (Nat × Orc) := [(3, ⟨[(3, none), (6, some 28), (7, none), (8, none)], [], []⟩)]
def nat_word_ps : List Nat := [28]
def nat_word_rs : List ResultVar := [.tmp 2]
def nat_word_ts : List Nat := [60]
noncomputable def nat_word_l3 (n m3 : Nat) (out3 : Int) (t6 : D) (t7 : Int) (t8 : Int) : Tree :=
  evLoop Try.prog md (ev Try.prog md n nat_word_orc (cAt (bodyOf Try.prog 73) [1, 1, 0, 1, 0, 0])) (orcAt nat_word_orc 3) m3 ⟨[.undef, .undef, .undef, .i .u64 out3, .undef, .undef, .d 28 t6, .i .i64 t7, .i .i64 t8, .undef, .undef, .undef, .undef, .undef, .undef, .undef, .undef, .undef, .undef, .undef, .undef, .undef, .undef], [], [], [], []⟩
   (blockK 0 (seqK (joinE Try.prog md (joinAt nat_word_orc (cAt (bodyOf Try.prog 73) [1, 1, 1])) (ev Try.prog md n nat_word_orc (cAt (bodyOf Try.prog 73) [1, 1, 1]))) (retK Try.prog md (md 73) nat_word_ps nat_word_rs nat_word_ts)))
theorem nat_word_l3_succ (n m3 : Nat) (out3 : Int) (t6 : D) (t7 : Int) (t8 : Int) : nat_word_l3 n (m3 + 1) out3 t6 t7 t8 =
 .br (decide (t8 < t7)) (.br (decide (0 ≤ t8)) (.br (decide (t8 < (t6.els.length : Int))) (.br (decide (0 ≤ IntKind.wrap .u64 (IntKind.wrap .i64 (32 * t8)))) (nat_word_l3 n m3 (bits_ .or .u64 out3 (IntKind.wrap .u64 ((IntKind.wrap .u64 ((t6.els.getD (Int.toNat t8) D.nil).toInt)) * 2 ^ (min (Int.toNat (IntKind.wrap .u64 (IntKind.wrap .i64 (32 * t8)))) (IntKind.bits .u64))))) t6 t7 (IntKind.wrap .i64 (t8 + 1))) .fail) .fail) .fail)
 (.ret [D.int out3]) := by kernel_rfl
theorem nat_word_tree (n : Nat) (a0 : D) : evFun Try.prog md nat_word_orc n 73 [] [a0] =
 nat_word_l3 n n 0 a0 (a0.els.length : Int) 0 := by kernel_rfl

/-! scrim/nat.DivMod -/
def nat_DivMod_orc : List (Nat × Orc) := []
theorem nat_DivMod_tree (n : Nat) (a0 : D) (b1 : D) : evFun Try.prog md nat_DivMod_orc n 74 [] [a0, b1] =
 .call 71 [] [a0] fun yy1 =>
 .call 71 [] [b1] fun yy2 =>
 .br ((((yy2.getD 0 D.nil).els).length : Int) == 0) (.ret [D.sl [], D.sl [], D.bool false])
 (.call 77 [] [yy1.getD 0 D.nil, yy2.getD 0 D.nil] fun yy3 =>
 .br (decide (((yy3.getD 0 D.nil).toInt) < 0)) (.call 75 [] [yy1.getD 0 D.nil] fun yy4 =>
 .ret [D.sl [], D.sl ((yy4.getD 0 D.nil).els), D.bool true])
 (.br ((((yy2.getD 0 D.nil).els).length : Int) == 1) (.call 75 [] [yy1.getD 0 D.nil] fun yy5 =>
 .br (decide (0 ≤ 0)) (.br (decide (0 < (((yy2.getD 0 D.nil).els).length : Int))) (.call 78 [] [D.sl ((yy5.getD 0 D.nil).els), D.int ((((yy2.getD 0 D.nil).els).getD (Int.toNat 0) D.nil).toInt)] fun yy6 =>
 .call 71 [] [D.sl ((yy6.getD 1 D.nil).els)] fun yy7 =>
 .call 75 [] [D.sl [D.int ((yy6.getD 0 D.nil).toInt)]] fun yy8 =>
 .ret [yy7.getD 0 D.nil, D.sl ((yy8.getD 0 D.nil).els), D.bool true]) .fail) .fail)
 (.call 79 [] [yy1.getD 0 D.nil, yy2.getD 0 D.nil] fun yy9 =>
 .ret [yy9.getD 0 D.nil, yy9.getD 1 D.nil, D.bool true]))) := by kernel_rfl

/-! scrim/nat.Norm -/
def nat_Norm_orc : List (Nat × Orc) := []
theorem nat_Norm_tree (n : Nat) (a0 : D) : evFun Try.prog md nat_Norm_orc n 75 [] [a0] =
 .call 71 [] [a0] fun yy1 =>
 .br (decide (0 ≤ (((yy1.getD 0 D.nil).els).length : Int))) (.br (decide ((((yy1.getD 0 D.nil).els).length : Int) ≤ (((yy1.getD 0 D.nil).els).length : Int))) (.br (decide ((((yy1.getD 0 D.nil).els).length : Int) ≤ bigN)) (.ret [D.sl (((yy1.getD 0 D.nil).els).take (List.replicate (Int.toNat (((yy1.getD 0 D.nil).els).length : Int)) (D.int 0)).length ++ (List.replicate (Int.toNat (((yy1.getD 0 D.nil).els).length : Int)) (D.int 0)).drop ((yy1.getD 0 D.nil).els).length)]) .fail) .fail) .fail := by kernel_rfl

/-! scrim/nat.Cmp -/
def nat_Cmp_orc : List (Nat × Orc) := [(7, ⟨[(0, some 28), (1, some 28), (5, none)], [], []⟩)]
def nat_Cmp_ps : List Nat := [28, 28]
def nat_Cmp_rs : List ResultVar := [.tmp 4]
def nat_Cmp_ts : List Nat := [3]
noncomputable def nat_Cmp_l7 (n m7 : Nat) (a0 : D) (b1 : D) (i5 : Int) : Tree :=
  evLoop Try.prog md (ev Try.prog md n nat_Cmp_orc (cAt (bodyOf Try.prog 77) [1, 1, 1, 0, 1, 0, 0])) (orcAt nat_Cmp_orc 7) m7 ⟨[.d 28 a0, .d 28 b1, .undef, .undef, .undef, .i .i64 i5, .undef, .undef, .undef, .undef, .undef, .undef, .undef, .undef, .undef, .undef, .undef, .undef, .undef, .undef, .undef, .undef, .undef, .undef, .undef, .undef, .undef, .undef, .undef, .undef, .undef, .undef, .undef, .undef, .undef, .undef, .undef, .undef, .undef, .undef, .undef, .undef, .undef, .undef, .undef, .undef, .undef, .undef, .undef], [], [], [], []⟩
   (blockK 1 (seqK (joinE Try.prog md (joinAt nat_Cmp_orc (cAt (bodyOf Try.prog 77) [1, 1, 1, 1])) (ev Try.prog md n nat_Cmp_orc (cAt (bodyOf Try.prog 77) [1, 1, 1, 1]))) (retK Try.prog md (md 77) nat_Cmp_ps nat_Cmp_rs nat_Cmp_ts)))
theorem nat_Cmp_l7_succ (n m7 : Nat) (a0 : D) (b1 : D) (i5 : Int) : nat_Cmp_l7 n (m7 + 1) a0 b1 i5 =
 .br (decide (0 ≤ i5)) (.br (decide (0 ≤ i5)) (.br (decide (i5 < (a0.els.length : Int))) (.br (decide (0 ≤ i5)) (.br (decide (i5 < (b1.els.length : Int))) (.br (decide (((a0.els.getD (Int.toNat i5) D.nil).toInt) < ((b1.els.getD (Int.toNat i5) D.nil).toInt))) (.ret [D.int (-1)])
 (.br (decide (0 ≤ i5)) (.br (decide (i5 < (a0.els.length : Int))) (.br (decide (0 ≤ i5)) (.br (decide (i5 < (b1.els.length : Int))) (.br (decide (((b1.els.getD (Int.toNat i5) D.nil).toInt) < ((a0.els.getD (Int.toNat i5) D.nil).toInt))) (.ret [D.int 1])
 (nat_Cmp_l7 n m7 a0 b1 (IntKind.wrap .i64 (i5 - 1)))) .fail) .fail) .fail) .fail)) .fail) .fail) .fail) .fail)
 (.ret [D.int 0]) := by kernel_rfl
theorem nat_Cmp_tree (n : Nat) (a0 : D) (b1 : D) : evFun Try.prog md nat_Cmp_orc n 77 [] [a0, b1] =
 .call 71 [] [a0] fun yy1 =>
 .call 71 [] [b1] fun yy2 =>
 .br (decide ((((yy1.getD 0 D.nil).els).length : Int) < (((yy2.getD 0 D.nil).els).length : Int))) (.ret [D.int (-1)])
 (.br (decide ((((yy2.getD 0 D.nil).els).length : Int) < (((yy1.getD 0 D.nil).els).length : Int))) (.ret [D.int 1])
 (nat_Cmp_l7 n n (yy1.getD 0 D.nil) (yy2.getD 0 D.nil) (IntKind.wrap .i64 ((((yy1.getD 0 D.nil).els).length : Int) - 1)))) := by kernel_rfl

/-! scrim/nat.shorten -/
def nat_shorten_orc : List (Nat × Orc) := [(3, ⟨[(0, none), (1, none), (5, none), (6, none)], [], [(.slot 0, 0, 51)]⟩)]
def nat_shorten_ps : List Nat := [28, 51]
def nat_shorten_rs : List ResultVar := [.tmp 4]
def nat_shorten_ts : List Nat := [51]
noncomputable def nat_shorten_l3 (n m3 : Nat) (a0 : List D) (by1 : Int) (rest5 : Int) (i6 : Int) : Tree :=
  evLoop Try.prog md (ev Try.prog md n nat_shorten_orc (cAt (bodyOf Try.prog 78) [1, 1, 0, 1, 0, 0])) (orcAt nat_shorten_orc 3) m3 ⟨[.row 0, .i .u32 by1, .undef, .undef, .undef, .i .u64 rest5, .i .i64 i6, .undef, .undef, .undef, .undef, .undef, .undef, .undef, .undef, .undef, .undef, .undef, .undef, .undef, .undef, .undef, .undef, .undef, .undef, .undef, .undef, .undef, .undef, .undef, .undef, .undef, .undef, .undef, .undef, .undef], [(0, .row 51 a0 true)], [0], [], [0]⟩
   (blockK 0 (seqK (joinE Try.prog md (joinAt nat_shorten_orc (cAt (bodyOf Try.prog 78) [1, 1, 1])) (ev Try.prog md n nat_shorten_orc (cAt (bodyOf Try.prog 78) [1, 1, 1]))) (retK Try.prog md (md 78) nat_shorten_ps nat_shorten_rs nat_shorten_ts)))
theorem nat_shorten_l3_succ (n m3 : Nat) (a0 : List D) (by1 : Int) (rest5 : Int) (i6 : Int) : nat_shorten_l3 n (m3 + 1) a0 by1 rest5 i6 =
 .br (decide (0 ≤ i6)) (.br (decide (0 ≤ 32)) (.br (decide (0 ≤ i6)) (.br (decide (i6 < (a0.length : Int))) (.br (!((IntKind.wrap .u64 by1) == (0 : Int))) (.br (decide (0 ≤ i6)) (.br (decide (i6 < (a0.length : Int))) (.br (!((IntKind.wrap .u64 by1) == (0 : Int))) (nat_shorten_l3 n m3 (a0.set (Int.toNat i6) (D.int (IntKind.wrap .u32 (IntKind.wrap .u64 (Int.tdiv (bits_ .or .u64 (IntKind.wrap .u64 (rest5 * 2 ^ (min (Int.toNat 32) (IntKind.bits .u64)))) (IntKind.wrap .u64 ((a0.getD (Int.toNat i6) D.nil).toInt))) (IntKind.wrap .u64 by1)))))) by1 (Int.tmod (bits_ .or .u64 (IntKind.wrap .u64 (rest5 * 2 ^ (min (Int.toNat 32) (IntKind.bits .u64)))) (IntKind.wrap .u64 ((a0.getD (Int.toNat i6) D.nil).toInt))) (IntKind.wrap .u64 by1)) (IntKind.wrap .i64 (i6 - 1))) .fail) .fail) .fail) .fail) .fail) .fail) .fail)
 (.ret [D.int (IntKind.wrap .u32 rest5), D.sl a0]) := by kernel_rfl
theorem nat_shorten_tree (n : Nat) (a0 : D) (by1 : D) : evFun Try.prog md nat_shorten_orc n 78 [] [a0, by1] =
 nat_shorten_l3 n n a0.els by1.toInt 0 (IntKind.wrap .i64 ((a0.els.length : Int) - 1)) := by kernel_rfl

/-! math/bits.LeadingZeros32 -/
def bits_LeadingZeros32_orc : List (Nat × Orc) := []
theorem bits_LeadingZeros32_tree (n : Nat) (x0 : D) : evFun Try.prog md bits_LeadingZeros32_orc n 80 [] [x0] =
 .call 86 [] [D.int x0.toInt] fun yy1 =>
 .ret [D.int (IntKind.wrap .i64 (32 - ((yy1.getD 0 D.nil).toInt)))] := by kernel_rfl

/-! scrim/nat.up -/
def nat_up_orc : List (Nat × Orc) := [(4, ⟨[(0, some 28), (1, none), (5, none), (6, none), (14, some 28), (15, none), (16, none)], [], [(.slot 5, 1040, 51)]⟩)]
def nat_up_ps : List Nat := [28, 3]
def nat_up_rs : List ResultVar := [.tmp 4]
def nat_up_ts : List Nat := [28]
noncomputable def nat_up_l4 (n m4 : Nat) (a0 : D) (shift1 : Int) (out5 : List D) (carry6 : Int) (t14 : D) (t15 : Int) (t16 : Int) : Tree :=
  evLoop Try.prog md (ev Try.prog md n nat_up_orc (cAt (bodyOf Try.prog 81) [1, 1, 1, 0, 1, 0, 0])) (orcAt nat_up_orc 4) m4 ⟨[.d 28 a0, .i .i64 shift1, .undef, .undef, .undef, .row 1040, .i .u64 carry6, .undef, .undef, .undef, .undef, .undef, .undef, .undef, .d 28 t14, .i .i64 t15, .i .i64 t16, .undef, .undef, .undef, .undef, .undef, .undef, .undef, .undef, .undef, .undef, .undef, .undef, .undef, .undef, .undef, .undef, .undef, .undef, .undef, .undef, .undef, .undef, .undef, .undef, .undef, .undef], [(1040, .row 51 out5 true)], [1040], [], []⟩
   (blockK 0 (seqK (joinE Try.prog md (joinAt nat_up_orc (cAt (bodyOf Try.prog 81) [1, 1, 1, 1])) (ev Try.prog md n nat_up_orc (cAt (bodyOf Try.prog 81) [1, 1, 1, 1]))) (retK Try.prog md (md 81) nat_up_ps nat_up_rs nat_up_ts)))
theorem nat_up_l4_succ (n m4 : Nat) (a0 : D) (shift1 : Int) (out5 : List D) (carry6 : Int) (t14 : D) (t15 : Int) (t16 : Int) : nat_up_l4 n (m4 + 1) a0 shift1 out5 carry6 t14 t15 t16 =
 .br (decide (t16 < t15)) (.br (decide (0 ≤ t16)) (.br (decide (t16 < (t14.els.length : Int))) (.br (decide (0 ≤ IntKind.wrap .u64 shift1)) (.br (decide (0 ≤ t16)) (.br (decide (t16 < (out5.length : Int))) (.br (decide (0 ≤ 32)) (nat_up_l4 n m4 a0 shift1 (out5.set (Int.toNat t16) (D.int (IntKind.wrap .u32 (bits_ .or .u64 (IntKind.wrap .u64 ((IntKind.wrap .u64 ((t14.els.getD (Int.toNat t16) D.nil).toInt)) * 2 ^ (min (Int.toNat (IntKind.wrap .u64 shift1)) (IntKind.bits .u64)))) carry6)))) (Int.fdiv (bits_ .or .u64 (IntKind.wrap .u64 ((IntKind.wrap .u64 ((t14.els.getD (Int.toNat t16) D.nil).toInt)) * 2 ^ (min (Int.toNat (IntKind.wrap .u64 shift1)) (IntKind.bits .u64)))) carry6) (2 ^ (min (Int.toNat 32) (IntKind.bits .u64)))) t14 t15 (IntKind.wrap .i64 (t16 + 1))) .fail) .fail) .fail) .fail) .fail) .fail)
 (.br (decide (0 ≤ (a0.els.length : Int))) (.br (decide ((a0.els.length : Int) < (out5.length : Int))) (.ret [D.sl (out5.set (Int.toNat (a0.els.length : Int)) (D.int (IntKind.wrap .u32 carry6)))]) .fail) .fail) := by kernel_rfl
theorem nat_up_tree (n : Nat) (a0 : D) (shift1 : D) : evFun Try.prog md nat_up_orc n 81 [] [a0, shift1] =
 .br (decide (0 ≤ IntKind.wrap .i64 ((a0.els.length : Int) + 1))) (.br (decide (IntKind.wrap .i64 ((a0.els.length : Int) + 1) ≤ IntKind.wrap .i64 ((a0.els.length : Int) + 1))) (.br (decide (IntKind.wrap .i64 ((a0.els.length : Int) + 1) ≤ bigN)) (nat_up_l4 n n a0 shift1.toInt (List.replicate (Int.toNat (IntKind.wrap .i64 ((a0.els.length : Int) + 1))) (D.int 0)) 0 a0 (a0.els.length : Int) 0) .fail) .fail) .fail := by kernel_rfl

/-! scrim/nat.estimate -/
def nat_estimate_orc : List (Nat × Orc) := [(4, ⟨[(0, some 28), (1, some 28), (5, none), (7, none), (8, none)], [], []⟩)]
def nat_estimate_ps : List Nat := [28, 28]
def nat_estimate_rs : List ResultVar := [.tmp 4]
def nat_estimate_ts : List Nat := [60]
noncomputable def nat_estimate_l4 (n m4 : Nat) (a0 : D) (divisor1 : D) (nn5 : Int) (guess7 : Int) (rest8 : Int) : Tree :=
  evLoop Try.prog md (ev Try.prog md n nat_estimate_orc (cAt (bodyOf Try.prog 82) [1, 1, 1, 1, 0, 0, 0])) (orcAt nat_estimate_orc 4) m4 ⟨[.d 28 a0, .d 28 divisor1, .undef, .undef, .undef, .i .i64 nn5, .undef, .i .u64 guess7, .i .u64 rest8, .undef, .undef, .undef, .undef, .undef, .undef, .undef, .undef, .undef, .undef, .undef, .undef, .undef, .undef, .undef, .undef, .undef, .undef, .undef, .undef, .undef, .undef, .undef, .undef, .undef, .undef, .undef, .undef, .undef, .undef, .undef, .undef, .undef, .undef, .undef, .undef, .undef, .undef, .undef, .undef, .undef, .undef, .undef, .undef, .undef, .undef, .undef, .undef, .undef, .undef, .undef, .undef, .undef, .undef, .undef, .undef, .undef, .undef, .undef, .undef, .undef, .undef, .undef, .undef, .undef, .undef, .undef, .undef], [], [], [], []⟩
   (blockK 0 (seqK (joinE Try.prog md (joinAt nat_estimate_orc (cAt (bodyOf Try.prog 82) [1, 1, 1, 1, 1])) (ev Try.prog md n nat_estimate_orc (cAt (bodyOf Try.prog 82) [1, 1, 1, 1, 1]))) (retK Try.prog md (md 82) nat_estimate_ps nat_estimate_rs nat_estimate_ts)))
theorem nat_estimate_l4_succ (n m4 : Nat) (a0 : D) (divisor1 : D) (nn5 : Int) (guess7 : Int) (rest8 : Int) : nat_estimate_l4 n (m4 + 1) a0 divisor1 nn5 guess7 rest8 =
 .br (decide (0 ≤ 32)) (.br ((Int.fdiv guess7 (2 ^ (min (Int.toNat 32) (IntKind.bits .u64)))) != 0) (.br (decide (0 ≤ IntKind.wrap .i64 (nn5 - 1))) (.br (decide (IntKind.wrap .i64 (nn5 - 1) < (divisor1.els.length : Int))) (.br (decide (0 ≤ 32)) (.br ((Int.fdiv (IntKind.wrap .u64 (rest8 + (IntKind.wrap .u64 ((divisor1.els.getD (Int.toNat (IntKind.wrap .i64 (nn5 - 1))) D.nil).toInt)))) (2 ^ (min (Int.toNat 32) (IntKind.bits .u64)))) != 0) (.ret [D.int (IntKind.wrap .u64 (guess7 - 1))])
 (nat_estimate_l4 n m4 a0 divisor1 nn5 (IntKind.wrap .u64 (guess7 - 1)) (IntKind.wrap .u64 (rest8 + (IntKind.wrap .u64 ((divisor1.els.getD (Int.toNat (IntKind.wrap .i64 (nn5 - 1))) D.nil).toInt)))))) .fail) .fail) .fail)
 (.br (decide (0 ≤ IntKind.wrap .i64 (nn5 - 2))) (.br (decide (IntKind.wrap .i64 (nn5 - 2) < (divisor1.els.length : Int))) (.br (decide (0 ≤ 32)) (.br (decide (0 ≤ IntKind.wrap .i64 (nn5 - 2))) (.br (decide (IntKind.wrap .i64 (nn5 - 2) < (a0.els.length : Int))) (.br (decide ((bits_ .or .u64 (IntKind.wrap .u64 (rest8 * 2 ^ (min (Int.toNat 32) (IntKind.bits .u64)))) (IntKind.wrap .u64 ((a0.els.getD (Int.toNat (IntKind.wrap .i64 (nn5 - 2))) D.nil).toInt))) < (IntKind.wrap .u64 (guess7 * (IntKind.wrap .u64 ((divisor1.els.getD (Int.toNat (IntKind.wrap .i64 (nn5 - 2))) D.nil).toInt)))))) (.br (decide (0 ≤ IntKind.wrap .i64 (nn5 - 1))) (.br (decide (IntKind.wrap .i64 (nn5 - 1) < (divisor1.els.length : Int))) (.br (decide (0 ≤ 32)) (.br ((Int.fdiv (IntKind.wrap .u64 (rest8 + (IntKind.wrap .u64 ((divisor1.els.getD (Int.toNat (IntKind.wrap .i64 (nn5 - 1))) D.nil).toInt)))) (2 ^ (min (Int.toNat 32) (IntKind.bits .u64)))) != 0) (.ret [D.int (IntKind.wrap .u64 (guess7 - 1))])
 (nat_estimate_l4 n m4 a0 divisor1 nn5 (IntKind.wrap .u64 (guess7 - 1)) (IntKind.wrap .u64 (rest8 + (IntKind.wrap .u64 ((divisor1.els.getD (Int.toNat (IntKind.wrap .i64 (nn5 - 1))) D.nil).toInt)))))) .fail) .fail) .fail)
 (.ret [D.int guess7])) .fail) .fail) .fail) .fail) .fail)) .fail := by kernel_rfl
theorem nat_estimate_tree (n : Nat) (a0 : D) (divisor1 : D) : evFun Try.prog md nat_estimate_orc n 82 [] [a0, divisor1] =
 .br (decide (0 ≤ (divisor1.els.length : Int))) (.br (decide ((divisor1.els.length : Int) < (a0.els.length : Int))) (.br (decide (0 ≤ 32)) (.br (decide (0 ≤ IntKind.wrap .i64 ((divisor1.els.length : Int) - 1))) (.br (decide (IntKind.wrap .i64 ((divisor1.els.length : Int) - 1) < (a0.els.length : Int))) (.br (decide (0 ≤ IntKind.wrap .i64 ((divisor1.els.length : Int) - 1))) (.br (decide (IntKind.wrap .i64 ((divisor1.els.length : Int) - 1) < (divisor1.els.length : Int))) (.br (!((IntKind.wrap .u64 ((divisor1.els.getD (Int.toNat (IntKind.wrap .i64 ((divisor1.els.length : Int) - 1))) D.nil).toInt)) == (0 : Int))) (.br (decide (0 ≤ IntKind.wrap .i64 ((divisor1.els.length : Int) - 1))) (.br (decide (IntKind.wrap .i64 ((divisor1.els.length : Int) - 1) < (divisor1.els.length : Int))) (.br (!((IntKind.wrap .u64 ((divisor1.els.getD (Int.toNat (IntKind.wrap .i64 ((divisor1.els.length : Int) - 1))) D.nil).toInt)) == (0 : Int))) (nat_estimate_l4 n n a0 divisor1 (divisor1.els.length : Int) (IntKind.wrap .u64 (Int.tdiv (bits_ .or .u64 (IntKind.wrap .u64 ((IntKind.wrap .u64 ((a0.els.getD (Int.toNat (divisor1.els.length : Int)) D.nil).toInt)) * 2 ^ (min (Int.toNat 32) (IntKind.bits .u64)))) (IntKind.wrap .u64 ((a0.els.getD (Int.toNat (IntKind.wrap .i64 ((divisor1.els.length : Int) - 1))) D.nil).toInt))) (IntKind.wrap .u64 ((divisor1.els.getD (Int.toNat (IntKind.wrap .i64 ((divisor1.els.length : Int) - 1))) D.nil).toInt)))) (Int.tmod (bits_ .or .u64 (IntKind.wrap .u64 ((IntKind.wrap .u64 ((a0.els.getD (Int.toNat (divisor1.els.length : Int)) D.nil).toInt)) * 2 ^ (min (Int.toNat 32) (IntKind.bits .u64)))) (IntKind.wrap .u64 ((a0.els.getD (Int.toNat (IntKind.wrap .i64 ((divisor1.els.length : Int) - 1))) D.nil).toInt))) (IntKind.wrap .u64 ((divisor1.els.getD (Int.toNat (IntKind.wrap .i64 ((divisor1.els.length : Int) - 1))) D.nil).toInt)))) .fail) .fail) .fail) .fail) .fail) .fail) .fail) .fail) .fail) .fail) .fail := by kernel_rfl

/-! scrim/nat.down -/
def nat_down_orc : List (Nat × Orc) := [(4, ⟨[(0, some 28), (1, none), (5, none), (6, none), (7, none)], [], [(.slot 5, 1040, 51)]⟩)]
def nat_down_ps : List Nat := [28, 3]
def nat_down_rs : List ResultVar := [.tmp 4]
def nat_down_ts : List Nat := [28]
noncomputable def nat_down_l4 (n m4 : Nat) (a0 : D) (shift1 : Int) (out5 : List D) (above6 : Int) (i7 : Int) : Tree :=
  evLoop Try.prog md (ev Try.prog md n nat_down_orc (cAt (bodyOf Try.prog 85) [1, 1, 1, 0, 1, 0, 0])) (orcAt nat_down_orc 4) m4 ⟨[.d 28 a0, .i .i64 shift1, .undef, .undef, .undef, .row 1040, .i .u64 above6, .i .i64 i7, .undef, .undef, .undef, .undef, .undef, .undef, .undef, .undef, .undef, .undef, .undef, .undef, .undef, .undef, .undef, .undef, .undef, .undef, .undef, .undef, .undef, .undef, .undef, .undef, .undef, .undef, .undef, .undef, .undef, .undef, .undef, .undef, .undef, .undef], [(1040, .row 51 out5 true)], [1040], [], []⟩
   (blockK 0 (seqK (joinE Try.prog md (joinAt nat_down_orc (cAt (bodyOf Try.prog 85) [1, 1, 1, 1])) (ev Try.prog md n nat_down_orc (cAt (bodyOf Try.prog 85) [1, 1, 1, 1]))) (retK Try.prog md (md 85) nat_down_ps nat_down_rs nat_down_ts)))
theorem nat_down_l4_succ (n m4 : Nat) (a0 : D) (shift1 : Int) (out5 : List D) (above6 : Int) (i7 : Int) : nat_down_l4 n (m4 + 1) a0 shift1 out5 above6 i7 =
 .br (decide (0 ≤ i7)) (.br (decide (0 ≤ 32)) (.br (decide (0 ≤ i7)) (.br (decide (i7 < (a0.els.length : Int))) (.br (decide (0 ≤ IntKind.wrap .u64 shift1)) (.br (decide (0 ≤ i7)) (.br (decide (i7 < (out5.length : Int))) (.br (decide (0 ≤ i7)) (.br (decide (i7 < (a0.els.length : Int))) (nat_down_l4 n m4 a0 shift1 (out5.set (Int.toNat i7) (D.int (IntKind.wrap .u32 (Int.fdiv (bits_ .or .u64 (IntKind.wrap .u64 (above6 * 2 ^ (min (Int.toNat 32) (IntKind.bits .u64)))) (IntKind.wrap .u64 ((a0.els.getD (Int.toNat i7) D.nil).toInt))) (2 ^ (min (Int.toNat (IntKind.wrap .u64 shift1)) (IntKind.bits .u64))))))) (IntKind.wrap .u64 ((a0.els.getD (Int.toNat i7) D.nil).toInt)) (IntKind.wrap .i64 (i7 - 1))) .fail) .fail) .fail) .fail) .fail) .fail) .fail) .fail)
 (.call 71 [] [D.sl out5] fun yy1 =>
 .ret [yy1.getD 0 D.nil]) := by kernel_rfl
theorem nat_down_tree (n : Nat) (a0 : D) (shift1 : D) : evFun Try.prog md nat_down_orc n 85 [] [a0, shift1] =
 .br (decide (0 ≤ (a0.els.length : Int))) (.br (decide ((a0.els.length : Int) ≤ (a0.els.length : Int))) (.br (decide ((a0.els.length : Int) ≤ bigN)) (nat_down_l4 n n a0 shift1.toInt (List.replicate (Int.toNat (a0.els.length : Int)) (D.int 0)) 0 (IntKind.wrap .i64 ((a0.els.length : Int) - 1))) .fail) .fail) .fail := by kernel_rfl

/-! math/bits.Len32 -/
def bits_Len32_orc : List (Nat × Orc) := []
theorem bits_Len32_tree (n : Nat) (x0 : D) : evFun Try.prog md bits_Len32_orc n 86 [] [x0] =
 .br (decide (65536 ≤ x0.toInt)) (.br (decide (0 ≤ 16)) (.br (decide (256 ≤ (Int.fdiv x0.toInt (2 ^ (min (Int.toNat 16) (IntKind.bits .u32)))))) (.br (decide (0 ≤ 8)) (.br (decide (0 ≤ IntKind.wrap .u8 (Int.fdiv (Int.fdiv x0.toInt (2 ^ (min (Int.toNat 16) (IntKind.bits .u32)))) (2 ^ (min (Int.toNat 8) (IntKind.bits .u32)))))) (.br (decide (IntKind.wrap .u8 (Int.fdiv (Int.fdiv x0.toInt (2 ^ (min (Int.toNat 16) (IntKind.bits .u32)))) (2 ^ (min (Int.toNat 8) (IntKind.bits .u32)))) < ((⟨#[0, 1, 2, 2, 3, 3, 3, 3, 4, 4, 4, 4, 4, 4, 4, 4, 5, 5, 5, 5, 5, 5, 5, 5, 5, 5, 5, 5, 5, 5, 5, 5, 6, 6, 6, 6, 6, 6, 6, 6, 6, 6, 6, 6, 6, 6, 6, 6, 6, 6, 6, 6, 6, 6, 6, 6, 6, 6, 6, 6, 6, 6, 6, 6, 7, 7, 7, 7, 7, 7, 7, 7, 7, 7, 7, 7, 7, 7, 7, 7, 7, 7, 7, 7, 7, 7, 7, 7, 7, 7, 7, 7, 7, 7, 7, 7, 7, 7, 7, 7, 7, 7, 7, 7, 7, 7, 7, 7, 7, 7, 7, 7, 7, 7, 7, 7, 7, 7, 7, 7, 7, 7, 7, 7, 7, 7, 7, 7, 8, 8, 8, 8, 8, 8, 8, 8, 8, 8, 8, 8, 8, 8, 8, 8, 8, 8, 8, 8, 8, 8, 8, 8, 8, 8, 8, 8, 8, 8, 8, 8, 8, 8, 8, 8, 8, 8, 8, 8, 8, 8, 8, 8, 8, 8, 8, 8, 8, 8, 8, 8, 8, 8, 8, 8, 8, 8, 8, 8, 8, 8, 8, 8, 8, 8, 8, 8, 8, 8, 8, 8, 8, 8, 8, 8, 8, 8, 8, 8, 8, 8, 8, 8, 8, 8, 8, 8, 8, 8, 8, 8, 8, 8, 8, 8, 8, 8, 8, 8, 8, 8, 8, 8, 8, 8, 8, 8, 8, 8, 8, 8, 8, 8, 8, 8, 8, 8, 8, 8, 8, 8, 8, 8, 8, 8, 8, 8]⟩ : ByteArray).size : Int))) (.ret [D.int (IntKind.wrap .i64 ((IntKind.wrap .i64 (16 + 8)) + (IntKind.wrap .i64 ((((⟨#[0, 1, 2, 2, 3, 3, 3, 3, 4, 4, 4, 4, 4, 4, 4, 4, 5, 5, 5, 5, 5, 5, 5, 5, 5, 5, 5, 5, 5, 5, 5, 5, 6, 6, 6, 6, 6, 6, 6, 6, 6, 6, 6, 6, 6, 6, 6, 6, 6, 6, 6, 6, 6, 6, 6, 6, 6, 6, 6, 6, 6, 6, 6, 6, 7, 7, 7, 7, 7, 7, 7, 7, 7, 7, 7, 7, 7, 7, 7, 7, 7, 7, 7, 7, 7, 7, 7, 7, 7, 7, 7, 7, 7, 7, 7, 7, 7, 7, 7, 7, 7, 7, 7, 7, 7, 7, 7, 7, 7, 7, 7, 7, 7, 7, 7, 7, 7, 7, 7, 7, 7, 7, 7, 7, 7, 7, 7, 7, 8, 8, 8, 8, 8, 8, 8, 8, 8, 8, 8, 8, 8, 8, 8, 8, 8, 8, 8, 8, 8, 8, 8, 8, 8, 8, 8, 8, 8, 8, 8, 8, 8, 8, 8, 8, 8, 8, 8, 8, 8, 8, 8, 8, 8, 8, 8, 8, 8, 8, 8, 8, 8, 8, 8, 8, 8, 8, 8, 8, 8, 8, 8, 8, 8, 8, 8, 8, 8, 8, 8, 8, 8, 8, 8, 8, 8, 8, 8, 8, 8, 8, 8, 8, 8, 8, 8, 8, 8, 8, 8, 8, 8, 8, 8, 8, 8, 8, 8, 8, 8, 8, 8, 8, 8, 8, 8, 8, 8, 8, 8, 8, 8, 8, 8, 8, 8, 8, 8, 8, 8, 8, 8, 8, 8, 8, 8, 8]⟩ : ByteArray).data.toList.getD (Int.toNat (IntKind.wrap .u8 (Int.fdiv (Int.fdiv x0.toInt (2 ^ (min (Int.toNat 16) (IntKind.bits .u32)))) (2 ^ (min (Int.toNat 8) (IntKind.bits .u32)))))) 0).toNat : Nat) : Int))))]) .fail) .fail) .fail)
 (.br (decide (0 ≤ IntKind.wrap .u8 (Int.fdiv x0.toInt (2 ^ (min (Int.toNat 16) (IntKind.bits .u32)))))) (.br (decide (IntKind.wrap .u8 (Int.fdiv x0.toInt (2 ^ (min (Int.toNat 16) (IntKind.bits .u32)))) < ((⟨#[0, 1, 2, 2, 3, 3, 3, 3, 4, 4, 4, 4, 4, 4, 4, 4, 5, 5, 5, 5, 5, 5, 5, 5, 5, 5, 5, 5, 5, 5, 5, 5, 6, 6, 6, 6, 6, 6, 6, 6, 6, 6, 6, 6, 6, 6, 6, 6, 6, 6, 6, 6, 6, 6, 6, 6, 6, 6, 6, 6, 6, 6, 6, 6, 7, 7, 7, 7, 7, 7, 7, 7, 7, 7, 7, 7, 7, 7, 7, 7, 7, 7, 7, 7, 7, 7, 7, 7, 7, 7, 7, 7, 7, 7, 7, 7, 7, 7, 7, 7, 7, 7, 7, 7, 7, 7, 7, 7, 7, 7, 7, 7, 7, 7, 7, 7, 7, 7, 7, 7, 7, 7, 7, 7, 7, 7, 7, 7, 8, 8, 8, 8, 8, 8, 8, 8, 8, 8, 8, 8, 8, 8, 8, 8, 8, 8, 8, 8, 8, 8, 8, 8, 8, 8, 8, 8, 8, 8, 8, 8, 8, 8, 8, 8, 8, 8, 8, 8, 8, 8, 8, 8, 8, 8, 8, 8, 8, 8, 8, 8, 8, 8, 8, 8, 8, 8, 8, 8, 8, 8, 8, 8, 8, 8, 8, 8, 8, 8, 8, 8, 8, 8, 8, 8, 8, 8, 8, 8, 8, 8, 8, 8, 8, 8, 8, 8, 8, 8, 8, 8, 8, 8, 8, 8, 8, 8, 8, 8, 8, 8, 8, 8, 8, 8, 8, 8, 8, 8, 8, 8, 8, 8, 8, 8, 8, 8, 8, 8, 8, 8, 8, 8, 8, 8, 8, 8]⟩ : ByteArray).size : Int))) (.ret [D.int (IntKind.wrap .i64 (16 + (IntKind.wrap .i64 ((((⟨#[0, 1, 2, 2, 3, 3, 3, 3, 4, 4, 4, 4, 4, 4, 4, 4, 5, 5, 5, 5, 5, 5, 5, 5, 5, 5, 5, 5, 5, 5, 5, 5, 6, 6, 6, 6, 6, 6, 6, 6, 6, 6, 6, 6, 6, 6, 6, 6, 6, 6, 6, 6, 6, 6, 6, 6, 6, 6, 6, 6, 6, 6, 6, 6, 7, 7, 7, 7, 7, 7, 7, 7, 7, 7, 7, 7, 7, 7, 7, 7, 7, 7, 7, 7, 7, 7, 7, 7, 7, 7, 7, 7, 7, 7, 7, 7, 7, 7, 7, 7, 7, 7, 7, 7, 7, 7, 7, 7, 7, 7, 7, 7, 7, 7, 7, 7, 7, 7, 7, 7, 7, 7, 7, 7, 7, 7, 7, 7, 8, 8, 8, 8, 8, 8, 8, 8, 8, 8, 8, 8, 8, 8, 8, 8, 8, 8, 8, 8, 8, 8, 8, 8, 8, 8, 8, 8, 8, 8, 8, 8, 8, 8, 8, 8, 8, 8, 8, 8, 8, 8, 8, 8, 8, 8, 8, 8, 8, 8, 8, 8, 8, 8, 8, 8, 8, 8, 8, 8, 8, 8, 8, 8, 8, 8, 8, 8, 8, 8, 8, 8, 8, 8, 8, 8, 8, 8, 8, 8, 8, 8, 8, 8, 8, 8, 8, 8, 8, 8, 8, 8, 8, 8, 8, 8, 8, 8, 8, 8, 8, 8, 8, 8, 8, 8, 8, 8, 8, 8, 8, 8, 8, 8, 8, 8, 8, 8, 8, 8, 8, 8, 8, 8, 8, 8, 8, 8]⟩ : ByteArray).data.toList.getD (Int.toNat (IntKind.wrap .u8 (Int.fdiv x0.toInt (2 ^ (min (Int.toNat 16) (IntKind.bits .u32)))))) 0).toNat : Nat) : Int))))]) .fail) .fail)) .fail)
 (.br (decide (256 ≤ x0.toInt)) (.br (decide (0 ≤ 8)) (.br (decide (0 ≤ IntKind.wrap .u8 (Int.fdiv x0.toInt (2 ^ (min (Int.toNat 8) (IntKind.bits .u32)))))) (.br (decide (IntKind.wrap .u8 (Int.fdiv x0.toInt (2 ^ (min (Int.toNat 8) (IntKind.bits .u32)))) < ((⟨#[0, 1, 2, 2, 3, 3, 3, 3, 4, 4, 4, 4, 4, 4, 4, 4, 5, 5, 5, 5, 5, 5, 5, 5, 5, 5, 5, 5, 5, 5, 5, 5, 6, 6, 6, 6, 6, 6, 6, 6, 6, 6, 6, 6, 6, 6, 6, 6, 6, 6, 6, 6, 6, 6, 6, 6, 6, 6, 6, 6, 6, 6, 6, 6, 7, 7, 7, 7, 7, 7, 7, 7, 7, 7, 7, 7, 7, 7, 7, 7, 7, 7, 7, 7, 7, 7, 7, 7, 7, 7, 7, 7, 7, 7, 7, 7, 7, 7, 7, 7, 7, 7, 7, 7, 7, 7, 7, 7, 7, 7, 7, 7, 7, 7, 7, 7, 7, 7, 7, 7, 7, 7, 7, 7, 7, 7, 7, 7, 8, 8, 8, 8, 8, 8, 8, 8, 8, 8, 8, 8, 8, 8, 8, 8, 8, 8, 8, 8, 8, 8, 8, 8, 8, 8, 8, 8, 8, 8, 8, 8, 8, 8, 8, 8, 8, 8, 8, 8, 8, 8, 8, 8, 8, 8, 8, 8, 8, 8, 8, 8, 8, 8, 8, 8, 8, 8, 8, 8, 8, 8, 8, 8, 8, 8, 8, 8, 8, 8, 8, 8, 8, 8, 8, 8, 8, 8, 8, 8, 8, 8, 8, 8, 8, 8, 8, 8, 8, 8, 8, 8, 8, 8, 8, 8, 8, 8, 8, 8, 8, 8, 8, 8, 8, 8, 8, 8, 8, 8, 8, 8, 8, 8, 8, 8, 8, 8, 8, 8, 8, 8, 8, 8, 8, 8, 8, 8]⟩ : ByteArray).size : Int))) (.ret [D.int (IntKind.wrap .i64 ((IntKind.wrap .i64 (0 + 8)) + (IntKind.wrap .i64 ((((⟨#[0, 1, 2, 2, 3, 3, 3, 3, 4, 4, 4, 4, 4, 4, 4, 4, 5, 5, 5, 5, 5, 5, 5, 5, 5, 5, 5, 5, 5, 5, 5, 5, 6, 6, 6, 6, 6, 6, 6, 6, 6, 6, 6, 6, 6, 6, 6, 6, 6, 6, 6, 6, 6, 6, 6, 6, 6, 6, 6, 6, 6, 6, 6, 6, 7, 7, 7, 7, 7, 7, 7, 7, 7, 7, 7, 7, 7, 7, 7, 7, 7, 7, 7, 7, 7, 7, 7, 7, 7, 7, 7, 7, 7, 7, 7, 7, 7, 7, 7, 7, 7, 7, 7, 7, 7, 7, 7, 7, 7, 7, 7, 7, 7, 7, 7, 7, 7, 7, 7, 7, 7, 7, 7, 7, 7, 7, 7, 7, 8, 8, 8, 8, 8, 8, 8, 8, 8, 8, 8, 8, 8, 8, 8, 8, 8, 8, 8, 8, 8, 8, 8, 8, 8, 8, 8, 8, 8, 8, 8, 8, 8, 8, 8, 8, 8, 8, 8, 8, 8, 8, 8, 8, 8, 8, 8, 8, 8, 8, 8, 8, 8, 8, 8, 8, 8, 8, 8, 8, 8, 8, 8, 8, 8, 8, 8, 8, 8, 8, 8, 8, 8, 8, 8, 8, 8, 8, 8, 8, 8, 8, 8, 8, 8, 8, 8, 8, 8, 8, 8, 8, 8, 8, 8, 8, 8, 8, 8, 8, 8, 8, 8, 8, 8, 8, 8, 8, 8, 8, 8, 8, 8, 8, 8, 8, 8, 8, 8, 8, 8, 8, 8, 8, 8, 8, 8, 8]⟩ : ByteArray).data.toList.getD (Int.toNat (IntKind.wrap .u8 (Int.fdiv x0.toInt (2 ^ (min (Int.toNat 8) (IntKind.bits .u32)))))) 0).toNat : Nat) : Int))))]) .fail) .fail) .fail)
 (.br (decide (0 ≤ IntKind.wrap .u8 x0.toInt)) (.br (decide (IntKind.wrap .u8 x0.toInt < ((⟨#[0, 1, 2, 2, 3, 3, 3, 3, 4, 4, 4, 4, 4, 4, 4, 4, 5, 5, 5, 5, 5, 5, 5, 5, 5, 5, 5, 5, 5, 5, 5, 5, 6, 6, 6, 6, 6, 6, 6, 6, 6, 6, 6, 6, 6, 6, 6, 6, 6, 6, 6, 6, 6, 6, 6, 6, 6, 6, 6, 6, 6, 6, 6, 6, 7, 7, 7, 7, 7, 7, 7, 7, 7, 7, 7, 7, 7, 7, 7, 7, 7, 7, 7, 7, 7, 7, 7, 7, 7, 7, 7, 7, 7, 7, 7, 7, 7, 7, 7, 7, 7, 7, 7, 7, 7, 7, 7, 7, 7, 7, 7, 7, 7, 7, 7, 7, 7, 7, 7, 7, 7, 7, 7, 7, 7, 7, 7, 7, 8, 8, 8, 8, 8, 8, 8, 8, 8, 8, 8, 8, 8, 8, 8, 8, 8, 8, 8, 8, 8, 8, 8, 8, 8, 8, 8, 8, 8, 8, 8, 8, 8, 8, 8, 8, 8, 8, 8, 8, 8, 8, 8, 8, 8, 8, 8, 8, 8, 8, 8, 8, 8, 8, 8, 8, 8, 8, 8, 8, 8, 8, 8, 8, 8, 8, 8, 8, 8, 8, 8, 8, 8, 8, 8, 8, 8, 8, 8, 8, 8, 8, 8, 8, 8, 8, 8, 8, 8, 8, 8, 8, 8, 8, 8, 8, 8, 8, 8, 8, 8, 8, 8, 8, 8, 8, 8, 8, 8, 8, 8, 8, 8, 8, 8, 8, 8, 8, 8, 8, 8, 8, 8, 8, 8, 8, 8, 8]⟩ : ByteArray).size : Int))) (.ret [D.int (IntKind.wrap .i64 (0 + (IntKind.wrap .i64 ((((⟨#[0, 1, 2, 2, 3, 3, 3, 3, 4, 4, 4, 4, 4, 4, 4, 4, 5, 5, 5, 5, 5, 5, 5, 5, 5, 5, 5, 5, 5, 5, 5, 5, 6, 6, 6, 6, 6, 6, 6, 6, 6, 6, 6, 6, 6, 6, 6, 6, 6, 6, 6, 6, 6, 6, 6, 6, 6, 6, 6, 6, 6, 6, 6, 6, 7, 7, 7, 7, 7, 7, 7, 7, 7, 7, 7, 7, 7, 7, 7, 7, 7, 7, 7, 7, 7, 7, 7, 7, 7, 7, 7, 7, 7, 7, 7, 7, 7, 7, 7, 7, 7, 7, 7, 7, 7, 7, 7, 7, 7, 7, 7, 7, 7, 7, 7, 7, 7, 7, 7, 7, 7, 7, 7, 7, 7, 7, 7, 7, 8, 8, 8, 8, 8, 8, 8, 8, 8, 8, 8, 8, 8, 8, 8, 8, 8, 8, 8, 8, 8, 8, 8, 8, 8, 8, 8, 8, 8, 8, 8, 8, 8, 8, 8, 8, 8, 8, 8, 8, 8, 8, 8, 8, 8, 8, 8, 8, 8, 8, 8, 8, 8, 8, 8, 8, 8, 8, 8, 8, 8, 8, 8, 8, 8, 8, 8, 8, 8, 8, 8, 8, 8, 8, 8, 8, 8, 8, 8, 8, 8, 8, 8, 8, 8, 8, 8, 8, 8, 8, 8, 8, 8, 8, 8, 8, 8, 8, 8, 8, 8, 8, 8, 8, 8, 8, 8, 8, 8, 8, 8, 8, 8, 8, 8, 8, 8, 8, 8, 8, 8, 8, 8, 8, 8, 8, 8, 8]⟩ : ByteArray).data.toList.getD (Int.toNat (IntKind.wrap .u8 x0.toInt)) 0).toNat : Nat) : Int))))]) .fail) .fail)) := by kernel_rfl

end Go.Proofs.Ytcdjifdllibolaa

namespace Go.Proofs.Ytcdjifdllibolaa

def B : Nat := 4294967296
theorem B_eq : B = 4294967296 := rfl
theorem B_pos : 0 < B := by decide
theorem Bp (i : Nat) : 0 < B ^ i := Nat.pow_pos B_pos
theorem limb_lt (x : Limb) : x.toNat < B := x.isLt
def nv : List Limb → Nat
  | [] => 0
  | x :: l => x.toNat + B * nv l
@[simp] theorem nv_nil : nv [] = 0 := rfl
theorem nv_append (l m : List Limb) : nv (l ++ m) = nv l + B ^ l.length * nv m := by
  induction l with
  | nil => simp
  | cons x l ih =>
    simp only [List.cons_append, nv, ih, List.length_cons, Nat.pow_succ, Nat.mul_add]
    rw [Nat.mul_comm (B ^ l.length) B, Nat.mul_assoc]; omega
theorem nv_snoc (l : List Limb) (x : Limb) : nv (l ++ [x]) = nv l + B ^ l.length * x.toNat := by rw [nv_append]; simp [nv]
theorem nv_lt (l : List Limb) : nv l < B ^ l.length := by
  induction l with
  | nil => simp
  | cons x l ih =>
    simp only [nv, List.length_cons, Nat.pow_succ]
    have hx := limb_lt x
    have : B * (nv l + 1) ≤ B * B ^ l.length := Nat.mul_le_mul_left _ ih
    rw [Nat.mul_comm (B ^ l.length) B]
    rw [Nat.mul_add] at this
    omega
theorem nv_drop (l : List Limb) (i : Nat) : nv (l.drop i) = nv l / B ^ i := by
  induction i generalizing l with
  | zero => simp
  | succ i ih =>
    cases l with
    | nil => simp
    | cons x l =>
      rw [List.drop_succ_cons, ih, Nat.pow_succ, Nat.mul_comm, ← Nat.div_div_eq_div_mul]
      simp only [nv]
      rw [Nat.add_mul_div_left _ _ B_pos, Nat.div_eq_of_lt (limb_lt x), Nat.zero_add]
/-- A limb. -/
theorem nv_limb (l : List Limb) (i : Nat) (hi : i < l.length) : (l[i]).toNat = nv l / B ^ i % B := by
  rw [← nv_drop, List.drop_eq_getElem_cons hi, nv, Nat.add_mul_mod_self_left, Nat.mod_eq_of_lt (limb_lt _)]
theorem nv_limb' (l : List Limb) (i : Nat) (hi : l.length ≤ i) : nv l / B ^ i % B = 0 := by
  rw [← nv_drop, List.drop_eq_nil_of_le hi]; rfl
theorem nv_zeros (k : Nat) : nv (List.replicate k 0) = 0 := by
  induction k with
  | zero => rfl
  | succ k ih => rw [List.replicate_succ, nv, ih]; rfl
/-- A digit more. -/
theorem nv_step {out : List Limb} {z i : Nat} {d : Limb} (hl : out.length = i) (h : nv out = z % B ^ i) (hd : d.toNat = z / B ^ i % B) : nv (out ++ [d]) = z % B ^ (i + 1) := by
  rw [nv_snoc, hl, h, hd, Nat.mod_pow_succ]

/-- The limbs of a number. -/
def lb (n : Nat) : List Limb := if h : n = 0 then [] else BitVec.ofNat 32 n :: lb (n / B)
termination_by n
decreasing_by exact Nat.div_lt_self (Nat.pos_of_ne_zero h) (by decide)
theorem lb_zero : lb 0 = [] := by rw [lb]; simp
theorem lb_pos {n : Nat} (h : n ≠ 0) : lb n = BitVec.ofNat 32 n :: lb (n / B) := by rw [lb, dif_neg h]
theorem nv_lb (n : Nat) : nv (lb n) = n := by
  induction n using Nat.strongRecOn with
  | _ n ih =>
    by_cases h : n = 0
    · subst h; rw [lb_zero]; rfl
    · rw [lb_pos h, nv, ih _ (Nat.div_lt_self (Nat.pos_of_ne_zero h) (by decide)), BitVec.toNat_ofNat]
      exact Nat.mod_add_div n B
theorem lb_len {n k : Nat} : (lb n).length ≤ k ↔ n < B ^ k := by
  induction k generalizing n with
  | zero =>
    by_cases h : n = 0
    · subst h; simp [lb_zero]
    · rw [lb_pos h]; simp; omega
  | succ k ih =>
    by_cases h : n = 0
    · subst h; simp [lb_zero, Bp]
    · rw [lb_pos h, List.length_cons, Nat.succ_le_succ_iff, ih, Nat.div_lt_iff_lt_mul B_pos, Nat.pow_succ]
theorem lb_eq_nil {n : Nat} : lb n = [] ↔ n = 0 := by
  constructor
  · intro h; have := nv_lb n; rw [h] at this; simpa using this.symm
  · rintro rfl; exact lb_zero
theorem lb_len0 {n : Nat} : (lb n).length = 0 ↔ n = 0 := by rw [List.length_eq_zero_iff, lb_eq_nil]
/-- No 0 on top. -/
theorem lb_can {l : List Limb} (h : ∀ hne : l ≠ [], l.getLast hne ≠ 0) : lb (nv l) = l := by
  induction l with
  | nil => simp [lb_zero]
  | cons x l ih =>
    have ihl := ih (fun hne => by have := h (by simp); rwa [List.getLast_cons hne] at this)
    have hpos : nv (x :: l) ≠ 0 := by
      intro h0
      simp only [nv] at h0
      cases l with
      | nil =>
        have := h (by simp)
        simp only [List.getLast_singleton] at this
        exact this (BitVec.eq_of_toNat_eq (by simp; omega))
      | cons y m =>
        have hv : nv (y :: m) = 0 := by
          rcases Nat.eq_zero_or_pos (nv (y :: m)) with h | h
          · exact h
          · have := Nat.mul_le_mul_left B h; rw [B_eq] at this h0; omega
        rw [hv, lb_zero] at ihl
        cases ihl
    rw [lb_pos hpos]
    have e2 : nv (x :: l) / B = nv l := by simp only [nv]; rw [Nat.add_mul_div_left _ _ B_pos, Nat.div_eq_of_lt (limb_lt x), Nat.zero_add]
    rw [e2, ihl]
    congr 1
    apply BitVec.eq_of_toNat_eq
    simp only [nv, BitVec.toNat_ofNat]
    show (x.toNat + B * nv l) % B = x.toNat
    rw [Nat.add_mul_mod_self_left, Nat.mod_eq_of_lt (limb_lt x)]
theorem lb_last {n : Nat} (hne : lb n ≠ []) : (lb n).getLast hne ≠ 0 := by
  induction n using Nat.strongRecOn with
  | _ n ih =>
    have h : n ≠ 0 := fun h => hne (lb_eq_nil.2 h)
    have he := lb_pos h
    by_cases h2 : n / B = 0
    · rw [h2, lb_zero] at he
      simp only [he, List.getLast_singleton]
      intro h0
      have := congrArg BitVec.toNat h0
      simp only [BitVec.toNat_ofNat] at this
      have hlt : n < B := (Nat.div_eq_zero_iff.1 h2).resolve_left (by decide)
      rw [B_eq] at hlt
      simp at this
      omega
    · have hne2 : lb (n / B) ≠ [] := fun hh => h2 (lb_eq_nil.1 hh)
      have := ih (n / B) (Nat.div_lt_self (Nat.pos_of_ne_zero h) (by decide)) hne2
      simp only [he, List.getLast_cons hne2]
      exact this
/-- Noughts on top taken off. -/
theorem lb_take {l : List Limb} {k : Nat} (hk : k ≤ l.length) (hz : ∀ i, k ≤ i → (hi : i < l.length) → l[i] = 0) (ht : ∀ (hi : k - 1 < l.length), 0 < k → l[k - 1] ≠ 0) : lb (nv l) = l.take k := by
  have e : nv l = nv (l.take k) := by
    have := nv_append (l.take k) (l.drop k)
    rw [List.take_append_drop] at this
    have hd : l.drop k = List.replicate (l.length - k) 0 := by
      apply List.ext_getElem
      · simp
      · intro i h1 h2
        simp only [List.getElem_drop, List.getElem_replicate]
        exact hz _ (by omega) _
    rw [this, hd, nv_zeros]; simp
  rw [e]
  apply lb_can
  intro hne
  have hk0 : 0 < k := by
    rcases Nat.eq_zero_or_pos k with h | h
    · subst h; simp at hne
    · exact h
  rw [List.getLast_eq_getElem]
  simp only [List.getElem_take, List.length_take]
  have := ht (by omega) hk0
  have he : min k l.length - 1 = k - 1 := by omega
  simp only [he]
  exact this
theorem add_digit (x y i : Nat) : (x + y) / B ^ i % B = (x / B ^ i % B + y / B ^ i % B + (x % B ^ i + y % B ^ i) / B ^ i) % B := by
  have h1 : (x + y) / B ^ i = x / B ^ i + y / B ^ i + (x % B ^ i + y % B ^ i) / B ^ i := by
    have hx := Nat.div_add_mod x (B ^ i)
    have hy := Nat.div_add_mod y (B ^ i)
    conv => lhs; rw [← hx, ← hy]
    rw [show B ^ i * (x / B ^ i) + x % B ^ i + (B ^ i * (y / B ^ i) + y % B ^ i) = (x % B ^ i + y % B ^ i) + B ^ i * (x / B ^ i + y / B ^ i) by rw [Nat.mul_add]; omega, Nat.add_mul_div_left _ _ (Bp i)]
    omega
  rw [h1]
  simp [Nat.add_mod]
theorem add_carry (x y i : Nat) : (x % B ^ (i + 1) + y % B ^ (i + 1)) / B ^ (i + 1) = (x / B ^ i % B + y / B ^ i % B + (x % B ^ i + y % B ^ i) / B ^ i) / B := by
  rw [Nat.mod_pow_succ, Nat.mod_pow_succ, Nat.pow_succ, ← Nat.div_div_eq_div_mul]
  congr 1
  rw [show x % B ^ i + B ^ i * (x / B ^ i % B) + (y % B ^ i + B ^ i * (y / B ^ i % B)) = (x % B ^ i + y % B ^ i) + B ^ i * (x / B ^ i % B + y / B ^ i % B) by rw [Nat.mul_add]; omega, Nat.add_mul_div_left _ _ (Bp i)]
  omega
theorem lt_of_div {x y b : Nat} (h : x / b < y / b) : x < y := by
  rcases Nat.lt_or_ge x y with h1 | h1
  · exact h1
  · have := Nat.div_le_div_right (c := b) h1; omega
end Go.Proofs.Ytcdjifdllibolaa

set_option maxRecDepth 100000
namespace Go.Proofs.Ytcdjifdllibolaa

theorem dB_ofNat {t : Nat} (h : t < B) : D.int (t : Int) = dB (BitVec.ofNat 32 t) := by
  show _ = D.int ((BitVec.ofNat 32 t).toNat : Int)
  rw [show (BitVec.ofNat 32 t).toNat = t by rw [BitVec.toNat_ofNat]; exact Nat.mod_eq_of_lt h]
theorem ofNat_lt {t : Nat} (h : t < B) : (BitVec.ofNat 32 t).toNat = t := by rw [BitVec.toNat_ofNat]; exact Nat.mod_eq_of_lt h
theorem wrap_pred (k : Nat) (h : k < 9223372036854775807) : IntKind.wrap .i64 (((k + 1 : Nat) : Int) - 1) = (k : Int) := by rw [wrap64 (by omega) (by omega)]; omega
theorem dL_take (l : List Limb) (k : Nat) : D.sl ((l.map dB).take k) = dL (l.take k) := by rw [dL, List.map_take]
theorem ref02_Norm_sp (l : List Limb) (hl : l.length ≤ 1000000) : Sp 62 [dL l] [dL (lb (nv l))] := by
  refine sound_ (l.length + 1) (ref02_Norm_tree _ _) ?_
  have := loop_down (P := Try.prog) (md := md) (fun m k (_ : Unit) => ref02_Norm_l2 (l.length + 1) m (dL l) (k : Int)) (fun _ _ => [dL (lb (nv l))]) (fun k _ => k ≤ l.length ∧ ∀ i, k ≤ i → (hi : i < l.length) → l[i] = 0)
    (fun m s ⟨h1, h2⟩ => by
      simp only [ref02_Norm_l2_succ, els_dL, List.length_map, List.length_take]
      refine wp_ndec (by omega) (wp_dec (by omega) (wp_dec (by omega) (wp_dec (by simp [bigN]) (wp_ret ?_))))
      rw [lb_take (k := 0) (by omega) h2 (fun _ h => by omega), dL_take]; rfl)
    (fun m k s ⟨h1, h2⟩ ih => by
      have hk : l[k]? = some l[k] := List.getElem?_eq_getElem _
      simp only [ref02_Norm_l2_succ, els_dL, List.length_map, List.length_take, wrap_pred k (by omega), Int.toNat_natCast, getD_map hk, toInt_dB, int_beq]
      refine wp_dec (by omega) (wp_dec (by omega) (wp_dec (by omega) (wp_decs (fun h => ?_) (fun h => ?_))))
      · refine ih () ⟨by omega, fun i hi hlt => ?_⟩
        by_cases he : i = k
        · subst he; exact BitVec.eq_of_toNat_eq (by simp; omega)
        · exact h2 i (by omega) hlt
      · refine wp_dec (by omega) (wp_dec (by omega) (wp_dec (by unfold bigN; omega) (wp_ret ?_)))
        rw [lb_take (k := k + 1) (by omega) h2 (fun _ _ hc => h (by have hc' : l[k] = 0 := hc; rw [hc']; rfl)), dL_take])
    (l.length + 1) l.length () (by omega) ⟨Nat.le_refl _, fun i h1 h2 => by omega⟩
  simpa using this
theorem ref02_limb_sp (l : List Limb) (i : Nat) (hi : i < 9223372036854775807) : Sp 64 [dL l, .int i] [.int ((nv l / B ^ i % B : Nat) : Int)] := by
  refine sound_ 0 (ref02_limb_tree _ _ _) ?_
  simp only [els_dL, List.length_map, toInt_int, Int.toNat_natCast]
  refine wp_decs (fun h => ?_) (fun h => ?_)
  · have hk : l[i]? = some (l[i]'(by omega)) := List.getElem?_eq_getElem _
    refine wp_dec (by omega) (wp_dec (by omega) (wp_ret ?_))
    have := limb_lt l[i]
    rw [getD_map hk, toInt_dB, wrapU64 (by omega) (by rw [B_eq] at this; omega), nv_limb]
  · refine wp_ret ?_
    rw [nv_limb' _ _ (by omega)]; rfl
theorem ref02_longer_sp (a b : List Limb) : Sp 63 [dL a, dL b] [.int ((max a.length b.length : Nat) : Int)] := by
  refine sound_ 0 (ref02_longer_tree _ _ _) ?_
  simp only [els_dL, List.length_map]
  refine wp_decs (fun h => wp_ret ?_) (fun h => wp_ret ?_)
  · rw [Nat.max_eq_left (by omega)]
  · rw [Nat.max_eq_right (by omega)]
/-- Which one is greater? -/
def cmpN (a b : Nat) : Int := if a < b then -1 else if a = b then 0 else 1
theorem ref02_Add_sp (a b : List Limb) (ha : a.length ≤ 100000) (hb : b.length ≤ 100000) : Sp 48 [dL a, dL b] [dL (lb (nv a + nv b))] := by
  refine sound_ (max a.length b.length + 3) (ref02_Add_tree _ _ _) ?_
  have hmx : max a.length b.length ≤ 100000 := by omega
  have hlt : nv a + nv b < B ^ (max a.length b.length + 1) := by
    have h1 : nv a < B ^ max a.length b.length := Nat.lt_of_lt_of_le (nv_lt a) (Nat.pow_le_pow_right B_pos (Nat.le_max_left _ _))
    have h2 : nv b < B ^ max a.length b.length := Nat.lt_of_lt_of_le (nv_lt b) (Nat.pow_le_pow_right B_pos (Nat.le_max_right _ _))
    rw [Nat.pow_succ, B_eq]; rw [B_eq] at h1 h2; omega
  have key := loop_up (P := Try.prog) (md := md) (max a.length b.length + 1) (fun m k (s : List Limb × Nat) => ref02_Add_l4 (max a.length b.length + 3) m (dL a) (dL b) (s.1.map dB) (s.2 : Int) (k : Int)) (fun _ _ => [dL (lb (nv a + nv b))])
    (fun k s => s.1.length = k ∧ nv s.1 = (nv a + nv b) % B ^ k ∧ s.2 = (nv a % B ^ k + nv b % B ^ k) / B ^ k)
    (fun m s ⟨h1, h2, h3⟩ => by
      simp only [ref02_Add_l4_succ]
      refine wp_call (ref02_longer_sp a b) ?_
      simp only [getD_c0, toInt_int]
      refine wp_ndec (by omega) (wp_call (ref02_Norm_sp s.1 (by omega)) (wp_ret ?_))
      rw [h2, Nat.mod_eq_of_lt hlt]; rfl)
    (fun m k s hk ⟨h1, h2, h3⟩ ih => by
      simp only [ref02_Add_l4_succ]
      refine wp_call (ref02_longer_sp a b) ?_
      simp only [getD_c0, toInt_int]
      refine wp_dec (by omega) (wp_call (ref02_limb_sp a k (by omega)) (wp_call (ref02_limb_sp b k (by omega)) ?_))
      simp only [getD_c0, toInt_int]
      have hd := add_digit (nv a) (nv b) k
      have hc := add_carry (nv a) (nv b) k
      have la := Nat.mod_lt (nv a / B ^ k) B_pos
      have lb' := Nat.mod_lt (nv b / B ^ k) B_pos
      have lc : s.2 ≤ 1 := by
        rw [h3]
        have r1 := Nat.mod_lt (nv a) (Bp k)
        have r2 := Nat.mod_lt (nv b) (Bp k)
        have : (nv a % B ^ k + nv b % B ^ k) / B ^ k < 2 := by rw [Nat.div_lt_iff_lt_mul (Bp k)]; omega
        omega
      rw [← h3] at hd hc
      generalize nv a / B ^ k % B = x at *
      generalize nv b / B ^ k % B = y at *
      have hB := B_eq
      rw [show (x + y + s.2) / B = (x + y + s.2) / 4294967296 from rfl] at hc
      have t1 : IntKind.wrap .u64 (IntKind.wrap .u64 ((x : Int) + (y : Int)) + (s.2 : Int)) = ((x + y + s.2 : Nat) : Int) := by
        rw [wrapU64 (x := (x : Int) + y) (by omega) (by omega), wrapU64 (by omega) (by omega)]; omega
      rw [t1, Int.tmod_eq_emod_of_nonneg (by omega), Int.tdiv_eq_ediv_of_nonneg (by omega), show (((x + y + s.2 : Nat) : Int) % 4294967296) = (((x + y + s.2) % B : Nat) : Int) by rw [B_eq]; omega,
        show (((x + y + s.2 : Nat) : Int) / 4294967296) = (((x + y + s.2) / 4294967296 : Nat) : Int) by omega]
      have hm := Nat.mod_lt (x + y + s.2) B_pos
      rw [wrapU32 (x := (((x + y + s.2) % B : Nat) : Int)) (by omega) (by generalize (x + y + s.2) % B = z at *; omega), wrapU64 (x := (((x + y + s.2) / 4294967296 : Nat) : Int)) (by omega) (by omega), wrap_succ (by omega), dB_ofNat hm]
      simp only [List.length_map, List.length_singleton]
      refine wp_tt (by decide) (wp_dec (by unfold bigN; omega) (wp_tt (by decide) ?_))
      have := ih (s.1 ++ [BitVec.ofNat 32 ((x + y + s.2) % B)], (x + y + s.2) / 4294967296) ⟨by simp [h1], nv_step h1 h2 (by rw [ofNat_lt hm, hd]), by rw [hc]⟩
      simpa using this)
    (max a.length b.length + 3) 0 ([], 0) (by omega) (by omega) ⟨rfl, by simp [Nat.mod_one], by simp [Nat.mod_one]⟩
  exact key
/-- Are two lists the same? -/
theorem eq_loop {α : Type} [DecidableEq α] {P : Program} {md : Nat → FMode} (f : α → D) (hf : ∀ x y, (f x).toInt = (f y).toInt → x = y) (a b : List α) (hlen : a.length = b.length) (hbig : a.length ≤ 9223372036854775807) (L : Nat → Int → Tree)
    (hL : ∀ m i, L (m + 1) i = .br (decide (i < ((a.map f).length : Int))) (.br (decide (0 ≤ i)) (.br (decide (i < ((a.map f).length : Int))) (.br (decide (0 ≤ i)) (.br (decide (i < ((b.map f).length : Int)))
      (.br ((((a.map f).getD (Int.toNat i) D.nil).toInt) != (((b.map f).getD (Int.toNat i) D.nil).toInt)) (.ret [D.bool false]) (L m (IntKind.wrap .i64 (i + 1)))) .fail) .fail) .fail) .fail) (.ret [D.bool true])) :
    (L (a.length + 1) 0).wp P md (fun zs => zs = [.bool (decide (a = b))]) := by
  have key := loop_up (P := P) (md := md) a.length (fun m k (_ : Unit) => L m (k : Int)) (fun _ _ => [.bool (decide (a = b))]) (fun k _ => a.take k = b.take k)
    (fun m s h => by
      simp only [hL, List.length_map]
      refine wp_ndec (by omega) (wp_ret ?_)
      rw [List.take_of_length_le (Nat.le_refl _), List.take_of_length_le (by omega)] at h
      rw [decide_eq_true h])
    (fun m k s hk h ih => by
      have ha : a[k]? = some a[k] := List.getElem?_eq_getElem _
      have hb : b[k]? = some (b[k]'(by omega)) := List.getElem?_eq_getElem _
      simp only [hL, List.length_map, Int.toNat_natCast, getD_map ha, getD_map hb, int_bne]
      refine wp_dec (by omega) (wp_dec (by omega) (wp_dec (by omega) (wp_dec (by omega) (wp_dec (by omega) (wp_decs (fun hne => wp_ret ?_) (fun heq => ?_))))))
      · rw [decide_eq_false]
        rintro rfl
        exact hne rfl
      · rw [wrap_succ (by omega)]
        refine ih () ?_
        have : a[k] = b[k] := hf _ _ (Classical.not_not.1 heq)
        rw [List.take_succ_eq_append_getElem hk, List.take_succ_eq_append_getElem (by omega), h, this])
    (a.length + 1) 0 () (by omega) (by omega) (by simp)
  exact key
theorem dB_inj {k : Nat} (x y : BitVec k) (h : (dB x).toInt = (dB y).toInt) : x = y := BitVec.eq_of_toNat_eq (Int.ofNat.inj h)
theorem dint_inj (x y : Int) (h : (D.int x).toInt = (D.int y).toInt) : x = y := h
theorem ref02_Same_sp (a b : List Limb) (ha : a.length ≤ 9223372036854775807) : Sp 46 [dL a, dL b] [.bool (decide (a = b))] := by
  refine sound_ (a.length + 1) (ref02_Same_tree _ _ _) ?_
  simp only [els_dL, List.length_map, int_bne]
  refine wp_decs (fun h => wp_ret ?_) (fun h => ?_)
  · rw [decide_eq_false]; rintro rfl; exact h rfl
  · exact eq_loop dB dB_inj a b (by omega) ha (fun m i => ref02_Same_l4 (a.length + 1) m (dL a) (dL b) i) (fun m i => ref02_Same_l4_succ _ _ _ _ _)
end Go.Proofs.Ytcdjifdllibolaa

set_option maxRecDepth 100000
namespace Go.Proofs.Ytcdjifdllibolaa
/-! scrim/scrimref01.Ints -/
def ref01_Ints_orc : List (Nat × Orc) := [(4, ⟨[(0, some 24), (1, some 24), (5, none)], [], []⟩)]
def ref01_Ints_ps : List Nat := [24, 24]
def ref01_Ints_rs : List ResultVar := [.tmp 4]
def ref01_Ints_ts : List Nat := [4]
noncomputable def ref01_Ints_l4 (n m4 : Nat) (a0 : D) (b1 : D) (i5 : Int) : Tree :=
  evLoop Try.prog md (ev Try.prog md n ref01_Ints_orc (cAt (bodyOf Try.prog 16) [1, 1, 0, 1, 0, 0])) (orcAt ref01_Ints_orc 4) m4 ⟨[.d 24 a0, .d 24 b1, .undef, .undef, .undef, .i .i64 i5, .undef, .undef, .undef, .undef, .undef, .undef, .undef, .undef, .undef, .undef, .undef, .undef, .undef, .undef, .undef, .undef, .undef, .undef, .undef, .undef], [], [], [], []⟩
   (blockK 0 (seqK (joinE Try.prog md (joinAt ref01_Ints_orc (cAt (bodyOf Try.prog 16) [1, 1, 1])) (ev Try.prog md n ref01_Ints_orc (cAt (bodyOf Try.prog 16) [1, 1, 1]))) (retK Try.prog md (md 16) ref01_Ints_ps ref01_Ints_rs ref01_Ints_ts)))
theorem ref01_Ints_l4_succ (n m4 : Nat) (a0 : D) (b1 : D) (i5 : Int) : ref01_Ints_l4 n (m4 + 1) a0 b1 i5 =
 .br (decide (i5 < (a0.els.length : Int))) (.br (decide (0 ≤ i5)) (.br (decide (i5 < (a0.els.length : Int))) (.br (decide (0 ≤ i5)) (.br (decide (i5 < (b1.els.length : Int))) (.br (((a0.els.getD (Int.toNat i5) D.nil).toInt) != ((b1.els.getD (Int.toNat i5) D.nil).toInt)) (.ret [D.bool false])
 (ref01_Ints_l4 n m4 a0 b1 (IntKind.wrap .i64 (i5 + 1)))) .fail) .fail) .fail) .fail)
 (.ret [D.bool true]) := by kernel_rfl
theorem ref01_Ints_tree (n : Nat) (a0 : D) (b1 : D) : evFun Try.prog md ref01_Ints_orc n 16 [] [a0, b1] =
 .br ((a0.els.length : Int) != (b1.els.length : Int)) (.ret [D.bool false])
 (ref01_Ints_l4 n n a0 b1 0) := by kernel_rfl

end Go.Proofs.Ytcdjifdllibolaa

set_option maxRecDepth 100000
namespace Go.Proofs.Ytcdjifdllibolaa

theorem or_bits (a b : Lab) : bits_ .or .u64 (a.toNat : Int) (b.toNat : Int) = ((a ||| b).toNat : Int) := by
  show IntKind.wrap .u64 ((BitVec.ofInt 64 (a.toNat : Int) ||| BitVec.ofInt 64 (b.toNat : Int)).toNat : Int) = _
  have h := (a ||| b).isLt
  rw [show BitVec.ofInt 64 (a.toNat : Int) = a by simp, show BitVec.ofInt 64 (b.toNat : Int) = b by simp]
  exact wrapU64 (Int.natCast_nonneg _) (Int.ofNat_lt.2 h)
end Go.Proofs.Ytcdjifdllibolaa

set_option maxRecDepth 100000
namespace Go.Proofs.Ytcdjifdllibolaa

structure Wh where
  neg : Bool
  mag : List Limb
def dW (w : Wh) : D := .agg [.bool w.neg, dL w.mag]
def zv (w : Wh) : Int := if w.neg then -(nv w.mag : Int) else (nv w.mag : Int)
def wz (z : Int) : Wh := ⟨decide (z < 0), lb z.natAbs⟩
@[simp] theorem dW_0 (w : Wh) : (dW w).fld 0 = .bool w.neg := rfl
@[simp] theorem dW_1 (w : Wh) : (dW w).fld 1 = dL w.mag := rfl
theorem zv_abs (w : Wh) : (zv w).natAbs = nv w.mag := by unfold zv; split <;> omega
theorem zv_wz (z : Int) : zv (wz z) = z := by
  unfold zv wz
  simp only [nv_lb, decide_eq_true_eq]
  split <;> omega
theorem zv_lb (b : Bool) (n : Nat) : zv ⟨b, lb n⟩ = if b then -(n : Int) else (n : Int) := by simp only [zv, nv_lb]
theorem wz_zero : wz 0 = ⟨false, []⟩ := by simp [wz, lb_zero]
theorem wz_of (b : Bool) {n : Nat} (h : n ≠ 0) : wz (if b then -(n : Int) else (n : Int)) = ⟨b, lb n⟩ := by
  cases b <;> simp [wz] <;> omega
theorem wz_zv (w : Wh) : wz (zv w) = if nv w.mag = 0 then ⟨false, []⟩ else ⟨w.neg, lb (nv w.mag)⟩ := by
  split
  · rename_i h
    unfold zv; rw [h]; simp [wz_zero]
  · rename_i h
    unfold zv
    exact wz_of _ h
theorem bool_beq (a b : Bool) : (a == b) = decide (a = b) := by cases a <;> cases b <;> rfl
def inR (z : Int) : Prop := -9223372036854775808 ≤ z ∧ z ≤ 9223372036854775807
instance (z : Int) : Decidable (inR z) := by unfold inR; infer_instance
theorem ref03_Norm_sp (w : Wh) (h : w.mag.length ≤ 1000000) : Sp 47 [dW w] [dW (wz (zv w))] := by
  refine sound_ 0 (ref03_Norm_tree _ _) (wp_call (ref02_Norm_sp w.mag h) ?_)
  simp only [getD_c0, els_dL, List.length_map, int_beq, dW_0, toBool_bool]
  refine wp_decs (fun h => wp_ret ?_) (fun h => wp_ret ?_)
  · have h0 : nv w.mag = 0 := lb_len0.1 (by omega)
    rw [wz_zv, if_pos h0]; rfl
  · have h0 : nv w.mag ≠ 0 := fun hh => h (by rw [hh, lb_zero]; rfl)
    rw [wz_zv, if_neg h0]; rfl
theorem two_limbs {n : Nat} (h : n < 18446744073709551616) : nv [BitVec.ofNat 32 (n % 4294967296), BitVec.ofNat 32 (n / 4294967296)] = n := by
  simp only [nv, nv_nil]
  rw [ofNat_lt (by rw [B_eq]; omega), ofNat_lt (by rw [B_eq]; omega), B_eq]; omega
theorem ref03_Of_sp (z : Int) (h : inR z) : Sp 42 [.int z] [dW (wz z)] := by
  unfold inR at h
  refine sound_ 0 (ref03_Of_tree _ _) ?_
  simp only [toInt_int]
  refine wp_decs (fun h0 => ?_) (fun h0 => ?_)
  · obtain ⟨n, rfl⟩ : ∃ n : Nat, z = n := ⟨z.toNat, by omega⟩
    have e : [D.int (IntKind.wrap .u32 (Int.tmod (n : Int) 4294967296)), D.int (IntKind.wrap .u32 (IntKind.wrap .i64 (Int.tdiv (n : Int) 4294967296)))] = [BitVec.ofNat 32 (n % 4294967296), BitVec.ofNat 32 (n / 4294967296)].map dB := by
      rw [Int.tmod_eq_emod_of_nonneg (by omega), Int.tdiv_eq_ediv_of_nonneg (by omega), show (n : Int) % 4294967296 = ((n % 4294967296 : Nat) : Int) by omega, show (n : Int) / 4294967296 = ((n / 4294967296 : Nat) : Int) by omega,
        wrap64 (by omega) (by omega), wrapU32 (by omega) (by omega), wrapU32 (by omega) (by omega), dB_ofNat (by rw [B_eq]; omega), dB_ofNat (by rw [B_eq]; omega)]; rfl
    rw [e]
    have hv := two_limbs (n := n) (by omega)
    refine wp_tt (by decide) (wp_tt (by decide) (wp_call (ref03_Norm_sp ⟨false, [BitVec.ofNat 32 (n % 4294967296), BitVec.ofNat 32 (n / 4294967296)]⟩ (by simp)) (wp_ret ?_)))
    simp only [getD_c0, zv, hv]; rfl
  · obtain ⟨n, rfl⟩ : ∃ n : Nat, z = -1 - (n : Int) := ⟨(-1 - z).toNat, by omega⟩
    have e : [D.int (IntKind.wrap .u32 (Int.tmod (IntKind.wrap .i64 (-1 - (-1 - (n : Int)))) 4294967296)), D.int (IntKind.wrap .u32 (IntKind.wrap .i64 (Int.tdiv (IntKind.wrap .i64 (-1 - (-1 - (n : Int)))) 4294967296)))] = [BitVec.ofNat 32 (n % 4294967296), BitVec.ofNat 32 (n / 4294967296)].map dB := by
      rw [show (-1 : Int) - (-1 - (n : Int)) = (n : Int) by omega, wrap64 (x := (n : Int)) (by omega) (by omega), Int.tmod_eq_emod_of_nonneg (by omega), Int.tdiv_eq_ediv_of_nonneg (by omega), show (n : Int) % 4294967296 = ((n % 4294967296 : Nat) : Int) by omega, show (n : Int) / 4294967296 = ((n / 4294967296 : Nat) : Int) by omega,
        wrap64 (by omega) (by omega), wrapU32 (by omega) (by omega), wrapU32 (by omega) (by omega), dB_ofNat (by rw [B_eq]; omega), dB_ofNat (by rw [B_eq]; omega)]; rfl
    rw [e]
    have hv := two_limbs (n := n) (by omega)
    have sp := ref02_Add_sp [BitVec.ofNat 32 (n % 4294967296), BitVec.ofNat 32 (n / 4294967296)] [1] (by simp) (by simp)
    rw [hv, show nv [1] = 1 from rfl] at sp
    refine wp_tt (by decide) (wp_tt (by decide) (wp_call sp ?_))
    simp only [getD_c0]
    have hl : (lb (n + 1)).length ≤ 3 := lb_len.2 (by show n + 1 < 79228162514264337593543950336; omega)
    refine wp_call (ref03_Norm_sp ⟨true, lb (n + 1)⟩ (by simp only; omega)) (wp_ret ?_)
    simp only [getD_c0, zv_lb, if_true]
    rw [show -((n + 1 : Nat) : Int) = -1 - (n : Int) by omega]
theorem nat_trim_sp (l : List Limb) (hl : l.length < 9223372036854775807) : Sp 71 [dL l] [dL (lb (nv l))] := by
  refine sound_ (l.length + 1) (nat_trim_tree _ _) ?_
  have := loop_down (P := Try.prog) (md := md) (fun m k (_ : Unit) => nat_trim_l2 (l.length + 1) m (dL l) (k : Int)) (fun _ _ => [dL (lb (nv l))]) (fun k _ => k ≤ l.length ∧ ∀ i, k ≤ i → (hi : i < l.length) → l[i] = 0)
    (fun m s ⟨h1, h2⟩ => by
      simp only [nat_trim_l2_succ, els_dL, List.length_map, List.length_take]
      refine wp_ndec (by omega) (wp_dec (by omega) (wp_dec (by omega) (wp_dec (by omega) (wp_ret ?_))))
      rw [lb_take (k := 0) (by omega) h2 (fun _ h => by omega), dL_take]; rfl)
    (fun m k s ⟨h1, h2⟩ ih => by
      have hk : l[k]? = some l[k] := List.getElem?_eq_getElem _
      simp only [nat_trim_l2_succ, els_dL, List.length_map, List.length_take, wrap_pred k (by omega), Int.toNat_natCast, getD_map hk, toInt_dB, int_beq]
      refine wp_dec (by omega) (wp_dec (by omega) (wp_dec (by omega) (wp_decs (fun h => ?_) (fun h => ?_))))
      · refine ih () ⟨by omega, fun i hi hlt => ?_⟩
        by_cases he : i = k
        · subst he; exact BitVec.eq_of_toNat_eq (by simp; omega)
        · exact h2 i (by omega) hlt
      · refine wp_dec (by omega) (wp_dec (by omega) (wp_dec (by omega) (wp_ret ?_)))
        rw [lb_take (k := k + 1) (by omega) h2 (fun _ _ hc => h (by have hc' : l[k] = 0 := hc; rw [hc']; rfl)), dL_take])
    (l.length + 1) l.length () (by omega) ⟨Nat.le_refl _, fun i h1 h2 => by omega⟩
  simpa using this
theorem nat_Norm_sp (l : List Limb) (hl : l.length ≤ 1000000) : Sp 75 [dL l] [dL (lb (nv l))] := by
  refine sound_ 0 (nat_Norm_tree _ _) (wp_call (nat_trim_sp l (by omega)) ?_)
  have h1 : (lb (nv l)).length ≤ l.length := lb_len.2 (nv_lt l)
  simp only [getD_c0, els_dL, List.length_map, List.length_replicate, Int.toNat_natCast]
  refine wp_dec (by omega) (wp_dec (by omega) (wp_dec (by unfold bigN; omega) (wp_ret ?_)))
  rw [List.take_of_length_le (by simp), List.drop_eq_nil_of_le (by simp), List.append_nil]; rfl
theorem fdiv32 (x : Nat) : Int.fdiv (x : Int) (2 ^ (min (Int.toNat 32) (IntKind.bits .u64))) = ((x / 4294967296 : Nat) : Int) := by
  show Int.fdiv (x : Int) 4294967296 = _
  rw [Int.fdiv_eq_ediv_of_nonneg _ (by omega)]; omega
theorem or_limb {x d : Nat} (hx : x < 4294967296) (hd : d < 4294967296) : bits_ .or .u64 (x : Int) ((d * 4294967296 : Nat) : Int) = ((x + d * 4294967296 : Nat) : Int) := by
  have h := or_bits (BitVec.ofNat 64 x) (BitVec.ofNat 64 (d * 4294967296))
  rw [BitVec.toNat_or, BitVec.toNat_ofNat, BitVec.toNat_ofNat, Nat.mod_eq_of_lt (a := x) (by omega), Nat.mod_eq_of_lt (a := d * 4294967296) (by omega)] at h
  rw [h]
  congr 1
  have := Nat.two_pow_add_eq_or_of_lt (i := 32) (b := x) (by omega) d
  rw [show 2 ^ 32 * d = d * 4294967296 by omega] at this
  rw [Nat.or_comm, ← this]; omega
end Go.Proofs.Ytcdjifdllibolaa

set_option maxRecDepth 100000
namespace Go.Proofs.Ytcdjifdllibolaa
open Go.ChangeShapes Go.WideShapes Go.ChangeAt Go.RowKit

theorem wtypes_at {fs : List Field} {ts : List Nat} (h : fs.map (·.type) = ts) {i t : Nat} (ht : ts[i]? = some t) : ∃ f, fs[i]? = some f ∧ f.type = t := by
  subst h
  simpa [List.getElem?_map, Option.map_eq_some_iff] using ht
section
variable {H : Type} {enc : TypeId × Value → H} {W : World} {sp : Nat → Bool} {held : Bool} {r : Reach} {b0 : Nat} {v : Value} {d : DataW H} {ps : List MemPlace}
end
end Go.Proofs.Ytcdjifdllibolaa

set_option maxRecDepth 100000
namespace Go.Proofs.Ytcdjifdllibolaa
open Go.ChangeShapes Go.WideShapes Go.ChangeAt Go.RowKit

theorem nlen3 {α : Type} {l : List α} (h : l.length = 3) : ∃ a b c, l = [a, b, c] := by
  match l, h with
  | [a, b, c], _ => exact ⟨a, b, c, rfl⟩
theorem nfields_Num : (fieldsOf Try.prog 30).map (fun fs => fs.map (·.type)) = some [4, 28, 28] := by kernel_rfl
theorem nrd_num {w : World} {M : Nat → Prop} {y : D} {c : Nat → Option Value} (h : RdC Try.prog md w M (.ty 30) y c) : ∃ n : Num, y = dN n ∧ n.top.length ≤ maxLen ∧ n.bot.length ≤ maxLen := by
  obtain ⟨fs, hf, ht⟩ := Option.map_eq_some_iff.1 nfields_Num
  obtain ⟨ds, rfl, hl, hh⟩ := rd_struct h hf
  have : fs.length = 3 := by rw [← List.length_map (f := (·.type)), ht]; rfl
  obtain ⟨a, b, c, rfl⟩ := nlen3 (by rw [hl, this])
  obtain ⟨f0, hf0, e0⟩ := wtypes_at ht (i := 0) rfl
  obtain ⟨f1, hf1, e1⟩ := wtypes_at ht (i := 1) rfl
  obtain ⟨f2, hf2, e2⟩ := wtypes_at ht (i := 2) rfl
  obtain ⟨_, h0⟩ := hh 0 f0 a hf0 rfl
  obtain ⟨_, h1⟩ := hh 1 f1 b hf1 rfl
  obtain ⟨_, h2⟩ := hh 2 f2 c hf2 rfl
  rw [e0] at h0; rw [e1] at h1; rw [e2] at h2
  obtain ⟨n, rfl⟩ := rd_bool h0 (by kernel_rfl)
  obtain ⟨t, rfl, l1⟩ := rd_limbs h1 (e := 51) (by kernel_rfl) (by kernel_rfl)
  obtain ⟨t', rfl, l2⟩ := rd_limbs h2 (e := 51) (by kernel_rfl) (by kernel_rfl)
  exact ⟨⟨n, t, t'⟩, rfl, l1, l2⟩
section
variable {H : Type} {enc : TypeId × Value → H} {W : World} {sp : Nat → Bool} {held : Bool} {r : Reach} {b0 : Nat} {v : Value} {d : DataW H} {ps : List MemPlace}
end
end Go.Proofs.Ytcdjifdllibolaa

set_option maxRecDepth 100000
namespace Go.Proofs.Ytcdjifdllibolaa
/-! scrim/scrimref04.Of -/
def ref04_Of_orc : List (Nat × Orc) := []
theorem ref04_Of_tree (n : Nat) (nn0 : D) : evFun Try.prog md ref04_Of_orc n 32 [] [nn0] =
 .call 42 [] [D.int nn0.toInt] fun yy1 =>
 .call 41 [] [yy1.getD 0 D.nil] fun yy2 =>
 .ret [yy2.getD 0 D.nil] := by kernel_rfl

/-! scrim/ratio.Same -/
def ratio_Same_orc : List (Nat × Orc) := []
theorem ratio_Same_tree (n : Nat) (a0 : D) (b1 : D) : evFun Try.prog md ratio_Same_orc n 35 [] [a0, b1] =
 .br (((a0.fld 0).toBool) == ((b1.fld 0).toBool)) (.call 45 [] [a0.fld 1, b1.fld 1] fun yy1 =>
 .br ((yy1.getD 0 D.nil).toBool) (.call 45 [] [a0.fld 2, b1.fld 2] fun yy2 =>
 .ret [D.bool ((yy2.getD 0 D.nil).toBool)])
 (.ret [D.bool false]))
 (.ret [D.bool false]) := by kernel_rfl

/-! scrim/scrimref04.Same -/
def ref04_Same_orc : List (Nat × Orc) := []
theorem ref04_Same_tree (n : Nat) (a0 : D) (b1 : D) : evFun Try.prog md ref04_Same_orc n 38 [] [a0, b1] =
 .br (((a0.fld 0).toBool) == ((b1.fld 0).toBool)) (.call 46 [] [a0.fld 1, b1.fld 1] fun yy1 =>
 .br ((yy1.getD 0 D.nil).toBool) (.call 46 [] [a0.fld 2, b1.fld 2] fun yy2 =>
 .ret [D.bool ((yy2.getD 0 D.nil).toBool)])
 (.ret [D.bool false]))
 (.ret [D.bool false]) := by kernel_rfl

/-! scrim/scrimref04.Whole -/
def ref04_Whole_orc : List (Nat × Orc) := []
theorem ref04_Whole_tree (n : Nat) (nn0 : D) : evFun Try.prog md ref04_Whole_orc n 41 [] [nn0] =
 .call 47 [] [nn0] fun yy1 =>
 .ret [D.agg [D.bool (((yy1.getD 0 D.nil).fld 0).toBool), (yy1.getD 0 D.nil).fld 1, D.sl [D.int 1]]] := by kernel_rfl

/-! scrim/ratio.Right -/
def ratio_Right_orc : List (Nat × Orc) := []
theorem ratio_Right_tree (n : Nat) (a0 : D) : evFun Try.prog md ratio_Right_orc n 49 [] [a0] =
 .call 65 [] [a0.fld 1] fun yy1 =>
 .br (!((yy1.getD 0 D.nil).toBool)) (.ret [D.bool false])
 (.call 65 [] [a0.fld 2] fun yy2 =>
 .br (!((yy2.getD 0 D.nil).toBool)) (.ret [D.bool false])
 (.br ((((a0.fld 2).els).length : Int) == 0) (.ret [D.bool false])
 (.br ((((a0.fld 1).els).length : Int) == 0) (.br ((a0.fld 0).toBool) (.ret [D.bool false])
 (.call 66 [] [a0.fld 2] fun yy3 =>
 .br ((yy3.getD 0 D.nil).toBool) (.ret [D.bool true])
 (.call 67 [] [a0.fld 1, a0.fld 2] fun yy4 =>
 .call 66 [] [yy4.getD 0 D.nil] fun yy5 =>
 .ret [D.bool ((yy5.getD 0 D.nil).toBool)])))
 (.call 66 [] [a0.fld 2] fun yy6 =>
 .br ((yy6.getD 0 D.nil).toBool) (.ret [D.bool true])
 (.call 67 [] [a0.fld 1, a0.fld 2] fun yy7 =>
 .call 66 [] [yy7.getD 0 D.nil] fun yy8 =>
 .ret [D.bool ((yy8.getD 0 D.nil).toBool)]))))) := by kernel_rfl

/-! scrim/ratio.trimmed -/
def ratio_trimmed_orc : List (Nat × Orc) := []
theorem ratio_trimmed_tree (n : Nat) (a0 : D) : evFun Try.prog md ratio_trimmed_orc n 65 [] [a0] =
 .br (decide ((a0.els.length : Int) ≤ 32)) (.br ((a0.els.length : Int) == 0) (.ret [D.bool true])
 (.br (decide (0 ≤ IntKind.wrap .i64 ((a0.els.length : Int) - 1))) (.br (decide (IntKind.wrap .i64 ((a0.els.length : Int) - 1) < (a0.els.length : Int))) (.ret [D.bool (((a0.els.getD (Int.toNat (IntKind.wrap .i64 ((a0.els.length : Int) - 1))) D.nil).toInt) != 0)]) .fail) .fail))
 (.ret [D.bool false]) := by kernel_rfl

/-! scrim/ratio.isOne -/
def ratio_isOne_orc : List (Nat × Orc) := []
theorem ratio_isOne_tree (n : Nat) (a0 : D) : evFun Try.prog md ratio_isOne_orc n 66 [] [a0] =
 .br ((a0.els.length : Int) == 1) (.br (decide (0 ≤ 0)) (.br (decide (0 < (a0.els.length : Int))) (.ret [D.bool (((a0.els.getD (Int.toNat 0) D.nil).toInt) == 1)]) .fail) .fail)
 (.ret [D.bool false]) := by kernel_rfl

end Go.Proofs.Ytcdjifdllibolaa

set_option maxRecDepth 100000
namespace Go.Proofs.Ytcdjifdllibolaa
/-! slices.Contains[[]int,int] -/
def slices_Contains_int_int_orc : List (Nat × Orc) := []
theorem slices_Contains_int_int_tree (n : Nat) (s0 : D) (v1 : D) : evFun Try.prog md slices_Contains_int_int_orc n 29 [] [s0, v1] =
 .call 40 [] [s0, D.int v1.toInt] fun yy1 =>
 .ret [D.bool (decide (0 ≤ ((yy1.getD 0 D.nil).toInt)))] := by kernel_rfl

/-! slices.Equal[[]int,int] -/
def slices_Equal_int_int_orc : List (Nat × Orc) := [(4, ⟨[(0, some 24), (1, some 24), (12, none), (13, none)], [], []⟩)]
def slices_Equal_int_int_ps : List Nat := [24, 24]
def slices_Equal_int_int_rs : List ResultVar := [.tmp 4]
def slices_Equal_int_int_ts : List Nat := [4]
noncomputable def slices_Equal_int_int_l4 (n m4 : Nat) (s10 : D) (s21 : D) (t12 : Int) (t13 : Int) : Tree :=
  evLoop Try.prog md (ev Try.prog md n slices_Equal_int_int_orc (cAt (bodyOf Try.prog 36) [1, 1, 0, 1, 0, 0])) (orcAt slices_Equal_int_int_orc 4) m4 ⟨[.d 24 s10, .d 24 s21, .undef, .undef, .undef, .undef, .undef, .undef, .undef, .undef, .undef, .undef, .i .i64 t12, .i .i64 t13, .undef, .undef, .undef, .undef, .undef, .undef, .undef, .undef, .undef, .undef, .undef, .undef], [], [], [], []⟩
   (blockK 0 (seqK (joinE Try.prog md (joinAt slices_Equal_int_int_orc (cAt (bodyOf Try.prog 36) [1, 1, 1])) (ev Try.prog md n slices_Equal_int_int_orc (cAt (bodyOf Try.prog 36) [1, 1, 1]))) (retK Try.prog md (md 36) slices_Equal_int_int_ps slices_Equal_int_int_rs slices_Equal_int_int_ts)))
theorem slices_Equal_int_int_l4_succ (n m4 : Nat) (s10 : D) (s21 : D) (t12 : Int) (t13 : Int) : slices_Equal_int_int_l4 n (m4 + 1) s10 s21 t12 t13 =
 .br (decide (t13 < t12)) (.br (decide (0 ≤ t13)) (.br (decide (t13 < (s10.els.length : Int))) (.br (decide (0 ≤ t13)) (.br (decide (t13 < (s21.els.length : Int))) (.br (((s10.els.getD (Int.toNat t13) D.nil).toInt) != ((s21.els.getD (Int.toNat t13) D.nil).toInt)) (.ret [D.bool false])
 (slices_Equal_int_int_l4 n m4 s10 s21 t12 (IntKind.wrap .i64 (t13 + 1)))) .fail) .fail) .fail) .fail)
 (.ret [D.bool true]) := by kernel_rfl
theorem slices_Equal_int_int_tree (n : Nat) (s10 : D) (s21 : D) : evFun Try.prog md slices_Equal_int_int_orc n 36 [] [s10, s21] =
 .br ((s10.els.length : Int) != (s21.els.length : Int)) (.ret [D.bool false])
 (slices_Equal_int_int_l4 n n s10 s21 (s10.els.length : Int) 0) := by kernel_rfl

/-! slices.EqualFunc[[]scrim/api.Expr,[]scrim/api.Expr,scrim/api.Expr,scrim/api.Expr] -/
def slices_EqualFunc_api_Expr_api_Expr_api_Expr_api_Expr_orc : List (Nat × Orc) := [(4, ⟨[(1, some 31), (2, some 36), (15, some 31), (16, none), (17, none)], [], []⟩)]
def slices_EqualFunc_api_Expr_api_Expr_api_Expr_api_Expr_ps : List Nat := [31, 31, 36]
def slices_EqualFunc_api_Expr_api_Expr_api_Expr_api_Expr_rs : List ResultVar := [.tmp 6]
def slices_EqualFunc_api_Expr_api_Expr_api_Expr_api_Expr_ts : List Nat := [4]
noncomputable def slices_EqualFunc_api_Expr_api_Expr_api_Expr_api_Expr_l4 (n m4 : Nat) (s21 : D) (eq2 : D) (t15 : D) (t16 : Int) (t17 : Int) : Tree :=
  evLoop Try.prog md (ev Try.prog md n slices_EqualFunc_api_Expr_api_Expr_api_Expr_api_Expr_orc (cAt (bodyOf Try.prog 37) [1, 1, 0, 1, 0, 0])) (orcAt slices_EqualFunc_api_Expr_api_Expr_api_Expr_api_Expr_orc 4) m4 ⟨[.undef, .d 31 s21, .d 36 eq2, .undef, .undef, .undef, .undef, .undef, .undef, .undef, .undef, .undef, .undef, .undef, .undef, .d 31 t15, .i .i64 t16, .i .i64 t17, .undef, .undef, .undef, .undef, .undef, .undef, .undef, .undef, .undef, .undef, .undef, .undef, .undef, .undef], [], [], [], []⟩
   (blockK 0 (seqK (joinE Try.prog md (joinAt slices_EqualFunc_api_Expr_api_Expr_api_Expr_api_Expr_orc (cAt (bodyOf Try.prog 37) [1, 1, 1])) (ev Try.prog md n slices_EqualFunc_api_Expr_api_Expr_api_Expr_api_Expr_orc (cAt (bodyOf Try.prog 37) [1, 1, 1]))) (retK Try.prog md (md 37) slices_EqualFunc_api_Expr_api_Expr_api_Expr_api_Expr_ps slices_EqualFunc_api_Expr_api_Expr_api_Expr_api_Expr_rs slices_EqualFunc_api_Expr_api_Expr_api_Expr_api_Expr_ts)))
theorem slices_EqualFunc_api_Expr_api_Expr_api_Expr_api_Expr_l4_succ_tree_Same (n m4 : Nat) (s21 : D)  (t15 : D) (t16 : Int) (t17 : Int) : slices_EqualFunc_api_Expr_api_Expr_api_Expr_api_Expr_l4 n (m4 + 1) s21 (D.fn 26 [] []) t15 t16 t17 =
 .br (decide (t17 < t16)) (.br (decide (0 ≤ t17)) (.br (decide (t17 < (t15.els.length : Int))) (.br (decide (0 ≤ t17)) (.br (decide (t17 < (s21.els.length : Int))) (.call (D.fn 26 [] []).fnId (D.fn 26 [] []).fnCts ([t15.els.getD (Int.toNat t17) D.nil, s21.els.getD (Int.toNat t17) D.nil] ++ (D.fn 26 [] []).fnDs) fun yy1 =>
 .br (!((yy1.getD 0 D.nil).toBool)) (.ret [D.bool false])
 (slices_EqualFunc_api_Expr_api_Expr_api_Expr_api_Expr_l4 n m4 s21 (D.fn 26 [] []) t15 t16 (IntKind.wrap .i64 (t17 + 1)))) .fail) .fail) .fail) .fail)
 (.ret [D.bool true]) := by kernel_rfl
theorem slices_EqualFunc_api_Expr_api_Expr_api_Expr_api_Expr_tree_tree_Same (n : Nat) (s10 : D) (s21 : D)  : evFun Try.prog md slices_EqualFunc_api_Expr_api_Expr_api_Expr_api_Expr_orc n 37 [] [s10, s21, (D.fn 26 [] [])] =
 .br ((s10.els.length : Int) != (s21.els.length : Int)) (.ret [D.bool false])
 (slices_EqualFunc_api_Expr_api_Expr_api_Expr_api_Expr_l4 n n s21 (D.fn 26 [] []) s10 (s10.els.length : Int) 0) := by kernel_rfl

/-! slices.Index[[]int,int] -/
def slices_Index_int_int_orc : List (Nat × Orc) := [(2, ⟨[(0, some 24), (1, none), (7, none), (8, none)], [], []⟩)]
def slices_Index_int_int_ps : List Nat := [24, 3]
def slices_Index_int_int_rs : List ResultVar := [.tmp 4]
def slices_Index_int_int_ts : List Nat := [3]
noncomputable def slices_Index_int_int_l2 (n m2 : Nat) (s0 : D) (v1 : Int) (t7 : Int) (t8 : Int) : Tree :=
  evLoop Try.prog md (ev Try.prog md n slices_Index_int_int_orc (cAt (bodyOf Try.prog 40) [1, 0, 1, 0, 0])) (orcAt slices_Index_int_int_orc 2) m2 ⟨[.d 24 s0, .i .i64 v1, .undef, .undef, .undef, .undef, .undef, .i .i64 t7, .i .i64 t8, .undef, .undef, .undef, .undef, .undef, .undef, .undef, .undef, .undef, .undef], [], [], [], []⟩
   (blockK 0 (seqK (joinE Try.prog md (joinAt slices_Index_int_int_orc (cAt (bodyOf Try.prog 40) [1, 1])) (ev Try.prog md n slices_Index_int_int_orc (cAt (bodyOf Try.prog 40) [1, 1]))) (retK Try.prog md (md 40) slices_Index_int_int_ps slices_Index_int_int_rs slices_Index_int_int_ts)))
theorem slices_Index_int_int_l2_succ (n m2 : Nat) (s0 : D) (v1 : Int) (t7 : Int) (t8 : Int) : slices_Index_int_int_l2 n (m2 + 1) s0 v1 t7 t8 =
 .br (decide (t8 < t7)) (.br (decide (0 ≤ t8)) (.br (decide (t8 < (s0.els.length : Int))) (.br (v1 == ((s0.els.getD (Int.toNat t8) D.nil).toInt)) (.ret [D.int t8])
 (slices_Index_int_int_l2 n m2 s0 v1 t7 (IntKind.wrap .i64 (t8 + 1)))) .fail) .fail)
 (.ret [D.int (-1)]) := by kernel_rfl
theorem slices_Index_int_int_tree (n : Nat) (s0 : D) (v1 : D) : evFun Try.prog md slices_Index_int_int_orc n 40 [] [s0, v1] =
 slices_Index_int_int_l2 n n s0 v1.toInt (s0.els.length : Int) 0 := by kernel_rfl

/-! slices.Equal[[]uint32,uint32] -/
def slices_Equal_uint32_uint32_orc : List (Nat × Orc) := [(4, ⟨[(0, some 28), (1, some 28), (12, none), (13, none)], [], []⟩)]
def slices_Equal_uint32_uint32_ps : List Nat := [28, 28]
def slices_Equal_uint32_uint32_rs : List ResultVar := [.tmp 4]
def slices_Equal_uint32_uint32_ts : List Nat := [4]
noncomputable def slices_Equal_uint32_uint32_l4 (n m4 : Nat) (s10 : D) (s21 : D) (t12 : Int) (t13 : Int) : Tree :=
  evLoop Try.prog md (ev Try.prog md n slices_Equal_uint32_uint32_orc (cAt (bodyOf Try.prog 45) [1, 1, 0, 1, 0, 0])) (orcAt slices_Equal_uint32_uint32_orc 4) m4 ⟨[.d 28 s10, .d 28 s21, .undef, .undef, .undef, .undef, .undef, .undef, .undef, .undef, .undef, .undef, .i .i64 t12, .i .i64 t13, .undef, .undef, .undef, .undef, .undef, .undef, .undef, .undef, .undef, .undef, .undef, .undef], [], [], [], []⟩
   (blockK 0 (seqK (joinE Try.prog md (joinAt slices_Equal_uint32_uint32_orc (cAt (bodyOf Try.prog 45) [1, 1, 1])) (ev Try.prog md n slices_Equal_uint32_uint32_orc (cAt (bodyOf Try.prog 45) [1, 1, 1]))) (retK Try.prog md (md 45) slices_Equal_uint32_uint32_ps slices_Equal_uint32_uint32_rs slices_Equal_uint32_uint32_ts)))
theorem slices_Equal_uint32_uint32_l4_succ (n m4 : Nat) (s10 : D) (s21 : D) (t12 : Int) (t13 : Int) : slices_Equal_uint32_uint32_l4 n (m4 + 1) s10 s21 t12 t13 =
 .br (decide (t13 < t12)) (.br (decide (0 ≤ t13)) (.br (decide (t13 < (s10.els.length : Int))) (.br (decide (0 ≤ t13)) (.br (decide (t13 < (s21.els.length : Int))) (.br (((s10.els.getD (Int.toNat t13) D.nil).toInt) != ((s21.els.getD (Int.toNat t13) D.nil).toInt)) (.ret [D.bool false])
 (slices_Equal_uint32_uint32_l4 n m4 s10 s21 t12 (IntKind.wrap .i64 (t13 + 1)))) .fail) .fail) .fail) .fail)
 (.ret [D.bool true]) := by kernel_rfl
theorem slices_Equal_uint32_uint32_tree (n : Nat) (s10 : D) (s21 : D) : evFun Try.prog md slices_Equal_uint32_uint32_orc n 45 [] [s10, s21] =
 .br ((s10.els.length : Int) != (s21.els.length : Int)) (.ret [D.bool false])
 (slices_Equal_uint32_uint32_l4 n n s10 s21 (s10.els.length : Int) 0) := by kernel_rfl

/-! slices.ContainsFunc[[]int,int] -/
def slices_ContainsFunc_int_int_orc : List (Nat × Orc) := []
theorem slices_ContainsFunc_int_int_tree_tree_held_1 (n : Nat) (s0 : D)  : evFun Try.prog md slices_ContainsFunc_int_int_orc n 50 [] [s0, (D.fn 51 [] [])] =
 .call 68 [] [s0, (D.fn 51 [] [])] fun yy1 =>
 .ret [D.bool (decide (0 ≤ ((yy1.getD 0 D.nil).toInt)))] := by kernel_rfl

/-! slices.IndexFunc[[]int,int] -/
def slices_IndexFunc_int_int_orc : List (Nat × Orc) := [(2, ⟨[(0, some 24), (1, some 22), (7, none), (8, none)], [], []⟩)]
def slices_IndexFunc_int_int_ps : List Nat := [24, 22]
def slices_IndexFunc_int_int_rs : List ResultVar := [.tmp 4]
def slices_IndexFunc_int_int_ts : List Nat := [3]
noncomputable def slices_IndexFunc_int_int_l2 (n m2 : Nat) (s0 : D) (f1 : D) (t7 : Int) (t8 : Int) : Tree :=
  evLoop Try.prog md (ev Try.prog md n slices_IndexFunc_int_int_orc (cAt (bodyOf Try.prog 68) [1, 0, 1, 0, 0])) (orcAt slices_IndexFunc_int_int_orc 2) m2 ⟨[.d 24 s0, .d 22 f1, .undef, .undef, .undef, .undef, .undef, .i .i64 t7, .i .i64 t8, .undef, .undef, .undef, .undef, .undef, .undef, .undef, .undef, .undef, .undef], [], [], [], []⟩
   (blockK 0 (seqK (joinE Try.prog md (joinAt slices_IndexFunc_int_int_orc (cAt (bodyOf Try.prog 68) [1, 1])) (ev Try.prog md n slices_IndexFunc_int_int_orc (cAt (bodyOf Try.prog 68) [1, 1]))) (retK Try.prog md (md 68) slices_IndexFunc_int_int_ps slices_IndexFunc_int_int_rs slices_IndexFunc_int_int_ts)))
theorem slices_IndexFunc_int_int_l2_succ_tree_held_1 (n m2 : Nat) (s0 : D)  (t7 : Int) (t8 : Int) : slices_IndexFunc_int_int_l2 n (m2 + 1) s0 (D.fn 51 [] []) t7 t8 =
 .br (decide (t8 < t7)) (.br (decide (0 ≤ t8)) (.br (decide (t8 < (s0.els.length : Int))) (.call (D.fn 51 [] []).fnId (D.fn 51 [] []).fnCts ([D.int ((s0.els.getD (Int.toNat t8) D.nil).toInt)] ++ (D.fn 51 [] []).fnDs) fun yy1 =>
 .br ((yy1.getD 0 D.nil).toBool) (.ret [D.int t8])
 (slices_IndexFunc_int_int_l2 n m2 s0 (D.fn 51 [] []) t7 (IntKind.wrap .i64 (t8 + 1)))) .fail) .fail)
 (.ret [D.int (-1)]) := by kernel_rfl
theorem slices_IndexFunc_int_int_tree_tree_held_1 (n : Nat) (s0 : D)  : evFun Try.prog md slices_IndexFunc_int_int_orc n 68 [] [s0, (D.fn 51 [] [])] =
 slices_IndexFunc_int_int_l2 n n s0 (D.fn 51 [] []) (s0.els.length : Int) 0 := by kernel_rfl

/-! slices.ContainsFunc[[]scrim/api.Expr,scrim/api.Expr] -/
def slices_ContainsFunc_api_Expr_api_Expr_orc : List (Nat × Orc) := []
theorem slices_ContainsFunc_api_Expr_api_Expr_tree_tree_each_1 (n : Nat) (s0 : D) (f1_c0 : D) : evFun Try.prog md slices_ContainsFunc_api_Expr_api_Expr_orc n 69 [] [s0, (D.fn 70 [.ref 34] [f1_c0])] =
 .call 76 [] [s0, (D.fn 70 [.ref 34] [f1_c0])] fun yy1 =>
 .ret [D.bool (decide (0 ≤ ((yy1.getD 0 D.nil).toInt)))] := by kernel_rfl

/-! slices.IndexFunc[[]scrim/api.Expr,scrim/api.Expr] -/
def slices_IndexFunc_api_Expr_api_Expr_orc : List (Nat × Orc) := [(2, ⟨[(0, some 31), (1, some 34), (7, none), (8, none)], [], []⟩)]
def slices_IndexFunc_api_Expr_api_Expr_ps : List Nat := [31, 34]
def slices_IndexFunc_api_Expr_api_Expr_rs : List ResultVar := [.tmp 4]
def slices_IndexFunc_api_Expr_api_Expr_ts : List Nat := [3]
noncomputable def slices_IndexFunc_api_Expr_api_Expr_l2 (n m2 : Nat) (s0 : D) (f1 : D) (t7 : Int) (t8 : Int) : Tree :=
  evLoop Try.prog md (ev Try.prog md n slices_IndexFunc_api_Expr_api_Expr_orc (cAt (bodyOf Try.prog 76) [1, 0, 1, 0, 0])) (orcAt slices_IndexFunc_api_Expr_api_Expr_orc 2) m2 ⟨[.d 31 s0, .d 34 f1, .undef, .undef, .undef, .undef, .undef, .i .i64 t7, .i .i64 t8, .undef, .undef, .undef, .undef, .undef, .undef, .undef, .undef, .undef, .undef], [], [], [], []⟩
   (blockK 0 (seqK (joinE Try.prog md (joinAt slices_IndexFunc_api_Expr_api_Expr_orc (cAt (bodyOf Try.prog 76) [1, 1])) (ev Try.prog md n slices_IndexFunc_api_Expr_api_Expr_orc (cAt (bodyOf Try.prog 76) [1, 1]))) (retK Try.prog md (md 76) slices_IndexFunc_api_Expr_api_Expr_ps slices_IndexFunc_api_Expr_api_Expr_rs slices_IndexFunc_api_Expr_api_Expr_ts)))
theorem slices_IndexFunc_api_Expr_api_Expr_l2_succ_tree_each_1 (n m2 : Nat) (s0 : D) (f1_c0 : D) (t7 : Int) (t8 : Int) : slices_IndexFunc_api_Expr_api_Expr_l2 n (m2 + 1) s0 (D.fn 70 [.ref 34] [f1_c0]) t7 t8 =
 .br (decide (t8 < t7)) (.br (decide (0 ≤ t8)) (.br (decide (t8 < (s0.els.length : Int))) (.call (D.fn 70 [.ref 34] [f1_c0]).fnId (D.fn 70 [.ref 34] [f1_c0]).fnCts ([s0.els.getD (Int.toNat t8) D.nil] ++ (D.fn 70 [.ref 34] [f1_c0]).fnDs) fun yy1 =>
 .br ((yy1.getD 0 D.nil).toBool) (.ret [D.int t8])
 (slices_IndexFunc_api_Expr_api_Expr_l2 n m2 s0 (D.fn 70 [.ref 34] [f1_c0]) t7 (IntKind.wrap .i64 (t8 + 1)))) .fail) .fail)
 (.ret [D.int (-1)]) := by kernel_rfl
theorem slices_IndexFunc_api_Expr_api_Expr_tree_tree_each_1 (n : Nat) (s0 : D) (f1_c0 : D) : evFun Try.prog md slices_IndexFunc_api_Expr_api_Expr_orc n 76 [] [s0, (D.fn 70 [.ref 34] [f1_c0])] =
 slices_IndexFunc_api_Expr_api_Expr_l2 n n s0 (D.fn 70 [.ref 34] [f1_c0]) (s0.els.length : Int) 0 := by kernel_rfl

end Go.Proofs.Ytcdjifdllibolaa

set_option maxRecDepth 100000
namespace Go.Proofs.Ytcdjifdllibolaa

def numT (n : Num) : Int := zv ⟨n.neg, n.top⟩
def numB (n : Num) : Int := (nv n.bot : Int)
def ofZ (z : Int) : Num := ⟨decide (z < 0), lb z.natAbs, [1]⟩
/-- In lowest terms; an error. -/
def mkR (p q : Int) : Num × Int :=
  if q = 0 then (.zero, 3)
  else if 32 < (lb (p.natAbs / Nat.gcd p.natAbs q.natAbs)).length ∨ 32 < (lb (q.natAbs / Nat.gcd p.natAbs q.natAbs)).length then (.zero, 7)
  else (⟨decide (0 < (lb (p.natAbs / Nat.gcd p.natAbs q.natAbs)).length) && !(decide (p < 0) == decide (q < 0)), lb (p.natAbs / Nat.gcd p.natAbs q.natAbs), lb (q.natAbs / Nat.gcd p.natAbs q.natAbs)⟩, 0)
def rightN (n : Num) : Bool := decide (n.top.length ≤ 32 ∧ n.bot.length ≤ 32 ∧ mkR (numT n) (numB n) = (n, 0))
theorem one_iff (l : List Limb) : (l = [1]) ↔ (l.length = 1 ∧ ∀ h : 0 < l.length, l[0].toNat = 1) := by
  constructor
  · rintro rfl; exact ⟨rfl, fun _ => rfl⟩
  · rintro ⟨h1, h2⟩
    match l, h1 with
    | [x], _ => have := h2 (by simp); simp at this; exact congrArg (· :: []) (BitVec.eq_of_toNat_eq (by simpa using this))
theorem one_tree {P : Program} {md : Nat → FMode} (l : List Limb) : (Tree.br (((l.map dB).length : Int) == 1) (.br (decide (0 ≤ (0 : Int))) (.br (decide (0 < ((l.map dB).length : Int))) (.ret [D.bool ((((l.map dB).getD (Int.toNat 0) D.nil).toInt) == 1)]) .fail) .fail) (.ret [D.bool false])).wp P md (fun zs => zs = [.bool (decide (l = [1]))]) := by
  simp only [List.length_map, int_beq]
  refine wp_decs (fun h => wp_dec (by omega) (wp_dec (by omega) (wp_ret ?_))) (fun h => wp_ret ?_)
  · have hg : l[0]? = some (l[0]'(by omega)) := List.getElem?_eq_getElem _
    rw [show Int.toNat 0 = 0 from rfl, getD_map hg, toInt_dB]
    congr 2
    rw [decide_eq_decide, one_iff]
    refine ⟨fun hh => ⟨by omega, fun _ => by omega⟩, fun hh => by have := hh.2 (by omega); omega⟩
  · rw [decide_eq_false]; rintro rfl; exact h rfl
theorem ratio_isOne_sp (l : List Limb) : Sp 66 [dL l] [.bool (decide (l = [1]))] := by
  refine sound_ 0 (ratio_isOne_tree _ _) ?_
  simp only [els_dL]
  exact one_tree l
theorem ref04_Whole_sp (w : Wh) (h : w.mag.length ≤ 1000000) : Sp 41 [dW w] [dN (ofZ (zv w))] := by
  refine sound_ 0 (ref04_Whole_tree _ _) (wp_call (ref03_Norm_sp w h) (wp_ret rfl))
theorem ref04_Of_sp (z : Int) (h : inR z) : Sp 32 [.int z] [dN (ofZ z)] := by
  refine sound_ 0 (ref04_Of_tree _ _) (wp_call (ref03_Of_sp z h) ?_)
  have hl : (wz z).mag.length ≤ 2 := lb_len.2 (by unfold inR at h; show z.natAbs < 18446744073709551616; omega)
  refine wp_call (ref04_Whole_sp (wz z) (by omega)) (wp_ret ?_)
  rw [zv_wz]; rfl
theorem num_eq (a b : Num) : (a = b) ↔ (a.neg = b.neg ∧ a.top = b.top ∧ a.bot = b.bot) := by
  cases a; cases b; simp
theorem ref04_Same_sp (a b : Num) (h1 : a.top.length ≤ 9223372036854775807) (h2 : a.bot.length ≤ 9223372036854775807) : Sp 38 [dN a, dN b] [.bool (decide (a = b))] := by
  refine sound_ 0 (ref04_Same_tree _ _ _) ?_
  simp only [dN_0, dN_1, dN_2, toBool_bool, bool_beq]
  refine wp_decs (fun e1 => wp_call (ref02_Same_sp a.top b.top h1) ?_) (fun e1 => wp_ret ?_)
  · simp only [getD_c0, toBool_bool]
    refine wp_decs (fun e2 => wp_call (ref02_Same_sp a.bot b.bot h2) (wp_ret ?_)) (fun e2 => wp_ret ?_)
    · simp only [getD_c0, toBool_bool]
      congr 2
      rw [decide_eq_decide, num_eq]; simp [e1, e2]
    · rw [decide_eq_false]; rintro rfl; exact e2 rfl
  · rw [decide_eq_false]; rintro rfl; exact e1 rfl
theorem slices_EqualU_sp (a b : List Limb) (ha : a.length ≤ 9223372036854775807) : Sp 45 [dL a, dL b] [.bool (decide (a = b))] := by
  refine sound_ (a.length + 1) (slices_Equal_uint32_uint32_tree _ _ _) ?_
  simp only [els_dL, List.length_map, int_bne]
  refine wp_decs (fun h => wp_ret ?_) (fun h => ?_)
  · rw [decide_eq_false]; rintro rfl; exact h rfl
  · refine eq_loop dB dB_inj a b (by omega) ha (fun m i => slices_Equal_uint32_uint32_l4 (a.length + 1) m (dL a) (dL b) (a.length : Int) i) (fun m i => ?_)
    rw [slices_Equal_uint32_uint32_l4_succ]
    simp only [els_dL, List.length_map]
theorem slices_EqualI_sp (a b : List Int) (ha : a.length ≤ 9223372036854775807) : Sp 36 [dI a, dI b] [.bool (decide (a = b))] := by
  refine sound_ (a.length + 1) (slices_Equal_int_int_tree _ _ _) ?_
  simp only [els_dI, List.length_map, int_bne]
  refine wp_decs (fun h => wp_ret ?_) (fun h => ?_)
  · rw [decide_eq_false]; rintro rfl; exact h rfl
  · refine eq_loop D.int dint_inj a b (by omega) ha (fun m i => slices_Equal_int_int_l4 (a.length + 1) m (dI a) (dI b) (a.length : Int) i) (fun m i => ?_)
    rw [slices_Equal_int_int_l4_succ]
    simp only [els_dI, List.length_map]
theorem ratio_Same_sp (a b : Num) (h1 : a.top.length ≤ 9223372036854775807) (h2 : a.bot.length ≤ 9223372036854775807) : Sp 35 [dN a, dN b] [.bool (decide (a = b))] := by
  refine sound_ 0 (ratio_Same_tree _ _ _) ?_
  simp only [dN_0, dN_1, dN_2, toBool_bool, bool_beq]
  refine wp_decs (fun e1 => wp_call (slices_EqualU_sp a.top b.top h1) ?_) (fun e1 => wp_ret ?_)
  · simp only [getD_c0, toBool_bool]
    refine wp_decs (fun e2 => wp_call (slices_EqualU_sp a.bot b.bot h2) (wp_ret ?_)) (fun e2 => wp_ret ?_)
    · simp only [getD_c0, toBool_bool]
      congr 2
      rw [decide_eq_decide, num_eq]; simp [e1, e2]
    · rw [decide_eq_false]; rintro rfl; exact e2 rfl
  · rw [decide_eq_false]; rintro rfl; exact e1 rfl
end Go.Proofs.Ytcdjifdllibolaa

set_option maxRecDepth 100000
namespace Go.Proofs.Ytcdjifdllibolaa
open Go.ChangeShapes Go.WideShapes Go.ChangeAt Go.RowKit
/-- An expression. -/
inductive Ex1 where
  | mk (kind op : Int) (name : ByteArray) (n : Num) (text : List Int) (kids : List Ex1)
namespace Ex1
def kind : Ex1 → Int | .mk k _ _ _ _ _ => k
def op : Ex1 → Int | .mk _ o _ _ _ _ => o
def name : Ex1 → ByteArray | .mk _ _ s _ _ _ => s
def n : Ex1 → Num | .mk _ _ _ n _ _ => n
def text : Ex1 → List Int | .mk _ _ _ _ t _ => t
def kids : Ex1 → List Ex1 | .mk _ _ _ _ _ k => k
theorem ind {p : Ex1 → Prop} (h : ∀ k o s n t ks, (∀ x ∈ ks, p x) → p (.mk k o s n t ks)) (e : Ex1) : p e :=
  Ex1.rec (motive_1 := p) (motive_2 := fun ks => ∀ x ∈ ks, p x) (fun k o s n t ks ih => h k o s n t ks ih) (fun x hx => by cases hx)
    (fun a as_ h1 h2 x hx => by rcases List.mem_cons.1 hx with rfl | hx; exact h1; exact h2 x hx) e
end Ex1
mutual
def dE : Ex1 → D
  | .mk k o s n t ks => .agg [.int k, .int o, .str s, dN n, dI t, .sl (dEs ks)]
def dEs : List Ex1 → List D
  | [] => []
  | e :: es => dE e :: dEs es
end
theorem dEs_map : ∀ es, dEs es = es.map dE
  | [] => by simp [dEs]
  | e :: es => by simp [dEs, dEs_map es]
theorem dE_eq (e : Ex1) : dE e = .agg [.int e.kind, .int e.op, .str e.name, dN e.n, dI e.text, .sl (e.kids.map dE)] := by cases e; simp [dE, dEs_map]; exact ⟨rfl, rfl, rfl, rfl, rfl, rfl⟩
@[simp] theorem dE_0 (e : Ex1) : (dE e).fld 0 = .int e.kind := by rw [dE_eq]; rfl
@[simp] theorem dE_1 (e : Ex1) : (dE e).fld 1 = .int e.op := by rw [dE_eq]; rfl
@[simp] theorem dE_2 (e : Ex1) : (dE e).fld 2 = .str e.name := by rw [dE_eq]; rfl
@[simp] theorem dE_3 (e : Ex1) : (dE e).fld 3 = dN e.n := by rw [dE_eq]; rfl
@[simp] theorem dE_4 (e : Ex1) : (dE e).fld 4 = dI e.text := by rw [dE_eq]; rfl
@[simp] theorem dE_5 (e : Ex1) : (dE e).fld 5 = .sl (e.kids.map dE) := by rw [dE_eq]; rfl
/-- No list is longer than memory has room for. -/
inductive FitsE : Ex1 → Prop where
  | mk {k o : Int} {s : ByteArray} {n : Num} {t : List Int} {ks : List Ex1} (h1 : s.size ≤ 140737488351232) (h2 : n.top.length ≤ 140737488351232 ∧ n.bot.length ≤ 140737488351232) (h3 : t.length ≤ 140737488351232) (h4 : ks.length ≤ 140737488351232)
      (h5 : (-9223372036854775808 ≤ k ∧ k ≤ 9223372036854775807) ∧ -9223372036854775808 ≤ o ∧ o ≤ 9223372036854775807) (h : ∀ x ∈ ks, FitsE x) : FitsE (.mk k o s n t ks)
theorem FitsE.name {e : Ex1} (h : FitsE e) : e.name.size ≤ 140737488351232 := by cases h; assumption
theorem FitsE.num {e : Ex1} (h : FitsE e) : e.n.top.length ≤ 140737488351232 ∧ e.n.bot.length ≤ 140737488351232 := by cases h; assumption
theorem FitsE.text {e : Ex1} (h : FitsE e) : e.text.length ≤ 140737488351232 := by cases h; assumption
theorem FitsE.len {e : Ex1} (h : FitsE e) : e.kids.length ≤ 140737488351232 := by cases h; assumption
theorem FitsE.kids {e : Ex1} (h : FitsE e) : ∀ x ∈ e.kids, FitsE x := by cases h; assumption
theorem fields_Expr : (fieldsOf Try.prog 33).map (fun fs => fs.map (·.type)) = some [3, 3, 9, 30, 24, 31] := by kernel_rfl
theorem len6 {α : Type} {l : List α} (h : l.length = 6) : ∃ a b c d e f, l = [a, b, c, d, e, f] := by
  match l, h with
  | [a, b, c, d, e, f], _ => exact ⟨a, b, c, d, e, f, rfl⟩
mutual
def D.sz : D → Nat
  | .agg fs => 1 + D.szL fs | .sl es => 1 + D.szL es | _ => 0
def D.szL : List D → Nat
  | [] => 0 | x :: xs => 1 + x.sz + D.szL xs
end
theorem rd_expr : ∀ (k : Nat) {w : World} {M : Nat → Prop} {y : D} {c : Nat → Option Value}, y.sz < k → y.wok → RdC Try.prog md w M (.ty 33) y c → ∃ e, y = dE e ∧ FitsE e
  | 0, _, _, _, _, hk, _, _ => by omega
  | k + 1, w, M, y, c, hk, hwk, h => by
    obtain ⟨fs, hf, ht⟩ := Option.map_eq_some_iff.1 fields_Expr
    obtain ⟨ds, rfl, hl, hh⟩ := rd_struct h hf
    have : fs.length = 6 := by rw [← List.length_map (f := (·.type)), ht]; rfl
    obtain ⟨a, b, c, d, e, f, rfl⟩ := len6 (by rw [hl, this])
    obtain ⟨f0, hf0, e0⟩ := wtypes_at ht (i := 0) rfl
    obtain ⟨f1, hf1, e1⟩ := wtypes_at ht (i := 1) rfl
    obtain ⟨f2, hf2, e2⟩ := wtypes_at ht (i := 2) rfl
    obtain ⟨f3, hf3, e3⟩ := wtypes_at ht (i := 3) rfl
    obtain ⟨f4, hf4, e4⟩ := wtypes_at ht (i := 4) rfl
    obtain ⟨f5, hf5, e5⟩ := wtypes_at ht (i := 5) rfl
    obtain ⟨_, h0⟩ := hh 0 f0 a hf0 rfl
    obtain ⟨_, h1⟩ := hh 1 f1 b hf1 rfl
    obtain ⟨_, h2⟩ := hh 2 f2 c hf2 rfl
    obtain ⟨_, h3⟩ := hh 3 f3 d hf3 rfl
    obtain ⟨_, h4⟩ := hh 4 f4 e hf4 rfl
    obtain ⟨_, h5⟩ := hh 5 f5 f hf5 rfl
    rw [e0] at h0; rw [e1] at h1; rw [e2] at h2; rw [e3] at h3; rw [e4] at h4; rw [e5] at h5
    obtain ⟨kd, rfl, i1, i2⟩ := rd_int h0 (k := .i64) (by kernel_rfl)
    obtain ⟨op, rfl, i3, i4⟩ := rd_int h1 (k := .i64) (by kernel_rfl)
    obtain ⟨nm, rfl, _⟩ := rd_str h2 (by kernel_rfl)
    obtain ⟨nn, rfl, _, _⟩ := nrd_num h3
    obtain ⟨tx, rfl, _, _⟩ := rd_ints h4 (e := 3) (by kernel_rfl) (by kernel_rfl)
    obtain ⟨es, rfl, l5, hes⟩ := rd_slc h5 (e := 33) (by kernel_rfl)
    obtain ⟨_, _, w2, w3, w4, w5, _⟩ := hwk
    obtain ⟨w5, w6⟩ := w5
    have w2 : nm.size ≤ 140737488351232 := w2
    have w4 : tx.length ≤ 140737488351232 := by have := w4.1; simpa [dI] using this
    have w3a : nn.top.length ≤ 140737488351232 := by have := w3.2.1.1; simpa [dL] using this
    have w3b : nn.bot.length ≤ 140737488351232 := by have := w3.2.2.1.1; simpa [dL] using this
    have hsz : D.szL es < k := by simp only [D.sz, D.szL] at hk; omega
    have key : ∃ cs : List Ex1, es = cs.map dE ∧ ∀ x ∈ cs, FitsE x := by
      clear h5 w5 l5 hk hh h hl h0 h1 h2 h3 h4 hf0 hf1 hf2 hf3 hf4 hf5
      induction es with
      | nil => exact ⟨[], rfl, (fun _ h => by cases h)⟩
      | cons x es ih =>
        simp only [D.szL] at hsz
        obtain ⟨w7, w8⟩ := w6
        obtain ⟨cs, rfl, g1⟩ := ih (fun y hy => hes y (by simp [hy])) w8 (by omega)
        obtain ⟨_, hx⟩ := hes x (by simp)
        obtain ⟨z, rfl, hz⟩ := rd_expr k (by omega) w7 hx
        exact ⟨z :: cs, rfl, fun y hy => by rcases List.mem_cons.1 hy with rfl | hy; exact hz; exact g1 y hy⟩
    obtain ⟨cs, rfl, g1⟩ := key
    refine ⟨.mk kd op nm nn tx cs, by simp [dE, dEs_map], .mk w2 ⟨w3a, w3b⟩ w4 (by simpa using w5) ⟨⟨i1, i2⟩, i3, i4⟩ g1⟩
def exTs : List Nat := 9 :: 33 :: 31 :: [4, 3, 51, 28, 24, 30]
theorem exTs_plain : plainTs Try.prog exTs = true := by kernel_rfl
section
variable {H : Type} {enc : TypeId × Value → H} {W : World} {sp : Nat → Bool} {held : Bool} {r : Reach} {b0 : Nat} {v : Value} {d : DataW H} {ps : List MemPlace}
theorem arg_expr (hval : Value.okWide Try.prog W r b0 33 v) (h : DataW.Trod enc Try.prog W 0 sp held 33 v d ps) (hw : ∀ z ∈ d.weights Try.prog 33, z ≤ reachBytes) : ∃ e, FitsE e ∧ Rd Try.prog md W (fun _ => False) (.ty 33) (dE e) v := by
  obtain ⟨y, hy, hyw⟩ := arg_rd (md := md) wfP exTs_plain (by decide) hval h
  obtain ⟨e, rfl, he⟩ := rd_expr _ (Nat.lt_succ_self _) (hyw hw) hy.rd
  exact ⟨e, he, hy⟩
end
end Go.Proofs.Ytcdjifdllibolaa

set_option maxRecDepth 100000
namespace Go.Proofs.Ytcdjifdllibolaa
/-! scrim/tree.Array -/
def tree_Array_orc : List (Nat × Orc) := []
theorem tree_Array_tree (n : Nat) (kind0 : D) : evFun Try.prog md tree_Array_orc n 6 [] [kind0] =
 .br (decide (1 ≤ kind0.toInt)) (.br (decide (kind0.toInt ≤ 16)) (.ret [D.bool (kind0.toInt != 10)])
 (.ret [D.bool false]))
 (.ret [D.bool false]) := by kernel_rfl

/-! scrim/tree.Func -/
def tree_Func_orc : List (Nat × Orc) := []
theorem tree_Func_tree (n : Nat) (kind0 : D) : evFun Try.prog md tree_Func_orc n 10 [] [kind0] =
 .br (decide (17 ≤ kind0.toInt)) (.ret [D.bool (decide (kind0.toInt ≤ 24))])
 (.ret [D.bool false]) := by kernel_rfl

/-! scrim/tree.Plain -/
def tree_Plain_orc : List (Nat × Orc) := []
theorem tree_Plain_tree (n : Nat) (kind0 : D) : evFun Try.prog md tree_Plain_orc n 12 [] [kind0] =
 .br (decide (17 ≤ kind0.toInt)) (.ret [D.bool (decide (kind0.toInt ≤ 21))])
 (.ret [D.bool false]) := by kernel_rfl

/-! scrim/tree.Glyph -/
def tree_Glyph_orc : List (Nat × Orc) := []
theorem tree_Glyph_tree (n : Nat) (c0 : D) : evFun Try.prog md tree_Glyph_orc n 14 [] [c0] =
 .call 28 [] [D.int c0.toInt] fun yy1 =>
 .br (((yy1.getD 0 D.nil).toInt) == 4) (.ret [D.bool true])
 (.call 17 [] [] fun yy2 =>
 .br (decide (0 ≤ 4)) (.br (decide (4 ≤ (((yy2.getD 0 D.nil).els).length : Int))) (.call 29 [] [D.sl (((yy2.getD 0 D.nil).els).take (Int.toNat 4)), D.int c0.toInt] fun yy3 =>
 .ret [D.bool ((yy3.getD 0 D.nil).toBool)]) .fail) .fail) := by kernel_rfl

/-! scrim/tree.Monops -/
def tree_Monops_orc : List (Nat × Orc) := []
theorem tree_Monops_tree (n : Nat)  : evFun Try.prog md tree_Monops_orc n 17 [] [] =
 .ret [D.sl [D.int 47, D.int 9023, D.int 92, D.int 9024, D.int 168, D.int 9064]] := by kernel_rfl

/-! scrim/tree.Dyops -/
def tree_Dyops_orc : List (Nat × Orc) := []
theorem tree_Dyops_tree (n : Nat)  : evFun Try.prog md tree_Dyops_orc n 19 [] [] =
 .ret [D.sl [D.int 46, D.int 8728, D.int 9060, D.int 9059]] := by kernel_rfl

/-! scrim/tree.Count -/
def tree_Count_orc : List (Nat × Orc) := [(3, ⟨[(3, none), (7, some 31), (8, none), (9, none)], [], []⟩)]
def tree_Count_ps : List Nat := [33]
def tree_Count_rs : List ResultVar := [.tmp 2]
def tree_Count_ts : List Nat := [3]
noncomputable def tree_Count_l3 (n m3 : Nat) (all3 : Int) (t7 : D) (t8 : Int) (t9 : Int) : Tree :=
  evLoop Try.prog md (ev Try.prog md n tree_Count_orc (cAt (bodyOf Try.prog 25) [1, 1, 0, 1, 0, 0])) (orcAt tree_Count_orc 3) m3 ⟨[.undef, .undef, .undef, .i .i64 all3, .undef, .undef, .undef, .d 31 t7, .i .i64 t8, .i .i64 t9, .undef, .undef, .undef, .undef, .undef, .undef, .undef, .undef, .undef], [], [], [], []⟩
   (blockK 0 (seqK (joinE Try.prog md (joinAt tree_Count_orc (cAt (bodyOf Try.prog 25) [1, 1, 1])) (ev Try.prog md n tree_Count_orc (cAt (bodyOf Try.prog 25) [1, 1, 1]))) (retK Try.prog md (md 25) tree_Count_ps tree_Count_rs tree_Count_ts)))
theorem tree_Count_l3_succ (n m3 : Nat) (all3 : Int) (t7 : D) (t8 : Int) (t9 : Int) : tree_Count_l3 n (m3 + 1) all3 t7 t8 t9 =
 .br (decide (t9 < t8)) (.br (decide (0 ≤ t9)) (.br (decide (t9 < (t7.els.length : Int))) (.call 25 [] [t7.els.getD (Int.toNat t9) D.nil] fun yy1 =>
 tree_Count_l3 n m3 (IntKind.wrap .i64 (all3 + ((yy1.getD 0 D.nil).toInt))) t7 t8 (IntKind.wrap .i64 (t9 + 1))) .fail) .fail)
 (.ret [D.int all3]) := by kernel_rfl
theorem tree_Count_tree (n : Nat) (e0 : D) : evFun Try.prog md tree_Count_orc n 25 [] [e0] =
 tree_Count_l3 n n 1 (e0.fld 5) (((e0.fld 5).els).length : Int) 0 := by kernel_rfl

/-! scrim/tree.Same -/
def tree_Same_orc : List (Nat × Orc) := []
theorem tree_Same_tree (n : Nat) (a0 : D) (b1 : D) : evFun Try.prog md tree_Same_orc n 26 [] [a0, b1] =
 .br (((a0.fld 0).toInt) != ((b1.fld 0).toInt)) (.ret [D.bool false])
 (.br (((a0.fld 1).toInt) != ((b1.fld 1).toInt)) (.ret [D.bool false])
 (.br (!(((a0.fld 2).toStr).toList == ((b1.fld 2).toStr).toList)) (.ret [D.bool false])
 (.call 35 [] [a0.fld 3, b1.fld 3] fun yy1 =>
 .br (!((yy1.getD 0 D.nil).toBool)) (.ret [D.bool false])
 (.call 36 [] [a0.fld 4, b1.fld 4] fun yy2 =>
 .br ((yy2.getD 0 D.nil).toBool) (.call 37 [] [a0.fld 5, b1.fld 5, D.fn 26 [] []] fun yy3 =>
 .ret [D.bool ((yy3.getD 0 D.nil).toBool)])
 (.ret [D.bool false]))))) := by kernel_rfl

/-! scrim/tree.held -/
def tree_held_orc : List (Nat × Orc) := [(2000000, ⟨[], [], []⟩)]
theorem tree_held_tree (n : Nat) (e0 : D) : evFun Try.prog md tree_held_orc n 43 [] [e0] =
 .call 35 [] [e0.fld 3, D.agg [D.bool false, D.sl [], D.sl []]] fun yy1 =>
 .br (((e0.fld 0).toInt) == 1) (.call 49 [] [e0.fld 3] fun yy2 =>
 .br ((yy2.getD 0 D.nil).toBool) (.br ((((e0.fld 4).els).length : Int) == 0) (.br (((e0.fld 2).toStr).toList == ByteArray.empty.toList) (.ret [D.bool (((e0.fld 1).toInt) == 0)])
 (.ret [D.bool false]))
 (.ret [D.bool false]))
 (.ret [D.bool false]))
 (.br (((e0.fld 0).toInt) == 2) (.br (decide ((((e0.fld 4).els).length : Int) ≤ 2048)) (.call 50 [] [e0.fld 4, D.fn 51 [] []] fun yy3 =>
 .br ((yy1.getD 0 D.nil).toBool) (.br (!((yy3.getD 0 D.nil).toBool)) (.br (((e0.fld 2).toStr).toList == ByteArray.empty.toList) (.ret [D.bool (((e0.fld 1).toInt) == 0)])
 (.ret [D.bool false]))
 (.ret [D.bool false]))
 (.ret [D.bool false]))
 (.br ((yy1.getD 0 D.nil).toBool) (.ret [D.bool false])
 (.ret [D.bool false])))
 (.br (((e0.fld 0).toInt) == 3) (.call 53 [] [D.str (e0.fld 2).toStr, D.bool false] fun yy4 =>
 .br ((yy1.getD 0 D.nil).toBool) (.br ((((e0.fld 4).els).length : Int) == 0) (.br ((yy4.getD 0 D.nil).toBool) (.ret [D.bool (((e0.fld 1).toInt) == 0)])
 (.ret [D.bool false]))
 (.ret [D.bool false]))
 (.ret [D.bool false]))
 (.br (((e0.fld 0).toInt) == 13) (.call 53 [] [D.str (e0.fld 2).toStr, D.bool false] fun yy5 =>
 .br ((yy1.getD 0 D.nil).toBool) (.br ((((e0.fld 4).els).length : Int) == 0) (.br ((yy5.getD 0 D.nil).toBool) (.ret [D.bool (((e0.fld 1).toInt) == 0)])
 (.ret [D.bool false]))
 (.ret [D.bool false]))
 (.ret [D.bool false]))
 (.br (((e0.fld 0).toInt) == 14) (.call 53 [] [D.str (e0.fld 2).toStr, D.bool false] fun yy6 =>
 .br ((yy1.getD 0 D.nil).toBool) (.br ((((e0.fld 4).els).length : Int) == 0) (.br ((yy6.getD 0 D.nil).toBool) (.ret [D.bool (((e0.fld 1).toInt) == 0)])
 (.ret [D.bool false]))
 (.ret [D.bool false]))
 (.ret [D.bool false]))
 (.br (((e0.fld 0).toInt) == 15) (.call 53 [] [D.str (e0.fld 2).toStr, D.bool false] fun yy7 =>
 .br ((yy1.getD 0 D.nil).toBool) (.br ((((e0.fld 4).els).length : Int) == 0) (.br ((yy7.getD 0 D.nil).toBool) (.ret [D.bool (((e0.fld 1).toInt) == 0)])
 (.ret [D.bool false]))
 (.ret [D.bool false]))
 (.ret [D.bool false]))
 (.br (((e0.fld 0).toInt) == 18) (.call 53 [] [D.str (e0.fld 2).toStr, D.bool true] fun yy8 =>
 .br ((yy1.getD 0 D.nil).toBool) (.br ((((e0.fld 4).els).length : Int) == 0) (.br ((yy8.getD 0 D.nil).toBool) (.ret [D.bool (((e0.fld 1).toInt) == 0)])
 (.ret [D.bool false]))
 (.ret [D.bool false]))
 (.ret [D.bool false]))
 (.br (((e0.fld 0).toInt) == 27) (.call 53 [] [D.str (e0.fld 2).toStr, D.bool true] fun yy9 =>
 .br ((yy1.getD 0 D.nil).toBool) (.br ((((e0.fld 4).els).length : Int) == 0) (.br ((yy9.getD 0 D.nil).toBool) (.ret [D.bool (((e0.fld 1).toInt) == 0)])
 (.ret [D.bool false]))
 (.ret [D.bool false]))
 (.ret [D.bool false]))
 (.br (((e0.fld 0).toInt) == 6) (.br (decide (0 ≤ ((e0.fld 1).toInt))) (.br ((yy1.getD 0 D.nil).toBool) (.br ((((e0.fld 4).els).length : Int) == 0) (.br (((e0.fld 2).toStr).toList == ByteArray.empty.toList) (.ret [D.bool (decide (((e0.fld 1).toInt) < 8))])
 (.ret [D.bool false]))
 (.ret [D.bool false]))
 (.ret [D.bool false]))
 (.br ((yy1.getD 0 D.nil).toBool) (.br ((((e0.fld 4).els).length : Int) == 0) (.br (((e0.fld 2).toStr).toList == ByteArray.empty.toList) (.ret [D.bool false])
 (.ret [D.bool false]))
 (.ret [D.bool false]))
 (.ret [D.bool false])))
 (.br (((e0.fld 0).toInt) == 7) (.br (decide (0 ≤ ((e0.fld 1).toInt))) (.br ((yy1.getD 0 D.nil).toBool) (.br ((((e0.fld 4).els).length : Int) == 0) (.br (((e0.fld 2).toStr).toList == ByteArray.empty.toList) (.ret [D.bool (decide (((e0.fld 1).toInt) < 8))])
 (.ret [D.bool false]))
 (.ret [D.bool false]))
 (.ret [D.bool false]))
 (.br ((yy1.getD 0 D.nil).toBool) (.br ((((e0.fld 4).els).length : Int) == 0) (.br (((e0.fld 2).toStr).toList == ByteArray.empty.toList) (.ret [D.bool false])
 (.ret [D.bool false]))
 (.ret [D.bool false]))
 (.ret [D.bool false])))
 (.br (((e0.fld 0).toInt) == 16) (.br (decide (0 ≤ ((e0.fld 1).toInt))) (.br ((yy1.getD 0 D.nil).toBool) (.br ((((e0.fld 4).els).length : Int) == 0) (.br (((e0.fld 2).toStr).toList == ByteArray.empty.toList) (.ret [D.bool (decide (((e0.fld 1).toInt) < 8))])
 (.ret [D.bool false]))
 (.ret [D.bool false]))
 (.ret [D.bool false]))
 (.br ((yy1.getD 0 D.nil).toBool) (.br ((((e0.fld 4).els).length : Int) == 0) (.br (((e0.fld 2).toStr).toList == ByteArray.empty.toList) (.ret [D.bool false])
 (.ret [D.bool false]))
 (.ret [D.bool false]))
 (.ret [D.bool false])))
 (.br (((e0.fld 0).toInt) == 17) (.call 14 [] [D.int ((e0.fld 1).toInt)] fun yy10 =>
 .br ((yy1.getD 0 D.nil).toBool) (.br ((((e0.fld 4).els).length : Int) == 0) (.br (((e0.fld 2).toStr).toList == ByteArray.empty.toList) (.ret [D.bool ((yy10.getD 0 D.nil).toBool)])
 (.ret [D.bool false]))
 (.ret [D.bool false]))
 (.ret [D.bool false]))
 (.br (((e0.fld 0).toInt) == 21) (.br (((e0.fld 1).toInt) == 0) (.br ((yy1.getD 0 D.nil).toBool) (.br ((((e0.fld 4).els).length : Int) == 0) (.br (((e0.fld 2).toStr).toList == ByteArray.empty.toList) (.ret [D.bool true])
 (.ret [D.bool false]))
 (.ret [D.bool false]))
 (.ret [D.bool false]))
 (.br ((yy1.getD 0 D.nil).toBool) (.br ((((e0.fld 4).els).length : Int) == 0) (.br (((e0.fld 2).toStr).toList == ByteArray.empty.toList) (.ret [D.bool (((e0.fld 1).toInt) == 1)])
 (.ret [D.bool false]))
 (.ret [D.bool false]))
 (.ret [D.bool false])))
 (.br (((e0.fld 0).toInt) == 22) (.call 17 [] [] fun yy11 =>
 .call 29 [] [yy11.getD 0 D.nil, D.int ((e0.fld 1).toInt)] fun yy12 =>
 .br ((yy1.getD 0 D.nil).toBool) (.br ((((e0.fld 4).els).length : Int) == 0) (.br (((e0.fld 2).toStr).toList == ByteArray.empty.toList) (.ret [D.bool ((yy12.getD 0 D.nil).toBool)])
 (.ret [D.bool false]))
 (.ret [D.bool false]))
 (.ret [D.bool false]))
 (.br (((e0.fld 0).toInt) == 23) (.call 19 [] [] fun yy13 =>
 .call 29 [] [yy13.getD 0 D.nil, D.int ((e0.fld 1).toInt)] fun yy14 =>
 .br ((yy1.getD 0 D.nil).toBool) (.br ((((e0.fld 4).els).length : Int) == 0) (.br (((e0.fld 2).toStr).toList == ByteArray.empty.toList) (.ret [D.bool ((yy14.getD 0 D.nil).toBool)])
 (.ret [D.bool false]))
 (.ret [D.bool false]))
 (.ret [D.bool false]))
 (.br ((yy1.getD 0 D.nil).toBool) (.br ((((e0.fld 4).els).length : Int) == 0) (.br (((e0.fld 2).toStr).toList == ByteArray.empty.toList) (.ret [D.bool (((e0.fld 1).toInt) == 0)])
 (.ret [D.bool false]))
 (.ret [D.bool false]))
 (.ret [D.bool false])))))))))))))))) := by kernel_rfl

/-! scrim/tree.made -/
def tree_made_orc : List (Nat × Orc) := [(2000000, ⟨[], [], []⟩)]
theorem tree_made_tree (n : Nat) (e0 : D) : evFun Try.prog md tree_made_orc n 44 [] [e0] =
 .br (((e0.fld 0).toInt) == 1) (.call 54 [] [e0.fld 5, D.sl []] fun yy1 =>
 .ret [D.bool ((yy1.getD 0 D.nil).toBool)])
 (.br (((e0.fld 0).toInt) == 2) (.call 54 [] [e0.fld 5, D.sl []] fun yy2 =>
 .ret [D.bool ((yy2.getD 0 D.nil).toBool)])
 (.br (((e0.fld 0).toInt) == 3) (.call 54 [] [e0.fld 5, D.sl []] fun yy3 =>
 .ret [D.bool ((yy3.getD 0 D.nil).toBool)])
 (.br (((e0.fld 0).toInt) == 4) (.call 54 [] [e0.fld 5, D.sl []] fun yy4 =>
 .ret [D.bool ((yy4.getD 0 D.nil).toBool)])
 (.br (((e0.fld 0).toInt) == 5) (.call 54 [] [e0.fld 5, D.sl []] fun yy5 =>
 .ret [D.bool ((yy5.getD 0 D.nil).toBool)])
 (.br (((e0.fld 0).toInt) == 6) (.call 54 [] [e0.fld 5, D.sl []] fun yy6 =>
 .ret [D.bool ((yy6.getD 0 D.nil).toBool)])
 (.br (((e0.fld 0).toInt) == 7) (.call 54 [] [e0.fld 5, D.sl []] fun yy7 =>
 .ret [D.bool ((yy7.getD 0 D.nil).toBool)])
 (.br (((e0.fld 0).toInt) == 10) (.call 54 [] [e0.fld 5, D.sl []] fun yy8 =>
 .ret [D.bool ((yy8.getD 0 D.nil).toBool)])
 (.br (((e0.fld 0).toInt) == 17) (.call 54 [] [e0.fld 5, D.sl []] fun yy9 =>
 .ret [D.bool ((yy9.getD 0 D.nil).toBool)])
 (.br (((e0.fld 0).toInt) == 18) (.call 54 [] [e0.fld 5, D.sl []] fun yy10 =>
 .ret [D.bool ((yy10.getD 0 D.nil).toBool)])
 (.br (((e0.fld 0).toInt) == 19) (.call 54 [] [e0.fld 5, D.sl []] fun yy11 =>
 .ret [D.bool ((yy11.getD 0 D.nil).toBool)])
 (.br (((e0.fld 0).toInt) == 21) (.call 54 [] [e0.fld 5, D.sl []] fun yy12 =>
 .ret [D.bool ((yy12.getD 0 D.nil).toBool)])
 (.br (((e0.fld 0).toInt) == 8) (.br (decide (2 ≤ (((e0.fld 5).els).length : Int))) (.call 55 [] [e0.fld 5, D.fn 56 [] []] fun yy13 =>
 .ret [D.bool ((yy13.getD 0 D.nil).toBool)])
 (.ret [D.bool false]))
 (.br (((e0.fld 0).toInt) == 9) (.br (decide (2 ≤ (((e0.fld 5).els).length : Int))) (.br (decide (0 ≤ 0)) (.br (decide (0 < (((e0.fld 5).els).length : Int))) (.call 56 [] [((e0.fld 5).els).getD (Int.toNat 0) D.nil] fun yy14 =>
 .br ((yy14.getD 0 D.nil).toBool) (.br (decide (0 ≤ 1)) (.br (decide (1 ≤ (((e0.fld 5).els).length : Int))) (.call 55 [] [D.sl (((e0.fld 5).els).drop (Int.toNat 1)), D.fn 57 [] []] fun yy15 =>
 .ret [D.bool ((yy15.getD 0 D.nil).toBool)]) .fail) .fail)
 (.ret [D.bool false])) .fail) .fail)
 (.ret [D.bool false]))
 (.br (((e0.fld 0).toInt) == 14) (.br (decide (2 ≤ (((e0.fld 5).els).length : Int))) (.br (decide (0 ≤ 0)) (.br (decide (0 < (((e0.fld 5).els).length : Int))) (.call 56 [] [((e0.fld 5).els).getD (Int.toNat 0) D.nil] fun yy16 =>
 .br ((yy16.getD 0 D.nil).toBool) (.br (decide (0 ≤ 1)) (.br (decide (1 ≤ (((e0.fld 5).els).length : Int))) (.call 55 [] [D.sl (((e0.fld 5).els).drop (Int.toNat 1)), D.fn 57 [] []] fun yy17 =>
 .ret [D.bool ((yy17.getD 0 D.nil).toBool)]) .fail) .fail)
 (.ret [D.bool false])) .fail) .fail)
 (.ret [D.bool false]))
 (.br (((e0.fld 0).toInt) == 11) (.call 54 [] [e0.fld 5, D.sl [D.fn 58 [] [], D.fn 56 [] []]] fun yy18 =>
 .ret [D.bool ((yy18.getD 0 D.nil).toBool)])
 (.br (((e0.fld 0).toInt) == 15) (.call 54 [] [e0.fld 5, D.sl [D.fn 58 [] [], D.fn 56 [] []]] fun yy19 =>
 .ret [D.bool ((yy19.getD 0 D.nil).toBool)])
 (.br (((e0.fld 0).toInt) == 12) (.call 54 [] [e0.fld 5, D.sl [D.fn 56 [] [], D.fn 58 [] [], D.fn 56 [] []]] fun yy20 =>
 .ret [D.bool ((yy20.getD 0 D.nil).toBool)])
 (.br (((e0.fld 0).toInt) == 13) (.call 54 [] [e0.fld 5, D.sl [D.fn 56 [] []]] fun yy21 =>
 .ret [D.bool ((yy21.getD 0 D.nil).toBool)])
 (.br (((e0.fld 0).toInt) == 16) (.call 54 [] [e0.fld 5, D.sl [D.fn 56 [] []]] fun yy22 =>
 .ret [D.bool ((yy22.getD 0 D.nil).toBool)])
 (.br (((e0.fld 0).toInt) == 22) (.call 54 [] [e0.fld 5, D.sl [D.fn 58 [] []]] fun yy23 =>
 .ret [D.bool ((yy23.getD 0 D.nil).toBool)])
 (.br (((e0.fld 0).toInt) == 27) (.call 54 [] [e0.fld 5, D.sl [D.fn 58 [] []]] fun yy24 =>
 .ret [D.bool ((yy24.getD 0 D.nil).toBool)])
 (.br (((e0.fld 0).toInt) == 23) (.call 54 [] [e0.fld 5, D.sl [D.fn 58 [] [], D.fn 59 [.ref 33] [D.ref e0]]] fun yy25 =>
 .ret [D.bool ((yy25.getD 0 D.nil).toBool)])
 (.br (((e0.fld 0).toInt) == 24) (.call 54 [] [e0.fld 5, D.sl [D.fn 60 [] []]] fun yy26 =>
 .ret [D.bool ((yy26.getD 0 D.nil).toBool)])
 (.br (((e0.fld 0).toInt) == 25) (.call 54 [] [e0.fld 5, D.sl [D.fn 56 [] [], D.fn 56 [] []]] fun yy27 =>
 .ret [D.bool ((yy27.getD 0 D.nil).toBool)])
 (.br (((e0.fld 0).toInt) == 26) (.call 54 [] [e0.fld 5, D.sl [D.fn 56 [] [], D.fn 56 [] []]] fun yy28 =>
 .ret [D.bool ((yy28.getD 0 D.nil).toBool)])
 (.br (((e0.fld 0).toInt) == 20) (.br (decide (0 < (((e0.fld 5).els).length : Int))) (.call 55 [] [e0.fld 5, D.fn 61 [.ref 33] [D.ref e0]] fun yy29 =>
 .ret [D.bool ((yy29.getD 0 D.nil).toBool)])
 (.ret [D.bool false]))
 (.br (((e0.fld 0).toInt) == 28) (.br (decide (0 < (((e0.fld 5).els).length : Int))) (.call 55 [] [e0.fld 5, D.fn 61 [.ref 33] [D.ref e0]] fun yy30 =>
 .ret [D.bool ((yy30.getD 0 D.nil).toBool)])
 (.ret [D.bool false]))
 (.ret [D.bool false])))))))))))))))))))))))))))) := by kernel_rfl

/-! scrim/tree.held$1 -/
def tree_held_1_orc : List (Nat × Orc) := []
theorem tree_held_1_tree (n : Nat) (c0 : D) : evFun Try.prog md tree_held_1_orc n 51 [] [c0] =
 .call 52 [] [D.int c0.toInt] fun yy1 =>
 .ret [D.bool (!((yy1.getD 0 D.nil).toBool))] := by kernel_rfl

/-! scrim/tree.named -/
def tree_named_orc : List (Nat × Orc) := [(4, ⟨[(0, none), (1, none), (22, none), (23, none)], [], []⟩)]
def tree_named_ps : List Nat := [9, 4]
def tree_named_rs : List ResultVar := [.tmp 4]
def tree_named_ts : List Nat := [4]
noncomputable def tree_named_l4 (n m4 : Nat) (s0 : ByteArray) (function1 : Bool) (t22 : Int) (t23 : Int) : Tree :=
  evLoop Try.prog md (ev Try.prog md n tree_named_orc (cAt (bodyOf Try.prog 53) [1, 1, 0, 1, 0, 0])) (orcAt tree_named_orc 4) m4 ⟨[.s s0, .b function1, .undef, .undef, .undef, .undef, .undef, .undef, .undef, .undef, .undef, .undef, .undef, .undef, .undef, .undef, .undef, .undef, .undef, .undef, .undef, .undef, .i .i64 t22, .i .i64 t23, .undef, .undef, .undef, .undef, .undef, .undef, .undef, .undef, .undef, .undef, .undef, .undef, .undef, .undef, .undef, .undef, .undef, .undef, .undef, .undef, .undef, .undef, .undef, .undef, .undef, .undef, .undef, .undef], [], [], [], []⟩
   (blockK 0 (seqK (joinE Try.prog md (joinAt tree_named_orc (cAt (bodyOf Try.prog 53) [1, 1, 1])) (ev Try.prog md n tree_named_orc (cAt (bodyOf Try.prog 53) [1, 1, 1]))) (retK Try.prog md (md 53) tree_named_ps tree_named_rs tree_named_ts)))
theorem tree_named_l4_succ (n m4 : Nat) (s0 : ByteArray) (function1 : Bool) (t22 : Int) (t23 : Int) : tree_named_l4 n (m4 + 1) s0 function1 t22 t23 =
 .br (decide (t23 < t22)) (.br (decide (0 ≤ t23)) (.br (decide (t23 < (s0.size : Int))) (.call 28 [] [D.int (IntKind.wrap .i64 (((s0.data.toList.getD (Int.toNat t23) 0).toNat : Nat) : Int))] fun yy2 =>
 .br (((yy2.getD 0 D.nil).toInt) != 2) (.br (decide ((((s0.data.toList.getD (Int.toNat t23) 0).toNat : Nat) : Int) < 48)) (.ret [D.bool false])
 (.br (decide (57 < (((s0.data.toList.getD (Int.toNat t23) 0).toNat : Nat) : Int))) (.ret [D.bool false])
 (tree_named_l4 n m4 s0 function1 t22 (IntKind.wrap .i64 (t23 + 1)))))
 (tree_named_l4 n m4 s0 function1 t22 (IntKind.wrap .i64 (t23 + 1)))) .fail) .fail)
 (.br (decide (0 ≤ 0)) (.br (decide (0 < (s0.size : Int))) (.br (decide (65 ≤ (((s0.data.toList.getD (Int.toNat 0) 0).toNat : Nat) : Int))) (.br (decide (0 ≤ 0)) (.br (decide (0 < (s0.size : Int))) (.ret [D.bool ((decide ((((s0.data.toList.getD (Int.toNat 0) 0).toNat : Nat) : Int) ≤ 90)) == function1)]) .fail) .fail)
 (.ret [D.bool (false == function1)])) .fail) .fail) := by kernel_rfl
theorem tree_named_tree (n : Nat) (s0 : D) (function1 : D) : evFun Try.prog md tree_named_orc n 53 [] [s0, function1] =
 .br (s0.toStr.toList == ByteArray.empty.toList) (.ret [D.bool false])
 (.br (decide (16 < (s0.toStr.size : Int))) (.ret [D.bool false])
 (.br (decide (0 ≤ 0)) (.br (decide (0 < (s0.toStr.size : Int))) (.call 28 [] [D.int (IntKind.wrap .i64 (((s0.toStr.data.toList.getD (Int.toNat 0) 0).toNat : Nat) : Int))] fun yy1 =>
 .br (((yy1.getD 0 D.nil).toInt) != 2) (.ret [D.bool false])
 (tree_named_l4 n n s0.toStr function1.toBool (s0.toStr.size : Int) 0)) .fail) .fail)) := by kernel_rfl

/-! scrim/tree.parts -/
def tree_parts_orc : List (Nat × Orc) := [(4, ⟨[(1, some 65), (12, some 31), (13, none), (14, none)], [], []⟩)]
def tree_parts_ps : List Nat := [31, 65]
def tree_parts_rs : List ResultVar := [.tmp 4]
def tree_parts_ts : List Nat := [4]
noncomputable def tree_parts_l4 (n m4 : Nat) (is1 : D) (t12 : D) (t13 : Int) (t14 : Int) : Tree :=
  evLoop Try.prog md (ev Try.prog md n tree_parts_orc (cAt (bodyOf Try.prog 54) [1, 1, 0, 1, 0, 0])) (orcAt tree_parts_orc 4) m4 ⟨[.undef, .d 65 is1, .undef, .undef, .undef, .undef, .undef, .undef, .undef, .undef, .undef, .undef, .d 31 t12, .i .i64 t13, .i .i64 t14, .undef, .undef, .undef, .undef, .undef, .undef, .undef, .undef, .undef, .undef, .undef, .undef], [], [], [], []⟩
   (blockK 0 (seqK (joinE Try.prog md (joinAt tree_parts_orc (cAt (bodyOf Try.prog 54) [1, 1, 1])) (ev Try.prog md n tree_parts_orc (cAt (bodyOf Try.prog 54) [1, 1, 1]))) (retK Try.prog md (md 54) tree_parts_ps tree_parts_rs tree_parts_ts)))
theorem tree_parts_l4_succ (n m4 : Nat) (is1 : D) (t12 : D) (t13 : Int) (t14 : Int) : tree_parts_l4 n (m4 + 1) is1 t12 t13 t14 =
 .br (decide (t14 < t13)) (.br (decide (0 ≤ t14)) (.br (decide (t14 < (t12.els.length : Int))) (.br (decide (0 ≤ t14)) (.br (decide (t14 < (is1.els.length : Int))) (.call (is1.els.getD (Int.toNat t14) D.nil).fnId (is1.els.getD (Int.toNat t14) D.nil).fnCts ([t12.els.getD (Int.toNat t14) D.nil] ++ (is1.els.getD (Int.toNat t14) D.nil).fnDs) fun yy1 =>
 .br (!((yy1.getD 0 D.nil).toBool)) (.ret [D.bool false])
 (tree_parts_l4 n m4 is1 t12 t13 (IntKind.wrap .i64 (t14 + 1)))) .fail) .fail) .fail) .fail)
 (.ret [D.bool true]) := by kernel_rfl
theorem tree_parts_tree (n : Nat) (l0 : D) (is1 : D) : evFun Try.prog md tree_parts_orc n 54 [] [l0, is1] =
 .br ((l0.els.length : Int) != (is1.els.length : Int)) (.ret [D.bool false])
 (tree_parts_l4 n n is1 l0 (l0.els.length : Int) 0) := by kernel_rfl

/-! scrim/tree.each -/
def tree_each_orc : List (Nat × Orc) := []
theorem tree_each_tree_tree_anArray (n : Nat) (l0 : D)  : evFun Try.prog md tree_each_orc n 55 [] [l0, (D.fn 56 [] [])] =
 .call 69 [] [l0, D.fn 70 [.ref 34] [D.ref (D.fn 56 [] [])]] fun yy1 =>
 .ret [D.bool (!((yy1.getD 0 D.nil).toBool))] := by kernel_rfl
theorem tree_each_tree_tree_aPlace (n : Nat) (l0 : D)  : evFun Try.prog md tree_each_orc n 55 [] [l0, (D.fn 57 [] [])] =
 .call 69 [] [l0, D.fn 70 [.ref 34] [D.ref (D.fn 57 [] [])]] fun yy1 =>
 .ret [D.bool (!((yy1.getD 0 D.nil).toBool))] := by kernel_rfl
theorem tree_each_tree_tree_made_2 (n : Nat) (l0 : D) (is1_c0 : D) : evFun Try.prog md tree_each_orc n 55 [] [l0, (D.fn 61 [.ref 33] [is1_c0])] =
 .call 69 [] [l0, D.fn 70 [.ref 34] [D.ref (D.fn 61 [.ref 33] [is1_c0])]] fun yy1 =>
 .ret [D.bool (!((yy1.getD 0 D.nil).toBool))] := by kernel_rfl

/-! scrim/tree.anArray -/
def tree_anArray_orc : List (Nat × Orc) := []
theorem tree_anArray_tree (n : Nat) (e0 : D) : evFun Try.prog md tree_anArray_orc n 56 [] [e0] =
 .call 6 [] [D.int ((e0.fld 0).toInt)] fun yy1 =>
 .ret [D.bool ((yy1.getD 0 D.nil).toBool)] := by kernel_rfl

/-! scrim/tree.aPlace -/
def tree_aPlace_orc : List (Nat × Orc) := []
theorem tree_aPlace_tree (n : Nat) (e0 : D) : evFun Try.prog md tree_aPlace_orc n 57 [] [e0] =
 .call 6 [] [D.int ((e0.fld 0).toInt)] fun yy1 =>
 .br ((yy1.getD 0 D.nil).toBool) (.ret [D.bool true])
 (.ret [D.bool (((e0.fld 0).toInt) == 10)]) := by kernel_rfl

/-! scrim/tree.aFunction -/
def tree_aFunction_orc : List (Nat × Orc) := []
theorem tree_aFunction_tree (n : Nat) (e0 : D) : evFun Try.prog md tree_aFunction_orc n 58 [] [e0] =
 .call 10 [] [D.int ((e0.fld 0).toInt)] fun yy1 =>
 .ret [D.bool ((yy1.getD 0 D.nil).toBool)] := by kernel_rfl

/-! scrim/tree.made$1 -/
def tree_made_1_orc : List (Nat × Orc) := []
theorem tree_made_1_tree (n : Nat) (k0 : D) (c1 : D) : evFun Try.prog md tree_made_1_orc n 59 [.ref 33] [k0, c1] =
 .call 12 [] [D.int ((k0.fld 0).toInt)] fun yy1 =>
 .br ((yy1.getD 0 D.nil).toBool) (.br (((c1.unref.fld 1).toInt) != 9060) (.ret [D.bool true])
 (.call 6 [] [D.int ((k0.fld 0).toInt)] fun yy2 =>
 .br ((yy2.getD 0 D.nil).toBool) (.br (((c1.unref.fld 1).toInt) == 9060) (.ret [D.bool true])
 (.ret [D.bool (((c1.unref.fld 1).toInt) == 9059)]))
 (.ret [D.bool false])))
 (.call 6 [] [D.int ((k0.fld 0).toInt)] fun yy3 =>
 .br ((yy3.getD 0 D.nil).toBool) (.br (((c1.unref.fld 1).toInt) == 9060) (.ret [D.bool true])
 (.ret [D.bool (((c1.unref.fld 1).toInt) == 9059)]))
 (.ret [D.bool false])) := by kernel_rfl

/-! scrim/tree.aPlain -/
def tree_aPlain_orc : List (Nat × Orc) := []
theorem tree_aPlain_tree (n : Nat) (e0 : D) : evFun Try.prog md tree_aPlain_orc n 60 [] [e0] =
 .call 12 [] [D.int ((e0.fld 0).toInt)] fun yy1 =>
 .ret [D.bool ((yy1.getD 0 D.nil).toBool)] := by kernel_rfl

/-! scrim/tree.made$2 -/
def tree_made_2_orc : List (Nat × Orc) := []
theorem tree_made_2_tree (n : Nat) (k0 : D) (c1 : D) : evFun Try.prog md tree_made_2_orc n 61 [.ref 33] [k0, c1] =
 .br (((k0.fld 0).toInt) == 27) (.ret [D.bool true])
 (.br (((k0.fld 0).toInt) == 25) (.br (((k0.fld 0).toInt) == 25) (.ret [D.bool (((c1.unref.fld 0).toInt) == 20)])
 (.call 6 [] [D.int ((k0.fld 0).toInt)] fun yy1 =>
 .ret [D.bool ((yy1.getD 0 D.nil).toBool)]))
 (.br (((k0.fld 0).toInt) == 26) (.ret [D.bool (((c1.unref.fld 0).toInt) == 20)])
 (.call 6 [] [D.int ((k0.fld 0).toInt)] fun yy2 =>
 .ret [D.bool ((yy2.getD 0 D.nil).toBool)]))) := by kernel_rfl

/-! scrim/tree.each$1 -/
def tree_each_1_orc : List (Nat × Orc) := []
theorem tree_each_1_tree (n : Nat) (k0 : D) (c1 : D) : evFun Try.prog md tree_each_1_orc n 70 [.ref 34] [k0, c1] =
 .call c1.unref.fnId c1.unref.fnCts ([k0] ++ c1.unref.fnDs) fun yy1 =>
 .ret [D.bool (!((yy1.getD 0 D.nil).toBool))] := by kernel_rfl

end Go.Proofs.Ytcdjifdllibolaa

set_option maxRecDepth 100000
namespace Go.Proofs.Ytcdjifdllibolaa
/-! scrim/glyph.Class -/
def glyph_Class_orc : List (Nat × Orc) := [(2000000, ⟨[], [], []⟩)]
theorem glyph_Class_tree (n : Nat) (c0 : D) : evFun Try.prog md glyph_Class_orc n 28 [] [c0] =
 .br (c0.toInt == 32) (.ret [D.int 1])
 (.br (c0.toInt == 9) (.ret [D.int 1])
 (.br (decide ((97 : Int) ≤ c0.toInt)) (.br (decide (c0.toInt ≤ 122)) (.ret [D.int 2])
 (.br (decide ((65 : Int) ≤ c0.toInt)) (.br (decide (c0.toInt ≤ 90)) (.ret [D.int 2])
 (.br (c0.toInt == 95) (.ret [D.int 2])
 (.br (decide ((48 : Int) ≤ c0.toInt)) (.br (decide (c0.toInt ≤ 57)) (.ret [D.int 3])
 (.br (c0.toInt == 175) (.ret [D.int 3])
 (.call 39 [] [D.int c0.toInt] fun yy1 =>
 .br ((yy1.getD 0 D.nil).toBool) (.ret [D.int 4])
 (.br (c0.toInt == 47) (.ret [D.int 5])
 (.br (c0.toInt == 9023) (.ret [D.int 5])
 (.br (c0.toInt == 92) (.ret [D.int 5])
 (.br (c0.toInt == 9024) (.ret [D.int 5])
 (.br (c0.toInt == 168) (.ret [D.int 5])
 (.br (c0.toInt == 9064) (.ret [D.int 5])
 (.br (c0.toInt == 9060) (.ret [D.int 5])
 (.br (c0.toInt == 9059) (.ret [D.int 5])
 (.br (c0.toInt == 8728) (.ret [D.int 5])
 (.br (c0.toInt == 46) (.ret [D.int 5])
 (.br (c0.toInt == 40) (.ret [D.int 6])
 (.br (c0.toInt == 41) (.ret [D.int 6])
 (.br (c0.toInt == 91) (.ret [D.int 6])
 (.br (c0.toInt == 93) (.ret [D.int 6])
 (.br (c0.toInt == 123) (.ret [D.int 6])
 (.br (c0.toInt == 125) (.ret [D.int 6])
 (.br (c0.toInt == 59) (.ret [D.int 6])
 (.br (c0.toInt == 58) (.ret [D.int 6])
 (.br (c0.toInt == 8900) (.ret [D.int 6])
 (.br (c0.toInt == 8592) (.ret [D.int 6])
 (.br (c0.toInt == 9082) (.ret [D.int 6])
 (.br (c0.toInt == 9077) (.ret [D.int 6])
 (.br (c0.toInt == 8711) (.ret [D.int 6])
 (.br (c0.toInt == 9109) (.ret [D.int 6])
 (.br (c0.toInt == 9054) (.ret [D.int 6])
 (.br (c0.toInt == 39) (.ret [D.int 6])
 (.br (c0.toInt == 9053) (.ret [D.int 6])
 (.ret [D.int 0])))))))))))))))))))))))))))))))
 (.br (c0.toInt == 175) (.ret [D.int 3])
 (.call 39 [] [D.int c0.toInt] fun yy2 =>
 .br ((yy2.getD 0 D.nil).toBool) (.ret [D.int 4])
 (.br (c0.toInt == 47) (.ret [D.int 5])
 (.br (c0.toInt == 9023) (.ret [D.int 5])
 (.br (c0.toInt == 92) (.ret [D.int 5])
 (.br (c0.toInt == 9024) (.ret [D.int 5])
 (.br (c0.toInt == 168) (.ret [D.int 5])
 (.br (c0.toInt == 9064) (.ret [D.int 5])
 (.br (c0.toInt == 9060) (.ret [D.int 5])
 (.br (c0.toInt == 9059) (.ret [D.int 5])
 (.br (c0.toInt == 8728) (.ret [D.int 5])
 (.br (c0.toInt == 46) (.ret [D.int 5])
 (.br (c0.toInt == 40) (.ret [D.int 6])
 (.br (c0.toInt == 41) (.ret [D.int 6])
 (.br (c0.toInt == 91) (.ret [D.int 6])
 (.br (c0.toInt == 93) (.ret [D.int 6])
 (.br (c0.toInt == 123) (.ret [D.int 6])
 (.br (c0.toInt == 125) (.ret [D.int 6])
 (.br (c0.toInt == 59) (.ret [D.int 6])
 (.br (c0.toInt == 58) (.ret [D.int 6])
 (.br (c0.toInt == 8900) (.ret [D.int 6])
 (.br (c0.toInt == 8592) (.ret [D.int 6])
 (.br (c0.toInt == 9082) (.ret [D.int 6])
 (.br (c0.toInt == 9077) (.ret [D.int 6])
 (.br (c0.toInt == 8711) (.ret [D.int 6])
 (.br (c0.toInt == 9109) (.ret [D.int 6])
 (.br (c0.toInt == 9054) (.ret [D.int 6])
 (.br (c0.toInt == 39) (.ret [D.int 6])
 (.br (c0.toInt == 9053) (.ret [D.int 6])
 (.ret [D.int 0])))))))))))))))))))))))))))))))))
 (.br (c0.toInt == 95) (.ret [D.int 2])
 (.br (decide ((48 : Int) ≤ c0.toInt)) (.br (decide (c0.toInt ≤ 57)) (.ret [D.int 3])
 (.br (c0.toInt == 175) (.ret [D.int 3])
 (.call 39 [] [D.int c0.toInt] fun yy3 =>
 .br ((yy3.getD 0 D.nil).toBool) (.ret [D.int 4])
 (.br (c0.toInt == 47) (.ret [D.int 5])
 (.br (c0.toInt == 9023) (.ret [D.int 5])
 (.br (c0.toInt == 92) (.ret [D.int 5])
 (.br (c0.toInt == 9024) (.ret [D.int 5])
 (.br (c0.toInt == 168) (.ret [D.int 5])
 (.br (c0.toInt == 9064) (.ret [D.int 5])
 (.br (c0.toInt == 9060) (.ret [D.int 5])
 (.br (c0.toInt == 9059) (.ret [D.int 5])
 (.br (c0.toInt == 8728) (.ret [D.int 5])
 (.br (c0.toInt == 46) (.ret [D.int 5])
 (.br (c0.toInt == 40) (.ret [D.int 6])
 (.br (c0.toInt == 41) (.ret [D.int 6])
 (.br (c0.toInt == 91) (.ret [D.int 6])
 (.br (c0.toInt == 93) (.ret [D.int 6])
 (.br (c0.toInt == 123) (.ret [D.int 6])
 (.br (c0.toInt == 125) (.ret [D.int 6])
 (.br (c0.toInt == 59) (.ret [D.int 6])
 (.br (c0.toInt == 58) (.ret [D.int 6])
 (.br (c0.toInt == 8900) (.ret [D.int 6])
 (.br (c0.toInt == 8592) (.ret [D.int 6])
 (.br (c0.toInt == 9082) (.ret [D.int 6])
 (.br (c0.toInt == 9077) (.ret [D.int 6])
 (.br (c0.toInt == 8711) (.ret [D.int 6])
 (.br (c0.toInt == 9109) (.ret [D.int 6])
 (.br (c0.toInt == 9054) (.ret [D.int 6])
 (.br (c0.toInt == 39) (.ret [D.int 6])
 (.br (c0.toInt == 9053) (.ret [D.int 6])
 (.ret [D.int 0])))))))))))))))))))))))))))))))
 (.br (c0.toInt == 175) (.ret [D.int 3])
 (.call 39 [] [D.int c0.toInt] fun yy4 =>
 .br ((yy4.getD 0 D.nil).toBool) (.ret [D.int 4])
 (.br (c0.toInt == 47) (.ret [D.int 5])
 (.br (c0.toInt == 9023) (.ret [D.int 5])
 (.br (c0.toInt == 92) (.ret [D.int 5])
 (.br (c0.toInt == 9024) (.ret [D.int 5])
 (.br (c0.toInt == 168) (.ret [D.int 5])
 (.br (c0.toInt == 9064) (.ret [D.int 5])
 (.br (c0.toInt == 9060) (.ret [D.int 5])
 (.br (c0.toInt == 9059) (.ret [D.int 5])
 (.br (c0.toInt == 8728) (.ret [D.int 5])
 (.br (c0.toInt == 46) (.ret [D.int 5])
 (.br (c0.toInt == 40) (.ret [D.int 6])
 (.br (c0.toInt == 41) (.ret [D.int 6])
 (.br (c0.toInt == 91) (.ret [D.int 6])
 (.br (c0.toInt == 93) (.ret [D.int 6])
 (.br (c0.toInt == 123) (.ret [D.int 6])
 (.br (c0.toInt == 125) (.ret [D.int 6])
 (.br (c0.toInt == 59) (.ret [D.int 6])
 (.br (c0.toInt == 58) (.ret [D.int 6])
 (.br (c0.toInt == 8900) (.ret [D.int 6])
 (.br (c0.toInt == 8592) (.ret [D.int 6])
 (.br (c0.toInt == 9082) (.ret [D.int 6])
 (.br (c0.toInt == 9077) (.ret [D.int 6])
 (.br (c0.toInt == 8711) (.ret [D.int 6])
 (.br (c0.toInt == 9109) (.ret [D.int 6])
 (.br (c0.toInt == 9054) (.ret [D.int 6])
 (.br (c0.toInt == 39) (.ret [D.int 6])
 (.br (c0.toInt == 9053) (.ret [D.int 6])
 (.ret [D.int 0]))))))))))))))))))))))))))))))))))
 (.br (decide ((65 : Int) ≤ c0.toInt)) (.br (decide (c0.toInt ≤ 90)) (.ret [D.int 2])
 (.br (c0.toInt == 95) (.ret [D.int 2])
 (.br (decide ((48 : Int) ≤ c0.toInt)) (.br (decide (c0.toInt ≤ 57)) (.ret [D.int 3])
 (.br (c0.toInt == 175) (.ret [D.int 3])
 (.call 39 [] [D.int c0.toInt] fun yy5 =>
 .br ((yy5.getD 0 D.nil).toBool) (.ret [D.int 4])
 (.br (c0.toInt == 47) (.ret [D.int 5])
 (.br (c0.toInt == 9023) (.ret [D.int 5])
 (.br (c0.toInt == 92) (.ret [D.int 5])
 (.br (c0.toInt == 9024) (.ret [D.int 5])
 (.br (c0.toInt == 168) (.ret [D.int 5])
 (.br (c0.toInt == 9064) (.ret [D.int 5])
 (.br (c0.toInt == 9060) (.ret [D.int 5])
 (.br (c0.toInt == 9059) (.ret [D.int 5])
 (.br (c0.toInt == 8728) (.ret [D.int 5])
 (.br (c0.toInt == 46) (.ret [D.int 5])
 (.br (c0.toInt == 40) (.ret [D.int 6])
 (.br (c0.toInt == 41) (.ret [D.int 6])
 (.br (c0.toInt == 91) (.ret [D.int 6])
 (.br (c0.toInt == 93) (.ret [D.int 6])
 (.br (c0.toInt == 123) (.ret [D.int 6])
 (.br (c0.toInt == 125) (.ret [D.int 6])
 (.br (c0.toInt == 59) (.ret [D.int 6])
 (.br (c0.toInt == 58) (.ret [D.int 6])
 (.br (c0.toInt == 8900) (.ret [D.int 6])
 (.br (c0.toInt == 8592) (.ret [D.int 6])
 (.br (c0.toInt == 9082) (.ret [D.int 6])
 (.br (c0.toInt == 9077) (.ret [D.int 6])
 (.br (c0.toInt == 8711) (.ret [D.int 6])
 (.br (c0.toInt == 9109) (.ret [D.int 6])
 (.br (c0.toInt == 9054) (.ret [D.int 6])
 (.br (c0.toInt == 39) (.ret [D.int 6])
 (.br (c0.toInt == 9053) (.ret [D.int 6])
 (.ret [D.int 0])))))))))))))))))))))))))))))))
 (.br (c0.toInt == 175) (.ret [D.int 3])
 (.call 39 [] [D.int c0.toInt] fun yy6 =>
 .br ((yy6.getD 0 D.nil).toBool) (.ret [D.int 4])
 (.br (c0.toInt == 47) (.ret [D.int 5])
 (.br (c0.toInt == 9023) (.ret [D.int 5])
 (.br (c0.toInt == 92) (.ret [D.int 5])
 (.br (c0.toInt == 9024) (.ret [D.int 5])
 (.br (c0.toInt == 168) (.ret [D.int 5])
 (.br (c0.toInt == 9064) (.ret [D.int 5])
 (.br (c0.toInt == 9060) (.ret [D.int 5])
 (.br (c0.toInt == 9059) (.ret [D.int 5])
 (.br (c0.toInt == 8728) (.ret [D.int 5])
 (.br (c0.toInt == 46) (.ret [D.int 5])
 (.br (c0.toInt == 40) (.ret [D.int 6])
 (.br (c0.toInt == 41) (.ret [D.int 6])
 (.br (c0.toInt == 91) (.ret [D.int 6])
 (.br (c0.toInt == 93) (.ret [D.int 6])
 (.br (c0.toInt == 123) (.ret [D.int 6])
 (.br (c0.toInt == 125) (.ret [D.int 6])
 (.br (c0.toInt == 59) (.ret [D.int 6])
 (.br (c0.toInt == 58) (.ret [D.int 6])
 (.br (c0.toInt == 8900) (.ret [D.int 6])
 (.br (c0.toInt == 8592) (.ret [D.int 6])
 (.br (c0.toInt == 9082) (.ret [D.int 6])
 (.br (c0.toInt == 9077) (.ret [D.int 6])
 (.br (c0.toInt == 8711) (.ret [D.int 6])
 (.br (c0.toInt == 9109) (.ret [D.int 6])
 (.br (c0.toInt == 9054) (.ret [D.int 6])
 (.br (c0.toInt == 39) (.ret [D.int 6])
 (.br (c0.toInt == 9053) (.ret [D.int 6])
 (.ret [D.int 0])))))))))))))))))))))))))))))))))
 (.br (c0.toInt == 95) (.ret [D.int 2])
 (.br (decide ((48 : Int) ≤ c0.toInt)) (.br (decide (c0.toInt ≤ 57)) (.ret [D.int 3])
 (.br (c0.toInt == 175) (.ret [D.int 3])
 (.call 39 [] [D.int c0.toInt] fun yy7 =>
 .br ((yy7.getD 0 D.nil).toBool) (.ret [D.int 4])
 (.br (c0.toInt == 47) (.ret [D.int 5])
 (.br (c0.toInt == 9023) (.ret [D.int 5])
 (.br (c0.toInt == 92) (.ret [D.int 5])
 (.br (c0.toInt == 9024) (.ret [D.int 5])
 (.br (c0.toInt == 168) (.ret [D.int 5])
 (.br (c0.toInt == 9064) (.ret [D.int 5])
 (.br (c0.toInt == 9060) (.ret [D.int 5])
 (.br (c0.toInt == 9059) (.ret [D.int 5])
 (.br (c0.toInt == 8728) (.ret [D.int 5])
 (.br (c0.toInt == 46) (.ret [D.int 5])
 (.br (c0.toInt == 40) (.ret [D.int 6])
 (.br (c0.toInt == 41) (.ret [D.int 6])
 (.br (c0.toInt == 91) (.ret [D.int 6])
 (.br (c0.toInt == 93) (.ret [D.int 6])
 (.br (c0.toInt == 123) (.ret [D.int 6])
 (.br (c0.toInt == 125) (.ret [D.int 6])
 (.br (c0.toInt == 59) (.ret [D.int 6])
 (.br (c0.toInt == 58) (.ret [D.int 6])
 (.br (c0.toInt == 8900) (.ret [D.int 6])
 (.br (c0.toInt == 8592) (.ret [D.int 6])
 (.br (c0.toInt == 9082) (.ret [D.int 6])
 (.br (c0.toInt == 9077) (.ret [D.int 6])
 (.br (c0.toInt == 8711) (.ret [D.int 6])
 (.br (c0.toInt == 9109) (.ret [D.int 6])
 (.br (c0.toInt == 9054) (.ret [D.int 6])
 (.br (c0.toInt == 39) (.ret [D.int 6])
 (.br (c0.toInt == 9053) (.ret [D.int 6])
 (.ret [D.int 0])))))))))))))))))))))))))))))))
 (.br (c0.toInt == 175) (.ret [D.int 3])
 (.call 39 [] [D.int c0.toInt] fun yy8 =>
 .br ((yy8.getD 0 D.nil).toBool) (.ret [D.int 4])
 (.br (c0.toInt == 47) (.ret [D.int 5])
 (.br (c0.toInt == 9023) (.ret [D.int 5])
 (.br (c0.toInt == 92) (.ret [D.int 5])
 (.br (c0.toInt == 9024) (.ret [D.int 5])
 (.br (c0.toInt == 168) (.ret [D.int 5])
 (.br (c0.toInt == 9064) (.ret [D.int 5])
 (.br (c0.toInt == 9060) (.ret [D.int 5])
 (.br (c0.toInt == 9059) (.ret [D.int 5])
 (.br (c0.toInt == 8728) (.ret [D.int 5])
 (.br (c0.toInt == 46) (.ret [D.int 5])
 (.br (c0.toInt == 40) (.ret [D.int 6])
 (.br (c0.toInt == 41) (.ret [D.int 6])
 (.br (c0.toInt == 91) (.ret [D.int 6])
 (.br (c0.toInt == 93) (.ret [D.int 6])
 (.br (c0.toInt == 123) (.ret [D.int 6])
 (.br (c0.toInt == 125) (.ret [D.int 6])
 (.br (c0.toInt == 59) (.ret [D.int 6])
 (.br (c0.toInt == 58) (.ret [D.int 6])
 (.br (c0.toInt == 8900) (.ret [D.int 6])
 (.br (c0.toInt == 8592) (.ret [D.int 6])
 (.br (c0.toInt == 9082) (.ret [D.int 6])
 (.br (c0.toInt == 9077) (.ret [D.int 6])
 (.br (c0.toInt == 8711) (.ret [D.int 6])
 (.br (c0.toInt == 9109) (.ret [D.int 6])
 (.br (c0.toInt == 9054) (.ret [D.int 6])
 (.br (c0.toInt == 39) (.ret [D.int 6])
 (.br (c0.toInt == 9053) (.ret [D.int 6])
 (.ret [D.int 0]))))))))))))))))))))))))))))))))))) := by kernel_rfl

/-! scrim/glyph.function -/
def glyph_function_orc : List (Nat × Orc) := [(2000000, ⟨[], [], []⟩)]
theorem glyph_function_tree (n : Nat) (c0 : D) : evFun Try.prog md glyph_function_orc n 39 [] [c0] =
 .br (c0.toInt == 43) (.ret [D.bool true])
 (.br (c0.toInt == 45) (.ret [D.bool true])
 (.br (c0.toInt == 215) (.ret [D.bool true])
 (.br (c0.toInt == 247) (.ret [D.bool true])
 (.br (c0.toInt == 8968) (.ret [D.bool true])
 (.br (c0.toInt == 8970) (.ret [D.bool true])
 (.br (c0.toInt == 124) (.ret [D.bool true])
 (.br (c0.toInt == 42) (.ret [D.bool true])
 (.br (c0.toInt == 33) (.ret [D.bool true])
 (.br (c0.toInt == 126) (.ret [D.bool true])
 (.br (c0.toInt == 60) (.ret [D.bool true])
 (.br (c0.toInt == 8804) (.ret [D.bool true])
 (.br (c0.toInt == 61) (.ret [D.bool true])
 (.br (c0.toInt == 8805) (.ret [D.bool true])
 (.br (c0.toInt == 62) (.ret [D.bool true])
 (.br (c0.toInt == 8800) (.ret [D.bool true])
 (.br (c0.toInt == 8743) (.ret [D.bool true])
 (.br (c0.toInt == 8744) (.ret [D.bool true])
 (.br (c0.toInt == 9076) (.ret [D.bool true])
 (.br (c0.toInt == 44) (.ret [D.bool true])
 (.br (c0.toInt == 9066) (.ret [D.bool true])
 (.br (c0.toInt == 9021) (.ret [D.bool true])
 (.br (c0.toInt == 8854) (.ret [D.bool true])
 (.br (c0.toInt == 9033) (.ret [D.bool true])
 (.br (c0.toInt == 8593) (.ret [D.bool true])
 (.br (c0.toInt == 8595) (.ret [D.bool true])
 (.br (c0.toInt == 8834) (.ret [D.bool true])
 (.br (c0.toInt == 8835) (.ret [D.bool true])
 (.br (c0.toInt == 8801) (.ret [D.bool true])
 (.br (c0.toInt == 8802) (.ret [D.bool true])
 (.br (c0.toInt == 9075) (.ret [D.bool true])
 (.br (c0.toInt == 8714) (.ret [D.bool true])
 (.br (c0.toInt == 8746) (.ret [D.bool true])
 (.br (c0.toInt == 8745) (.ret [D.bool true])
 (.br (c0.toInt == 9080) (.ret [D.bool true])
 (.br (c0.toInt == 9035) (.ret [D.bool true])
 (.br (c0.toInt == 9042) (.ret [D.bool true])
 (.br (c0.toInt == 8866) (.ret [D.bool true])
 (.br (c0.toInt == 8867) (.ret [D.bool true])
 (.ret [D.bool false]))))))))))))))))))))))))))))))))))))))) := by kernel_rfl

/-! scrim/glyph.May -/
def glyph_May_orc : List (Nat × Orc) := []
theorem glyph_May_tree (n : Nat) (c0 : D) : evFun Try.prog md glyph_May_orc n 52 [] [c0] =
 .br (decide ((0 : Int) ≤ c0.toInt)) (.br (decide (c0.toInt ≤ 1114111)) (.br (decide (c0.toInt < 55296)) (.ret [D.bool true])
 (.ret [D.bool (decide (57343 < c0.toInt))]))
 (.ret [D.bool false]))
 (.ret [D.bool false]) := by kernel_rfl

end Go.Proofs.Ytcdjifdllibolaa

set_option maxRecDepth 100000
namespace Go.Proofs.Ytcdjifdllibolaa

/-- The first place of one that is asked for. -/
def idxD (p : Int → Bool) : Nat → List Int → Int
  | _, [] => -1
  | k, x :: xs => if p x then (k : Int) else idxD p (k + 1) xs
theorem idxD_cons (p : Int → Bool) (k : Nat) (x : Int) (xs : List Int) : idxD p k (x :: xs) = if p x then (k : Int) else idxD p (k + 1) xs := rfl
theorem idxD_any (p : Int → Bool) : ∀ (l : List Int) (k : Nat), decide (0 ≤ idxD p k l) = l.any p
  | [], k => by simp [idxD]
  | x :: xs, k => by
    rw [idxD_cons, List.any_cons]
    by_cases hp : p x = true
    · rw [if_pos hp]; simp [hp]
    · rw [if_neg hp, idxD_any p xs (k + 1)]; simp [hp]
theorem slices_Contains_sp (l : List Int) (v : Int) (hb : l.length ≤ 9223372036854775807) : Sp 29 [dI l, .int v] [.bool (l.any (fun x => decide (x = v)))] := by
  refine sound_ 0 (slices_Contains_int_int_tree _ _ _) (wp_call (ys := [.int (idxD (fun x => decide (x = v)) 0 l)]) ?_ (wp_ret ?_))
  · refine sound_ (l.length + 1) (slices_Index_int_int_tree _ _ _) ?_
    have key := loop_list (P := Try.prog) (md := md) l (fun m k (_ : Unit) => slices_Index_int_int_l2 (l.length + 1) m (dI l) v (l.length : Int) (k : Int)) (fun rest _ => [.int (idxD (fun x => decide (x = v)) (l.length - rest.length) rest)]) (fun _ _ => True)
      (fun m k p hk hI => by
        simp only [slices_Index_int_int_l2_succ]
        refine wp_ndec (by omega) (wp_ret ?_)
        simp [idxD])
      (fun m k p x rest hd hI ih => by
        obtain ⟨h1, h2, h3⟩ := drop_cons hd
        have hle := congrArg List.length hd; rw [List.length_drop, List.length_cons] at hle; have hk : l.length - (x :: rest).length = k := by rw [List.length_cons]; omega
        have hk' : l.length - rest.length = k + 1 := by omega
        simp only [slices_Index_int_int_l2_succ, els_dI, List.length_map, Int.toNat_natCast, getD_map h2, toInt_int, wrap_succ (show k < 9223372036854775807 by omega), int_beq]
        repeat (refine wp_dec (by omega) ?_)
        simp only [idxD, hk]
        refine wp_decs (fun h => wp_ret ?_) (fun h => ?_)
        · simp [h]
        · have := ih () trivial
          rw [hk'] at this
          simpa [show ¬ x = v from fun e => h e.symm] using this)
      (l.length + 1) 0 () (by omega) (by omega) trivial
    simpa using key
  · exact congrArg (fun b => [D.bool b]) (idxD_any _ l 0)
def mayC (c : Int) : Bool := decide (0 ≤ c ∧ c ≤ 1114111 ∧ (c < 55296 ∨ 57343 < c))
theorem may_tree (c : Int) : Tw (.br (decide (0 ≤ c)) (.br (decide (c ≤ 1114111)) (.br (decide (c < 55296)) (.ret [D.bool true]) (.ret [D.bool (decide (57343 < c))])) (.ret [D.bool false])) (.ret [D.bool false])) [.bool (mayC c)] := by
  unfold mayC
  refine wp_decs (fun h1 => wp_decs (fun h2 => wp_decs (fun h3 => wp_ret ?_) (fun h3 => wp_ret ?_)) (fun h2 => wp_ret ?_)) (fun h1 => wp_ret ?_)
  · rw [decide_eq_true (by omega)]
  · congr 2; rw [decide_eq_decide]; omega
  · rw [decide_eq_false (by omega)]
  · rw [decide_eq_false (by omega)]
theorem glyph_May_sp (c : Int) : Sp 52 [.int c] [.bool (mayC c)] := sound_ 0 (glyph_May_tree _ _) (may_tree c)
end Go.Proofs.Ytcdjifdllibolaa

set_option maxRecDepth 100000
namespace Go.Proofs.Ytcdjifdllibolaa

theorem can_len {x k : Nat} (h : (lb x).length = k + 1) : B ^ k ≤ x := by
  rcases Nat.lt_or_ge x (B ^ k) with h1 | h1
  · have := lb_len.2 h1; omega
  · exact h1
theorem map_set {α : Type} {f : α → D} {l : List α} {k : Nat} {v : α} : (l.map f).set k (f v) = (l.set k v).map f := by rw [List.map_set]
theorem top_bit (n : Nat) (h : n < 4294967296) : n.testBit 31 = decide (2147483648 ≤ n) := by
  rw [Nat.testBit_eq_decide_div_mod_eq]
  have : n / 2 ^ 31 % 2 = 1 ↔ 2147483648 ≤ n := by omega
  simp only [this]
theorem sub_nat (X Y D c : Nat) (hX : X < 4294967296) (hY : Y < 4294967296) (hc : c ≤ 1) (hD : (D : Int) = ((X : Int) - Y - c) % 4294967296) :
    ((((4294967295 ^^^ X) &&& Y) ||| ((4294967295 ^^^ (X ^^^ Y)) &&& D) : Nat) : Int) / 2147483648 = if X < Y + c then 1 else 0 := by
  have hDl : D < 4294967296 := by omega
  have hN : (((4294967295 ^^^ X) &&& Y) ||| ((4294967295 ^^^ (X ^^^ Y)) &&& D)) < 2 ^ 32 :=
    Nat.or_lt_two_pow (Nat.and_lt_two_pow _ (by omega)) (Nat.and_lt_two_pow _ (by omega))
  have ht := top_bit _ (show _ < 4294967296 from hN)
  rw [Nat.testBit_or, Nat.testBit_and, Nat.testBit_and, Nat.testBit_xor, Nat.testBit_xor, Nat.testBit_xor, top_bit X hX, top_bit Y hY, top_bit D hDl, show Nat.testBit 4294967295 31 = true by decide] at ht
  generalize (((4294967295 ^^^ X) &&& Y) ||| ((4294967295 ^^^ (X ^^^ Y)) &&& D)) = N at *
  by_cases h1 : 2147483648 ≤ X <;> by_cases h2 : 2147483648 ≤ Y <;> by_cases h3 : 2147483648 ≤ D <;> simp [h1, h2, h3] at ht <;> split <;> omega
theorem nat_Cmp_sp (a b : List Limb) (ha : a.length ≤ 1000000) (hb : b.length ≤ 1000000) : Sp 77 [dL a, dL b] [.int (cmpN (nv a) (nv b))] := by
  refine sound_ (a.length + 1) (nat_Cmp_tree _ _ _) (wp_call (nat_trim_sp a (by omega)) (wp_call (nat_trim_sp b (by omega)) ?_))
  have la : (lb (nv a)).length ≤ a.length := lb_len.2 (nv_lt a)
  have lb_ : (lb (nv b)).length ≤ b.length := lb_len.2 (nv_lt b)
  simp only [getD_c0, els_dL, List.length_map]
  refine wp_decs (fun h => wp_ret ?_) (fun h => wp_decs (fun h' => wp_ret ?_) (fun h' => ?_))
  · have h1 : nv a < nv b := by
      have e1 : nv a < B ^ (lb (nv a)).length := lb_len.1 (Nat.le_refl _)
      rcases Nat.lt_or_ge (nv b) (B ^ (lb (nv a)).length) with h2 | h2
      · have := lb_len.2 h2; omega
      · omega
    rw [cmpN, if_pos h1]
  · have h1 : nv b < nv a := by
      have e1 : nv b < B ^ (lb (nv b)).length := lb_len.1 (Nat.le_refl _)
      rcases Nat.lt_or_ge (nv a) (B ^ (lb (nv b)).length) with h2 | h2
      · have := lb_len.2 h2; omega
      · omega
    rw [cmpN, if_neg (by omega), if_neg (by omega)]
  · have hl : (lb (nv b)).length = (lb (nv a)).length := by omega
    have key := loop_down (P := Try.prog) (md := md) (fun m k (_ : Unit) => nat_Cmp_l7 (a.length + 1) m (dL (lb (nv a))) (dL (lb (nv b))) ((k : Int) - 1)) (fun _ _ => [.int (cmpN (nv a) (nv b))]) (fun k _ => k ≤ (lb (nv a)).length ∧ nv a / B ^ k = nv b / B ^ k)
      (fun m s ⟨_, h⟩ => by
        simp only [nat_Cmp_l7_succ]
        refine wp_ndec (by omega) (wp_ret ?_)
        simp at h
        simp [cmpN, h])
      (fun m k s ⟨h0, h⟩ ih => by
        have g1 := nv_limb (lb (nv a)) k (by omega)
        have g2 := nv_limb (lb (nv b)) k (by omega)
        rw [nv_lb] at g1 g2
        have ga : ((lb (nv a)).map dB).getD k D.nil = D.int ((nv a / B ^ k % B : Nat) : Int) := by rw [getD_map (List.getElem?_eq_getElem (show k < (lb (nv a)).length by omega)), ← g1]; rfl
        have gb : ((lb (nv b)).map dB).getD k D.nil = D.int ((nv b / B ^ k % B : Nat) : Int) := by rw [getD_map (List.getElem?_eq_getElem (show k < (lb (nv b)).length by omega)), ← g2]; rfl
        simp only [nat_Cmp_l7_succ, show ((k + 1 : Nat) : Int) - 1 = (k : Int) by omega, dA_0, dA_1, dA_2, dC_0, dC_1, dC_2, dC_3, dC_4, dN_0, dN_1, dN_2, els_sl, els_dI, els_dL, List.length_map, Int.toNat_natCast, toInt_int, toInt_dB, toBool_bool, getD_c0, getD_c1, int_beq, int_bne, not_dec, dInt_dB, Int.toNat_zero, ga, gb]
        have ea := Nat.div_add_mod (nv a / B ^ k) B
        have eb := Nat.div_add_mod (nv b / B ^ k) B
        rw [Nat.div_div_eq_div_mul, ← Nat.pow_succ] at ea eb
        rw [h] at ea
        generalize B * (nv b / B ^ (k + 1)) = q at ea eb
        refine wp_dec (by omega) (wp_dec (by omega) (wp_dec (by omega) (wp_dec (by omega) (wp_dec (by omega) (wp_decs (fun h' => wp_ret ?_) (fun h' => wp_dec (by omega) (wp_dec (by omega) (wp_dec (by omega) (wp_dec (by omega) (wp_decs (fun h2 => wp_ret ?_) (fun h2 => ?_)))))))))))
        · have hlt := lt_of_div (show nv a / B ^ k < nv b / B ^ k by omega)
          simp only [cmpN]; rw [if_pos hlt]
        · have hlt := lt_of_div (show nv b / B ^ k < nv a / B ^ k by omega)
          simp only [cmpN]; rw [if_neg (by omega), if_neg (by omega)]
        · rw [wrap64 (by omega) (by omega)]
          exact ih () ⟨by omega, by omega⟩)
      (a.length + 1) (lb (nv a)).length () (by omega) ⟨by omega, by
        rw [Nat.div_eq_of_lt (lb_len.1 (Nat.le_refl _)), Nat.div_eq_of_lt (lb_len.1 (by omega))]⟩
    rw [wrap64 (by omega) (by omega)]
    exact key
end Go.Proofs.Ytcdjifdllibolaa

set_option maxRecDepth 100000
namespace Go.Proofs.Ytcdjifdllibolaa

theorem or_limb' {r d : Nat} (hr : r < 4294967296) (hd : d < 4294967296) : bits_ .or .u64 ((r * 4294967296 : Nat) : Int) (d : Int) = ((r * 4294967296 + d : Nat) : Int) := by
  have h := or_limb hd hr
  have hc : bits_ .or .u64 ((r * 4294967296 : Nat) : Int) (d : Int) = bits_ .or .u64 (d : Int) ((r * 4294967296 : Nat) : Int) := by unfold bits_; simp only; rw [BitVec.or_comm]
  rw [hc, h, Nat.add_comm]
theorem nat_shorten_ex (l : List Limb) (y : Nat) (hy : 0 < y) (hyB : y < B) (hl : l.length ≤ 1000000) : ∃ q : List Limb, q.length = l.length ∧ nv q = nv l / y ∧ Sp 78 [.sl (l.map dB), .int (y : Int)] [.int ((nv l % y : Nat) : Int), .sl (q.map dB)] := by
  have hq : ∃ q : List Limb, q.length = l.length ∧ nv q = nv l / y := by
    have h1 : nv l / y < B ^ l.length := Nat.lt_of_le_of_lt (Nat.div_le_self _ _) (nv_lt l)
    have h2 := lb_len.2 h1
    refine ⟨lb (nv l / y) ++ List.replicate (l.length - (lb (nv l / y)).length) 0, by simp; omega, ?_⟩
    rw [nv_append, nv_zeros, nv_lb]; simp
  obtain ⟨q0, hq1, hq2⟩ := hq
  refine ⟨q0, hq1, hq2, sound_ (l.length + 1) (nat_shorten_tree _ _ _) ?_⟩
  simp only [els_sl, toInt_int, List.length_map]
  have uniq : ∀ q : List Limb, q.length = l.length → nv q = nv l / y → q = q0 := by
    intro q h1 h2
    apply List.ext_getElem (by omega)
    intro i g1 g2
    apply BitVec.eq_of_toNat_eq
    rw [nv_limb q i g1, nv_limb q0 i g2, h2, hq2]
  have key := loop_down (P := Try.prog) (md := md) (fun m k (s : List Limb × Nat) => nat_shorten_l3 (l.length + 1) m ((l.take k ++ s.1).map dB) (y : Int) (s.2 : Int) ((k : Int) - 1)) (fun _ _ => [.int ((nv l % y : Nat) : Int), .sl (q0.map dB)])
    (fun k s => k ≤ l.length ∧ s.1.length = l.length - k ∧ nv s.1 = nv l / B ^ k / y ∧ s.2 = nv l / B ^ k % y)
    (fun m s ⟨h0, h1, h2, h3⟩ => by
      simp only [nat_shorten_l3_succ, List.take_zero, List.nil_append]
      refine wp_ndec (by omega) (wp_ret ?_)
      simp at h2 h3
      rw [uniq s.1 (by omega) h2, h3]
      have := Nat.mod_lt (nv l) hy
      rw [B_eq] at hyB
      rw [wrapU32 (by omega) (by omega)])
    (fun m k s ⟨h0, h1, h2, h3⟩ ih => by
      have hk : k < l.length := by omega
      have hlen : ((l.take (k + 1) ++ s.1).map dB).length = l.length := by simp; omega
      have gd := nv_limb l k hk
      have hget : ((l.take (k + 1) ++ s.1).map dB).getD k D.nil = D.int ((l[k]).toNat : Int) := by rw [getD_map (x := l[k]) (by rw [List.getElem?_append_left (by simp; omega), List.getElem?_take, if_pos (by omega), List.getElem?_eq_getElem hk])]; rfl
      have hs2 : s.2 < y := by rw [h3]; exact Nat.mod_lt _ hy
      have dl := limb_lt l[k]
      have hQ : nv l / B ^ k = B * (nv l / B ^ (k + 1)) + (l[k]).toNat := by
        rw [gd, Nat.pow_succ, ← Nat.div_div_eq_div_mul]; exact (Nat.div_add_mod _ _).symm
      generalize hdd : (l[k]).toNat = d at *
      have e1 := Nat.div_add_mod (nv l / B ^ (k + 1)) y
      rw [← h2, ← h3] at e1
      have hQ2 : nv l / B ^ k = y * (B * nv s.1) + (s.2 * B + d) := by
        rw [hQ, ← e1, Nat.mul_add, Nat.mul_left_comm, Nat.mul_comm B s.2]; omega
      have hd1 : nv l / B ^ k / y = B * nv s.1 + (s.2 * B + d) / y := by rw [hQ2, Nat.mul_add_div hy]
      have hd2 : nv l / B ^ k % y = (s.2 * B + d) % y := by rw [hQ2, Nat.mul_add_mod]
      have hlt : (s.2 * B + d) / y < B := by
        rw [Nat.div_lt_iff_lt_mul hy]
        have : (s.2 + 1) * B ≤ y * B := Nat.mul_le_mul_right _ hs2
        rw [Nat.add_mul, Nat.one_mul] at this
        rw [Nat.mul_comm B y]; omega
      rw [B_eq] at hyB dl hlt
      have b64 : (2 : Int) ^ (min (Int.toNat 32) (IntKind.bits .u64)) = 4294967296 := by decide
      have t1 : IntKind.wrap .u64 ((s.2 : Int) * 4294967296) = ((s.2 * 4294967296 : Nat) : Int) := by rw [wrapU64 (by omega) (by omega)]; omega
      have t2 : IntKind.wrap .u64 (d : Int) = (d : Int) := wrapU64 (by omega) (by omega)
      have t3 : IntKind.wrap .u64 (y : Int) = (y : Int) := wrapU64 (by omega) (by omega)
      have t4 : IntKind.wrap .u64 (Int.tdiv ((s.2 * 4294967296 + d : Nat) : Int) (y : Int)) = (((s.2 * 4294967296 + d) / y : Nat) : Int) := by
        rw [show Int.tdiv ((s.2 * 4294967296 + d : Nat) : Int) (y : Int) = (((s.2 * 4294967296 + d) / y : Nat) : Int) from rfl]
        generalize (s.2 * 4294967296 + d) / y = qq at hlt ⊢
        exact wrapU64 (by omega) (by omega)
      have t5 : Int.tmod ((s.2 * 4294967296 + d : Nat) : Int) (y : Int) = (((s.2 * 4294967296 + d) % y : Nat) : Int) := rfl
      have t6 : IntKind.wrap .u32 (((s.2 * 4294967296 + d) / y : Nat) : Int) = (((s.2 * 4294967296 + d) / y : Nat) : Int) := by
        generalize (s.2 * 4294967296 + d) / y = qq at hlt ⊢
        exact wrapU32 (by omega) (by omega)
      simp only [nat_shorten_l3_succ, show ((k + 1 : Nat) : Int) - 1 = (k : Int) by omega, Int.toNat_natCast, hget, hlen, toInt_int, b64, t1, t2, t3, or_limb' (show s.2 < 4294967296 by omega) dl, t4, t5, t6]
      have hset : ((l.take (k + 1) ++ s.1).map dB).set k (D.int (((s.2 * 4294967296 + d) / y : Nat) : Int)) = (l.take k ++ (BitVec.ofNat 32 ((s.2 * 4294967296 + d) / y) :: s.1)).map dB := by
        rw [dB_ofNat hlt, map_set, List.take_succ_eq_append_getElem hk, List.append_assoc, List.set_append_right _ _ (by rw [List.length_take]; omega), List.length_take, Nat.min_eq_left (by omega), Nat.sub_self]; rfl
      rw [hset, wrap64 (by omega) (by omega)]
      have hne : (!((y : Int) == 0)) = true := by simp; omega
      refine wp_dec (by omega) (wp_tt (by decide) (wp_dec (by omega) (wp_dec (by omega) (wp_tt hne (wp_dec (by omega) (wp_dec (by omega) (wp_tt hne ?_)))))))
      refine ih (BitVec.ofNat 32 ((s.2 * 4294967296 + d) / y) :: s.1, (s.2 * 4294967296 + d) % y) ⟨by omega, by simp; omega, ?_, hd2.symm⟩
      rw [nv, ofNat_lt hlt]
      show (s.2 * B + d) / y + B * nv s.1 = _
      rw [hd1, Nat.add_comm])
    (l.length + 1) l.length ([], 0) (by omega) ⟨by omega, by simp, by rw [Nat.div_eq_of_lt (nv_lt l)]; simp, by rw [Nat.div_eq_of_lt (nv_lt l)]; simp⟩
  rw [List.take_length, List.append_nil] at key
  rw [wrap64 (by omega) (by omega)]
  exact key
/-- What the long division has to tell. -/
def LongOk (x y : Nat) : Prop := 1 < (lb y).length → y ≤ x → Sp 79 [dL (lb x), dL (lb y)] [dL (lb (x / y)), dL (lb (x % y))]
theorem nat_DivMod_sp (a b : List Limb) (ha : a.length ≤ 100000) (hb : b.length ≤ 100000) (hL : LongOk (nv a) (nv b)) : Sp 74 [dL a, dL b] [dL (lb (nv a / nv b)), dL (lb (if nv b = 0 then 0 else nv a % nv b)), .bool (decide (nv b ≠ 0))] := by
  refine sound_ 0 (nat_DivMod_tree _ _ _) (wp_call (nat_trim_sp a (by omega)) (wp_call (nat_trim_sp b (by omega)) ?_))
  have la : (lb (nv a)).length ≤ a.length := lb_len.2 (nv_lt a)
  have lb_ : (lb (nv b)).length ≤ b.length := lb_len.2 (nv_lt b)
  simp only [getD_c0, els_dL, List.length_map, int_beq]
  refine wp_decs (fun h => wp_ret ?_) (fun h => ?_)
  · have h0 : nv b = 0 := lb_len0.1 (by omega)
    rw [h0, Nat.div_zero, if_pos rfl, lb_zero]; rfl
  have h0 : nv b ≠ 0 := fun hh => h (by rw [hh, lb_zero]; rfl)
  rw [if_neg h0, decide_eq_true h0]
  have cm := nat_Cmp_sp (lb (nv a)) (lb (nv b)) (by omega) (by omega)
  rw [nv_lb, nv_lb] at cm
  refine wp_call cm ?_
  simp only [getD_c0, toInt_int]
  refine wp_decs (fun h1 => ?_) (fun h1 => ?_)
  · have hlt : nv a < nv b := by
      unfold cmpN at h1
      rcases Nat.lt_or_ge (nv a) (nv b) with h2 | h2
      · exact h2
      · rw [if_neg (by omega)] at h1; split at h1 <;> omega
    have nm := nat_Norm_sp (lb (nv a)) (by omega)
    rw [nv_lb] at nm
    refine wp_call nm (wp_ret ?_)
    rw [Nat.div_eq_of_lt hlt, Nat.mod_eq_of_lt hlt, lb_zero]; rfl
  have hge : nv b ≤ nv a := by
    unfold cmpN at h1
    rcases Nat.lt_or_ge (nv a) (nv b) with h2 | h2
    · rw [if_pos h2] at h1; omega
    · exact h2
  refine wp_decs (fun h2 => ?_) (fun h2 => ?_)
  · obtain ⟨d, hd⟩ : ∃ d, lb (nv b) = [d] := by
      match hh : lb (nv b) with
      | [d] => exact ⟨d, rfl⟩
      | [] => rw [hh] at h2; simp at h2
      | _ :: _ :: _ => rw [hh] at h2; simp at h2; omega
    have hbv : nv b = d.toNat := by rw [← nv_lb (nv b), hd]; simp [nv]
    have nm := nat_Norm_sp (lb (nv a)) (by omega)
    rw [nv_lb] at nm
    refine wp_call nm ?_
    simp only [hd, List.map_cons, List.map_nil, List.length_cons, List.length_nil, Int.toNat_zero, getD_c0, els_dL, toInt_dB]
    rw [← hbv]
    have hdB : nv b < B := by rw [hbv]; exact limb_lt d
    obtain ⟨q, q1, q2, q3⟩ := nat_shorten_ex (lb (nv a)) (nv b) (by omega) hdB (by omega)
    rw [nv_lb] at q2 q3
    refine wp_dec (by omega) (wp_dec (by omega) (wp_call q3 ?_))
    have hr : nv a % nv b < B := Nat.lt_of_lt_of_le (Nat.mod_lt _ (by omega)) (by omega)
    simp only [getD_c0, getD_c1, els_sl, toInt_int]
    refine wp_call (nat_trim_sp q (by omega)) ?_
    rw [dB_ofNat hr]
    refine wp_call (nat_Norm_sp [BitVec.ofNat 32 (nv a % nv b)] (by simp)) (wp_ret ?_)
    have e : nv [BitVec.ofNat 32 (nv a % nv b)] = nv a % nv b := by simp only [nv]; rw [ofNat_lt hr]; omega
    rw [e, q2]; rfl
  · exact wp_call (hL (by omega) hge) (wp_ret rfl)
end Go.Proofs.Ytcdjifdllibolaa

set_option maxRecDepth 100000
namespace Go.Proofs.Ytcdjifdllibolaa

theorem zv_neg {w : Wh} (h : nv w.mag ≠ 0) : (zv w < 0) ↔ w.neg = true := by unfold zv; cases w.neg <;> simp <;> omega
def lenZ (z : Int) : Nat := (lb z.natAbs).length
end Go.Proofs.Ytcdjifdllibolaa

set_option maxRecDepth 100000
namespace Go.Proofs.Ytcdjifdllibolaa

theorem inr (z : Int) (h1 : -100000 ≤ z := by decide) (h2 : z ≤ 100000 := by decide) : inR z := by unfold inR; omega
end Go.Proofs.Ytcdjifdllibolaa

set_option maxRecDepth 100000
namespace Go.Proofs.Ytcdjifdllibolaa

def len8tab : ByteArray := (⟨#[0, 1, 2, 2, 3, 3, 3, 3, 4, 4, 4, 4, 4, 4, 4, 4, 5, 5, 5, 5, 5, 5, 5, 5, 5, 5, 5, 5, 5, 5, 5, 5, 6, 6, 6, 6, 6, 6, 6, 6, 6, 6, 6, 6, 6, 6, 6, 6, 6, 6, 6, 6, 6, 6, 6, 6, 6, 6, 6, 6, 6, 6, 6, 6, 7, 7, 7, 7, 7, 7, 7, 7, 7, 7, 7, 7, 7, 7, 7, 7, 7, 7, 7, 7, 7, 7, 7, 7, 7, 7, 7, 7, 7, 7, 7, 7, 7, 7, 7, 7, 7, 7, 7, 7, 7, 7, 7, 7, 7, 7, 7, 7, 7, 7, 7, 7, 7, 7, 7, 7, 7, 7, 7, 7, 7, 7, 7, 7, 8, 8, 8, 8, 8, 8, 8, 8, 8, 8, 8, 8, 8, 8, 8, 8, 8, 8, 8, 8, 8, 8, 8, 8, 8, 8, 8, 8, 8, 8, 8, 8, 8, 8, 8, 8, 8, 8, 8, 8, 8, 8, 8, 8, 8, 8, 8, 8, 8, 8, 8, 8, 8, 8, 8, 8, 8, 8, 8, 8, 8, 8, 8, 8, 8, 8, 8, 8, 8, 8, 8, 8, 8, 8, 8, 8, 8, 8, 8, 8, 8, 8, 8, 8, 8, 8, 8, 8, 8, 8, 8, 8, 8, 8, 8, 8, 8, 8, 8, 8, 8, 8, 8, 8, 8, 8, 8, 8, 8, 8, 8, 8, 8, 8, 8, 8, 8, 8, 8, 8, 8, 8, 8, 8, 8, 8, 8, 8]⟩ : ByteArray)
def len8 (i : Nat) : Nat := (len8tab.data.toList.getD i 0).toNat
theorem len8_ok : ((List.range 256).all fun i => decide (i < 2 ^ len8 i) && (i == 0 || decide (2 ^ len8 i ≤ 2 * i)) && decide (len8 i ≤ 8)) = true := by kernel_rfl
theorem len8_is {i : Nat} (h : i < 256) : i < 2 ^ len8 i ∧ (0 < i → 2 ^ len8 i ≤ 2 * i) ∧ len8 i ≤ 8 := by
  have := List.all_eq_true.1 len8_ok i (List.mem_range.2 h)
  simp only [Bool.and_eq_true, decide_eq_true_eq, Bool.or_eq_true, beq_iff_eq] at this
  exact ⟨this.1.1, fun h0 => by rcases this.1.2 with h | h <;> omega, this.2⟩
theorem wrapU8 {x : Int} (h1 : 0 ≤ x) (h2 : x < 256) : IntKind.wrap .u8 x = x := by rw [IntKind.wrap_u8]; omega
theorem fdivN (x y : Nat) : Int.fdiv (x : Int) (y : Int) = ((x / y : Nat) : Int) := by
  rw [Int.fdiv_eq_ediv_of_nonneg _ (Int.natCast_nonneg _)]; rfl
theorem bits_Len32_ex (x : Nat) (hx : x < B) : ∃ k : Nat, Sp 86 [.int (x : Int)] [.int (k : Int)] ∧ k ≤ 32 ∧ x < 2 ^ k ∧ (0 < x → 2 ^ k ≤ 2 * x) := by
  have e16 : (2 : Int) ^ (min (Int.toNat 16) (IntKind.bits .u32)) = ((65536 : Nat) : Int) := by decide
  have e8 : (2 : Int) ^ (min (Int.toNat 8) (IntKind.bits .u32)) = ((256 : Nat) : Int) := by decide
  have hsz : (len8tab.size : Int) = 256 := by have : len8tab.size = 256 := by kernel_rfl
                                              omega
  rw [B_eq] at hx
  have tr := bits_Len32_tree 0 (.int (x : Int))
  rw [show (⟨#[0, 1, 2, 2, 3, 3, 3, 3, 4, 4, 4, 4, 4, 4, 4, 4, 5, 5, 5, 5, 5, 5, 5, 5, 5, 5, 5, 5, 5, 5, 5, 5, 6, 6, 6, 6, 6, 6, 6, 6, 6, 6, 6, 6, 6, 6, 6, 6, 6, 6, 6, 6, 6, 6, 6, 6, 6, 6, 6, 6, 6, 6, 6, 6, 7, 7, 7, 7, 7, 7, 7, 7, 7, 7, 7, 7, 7, 7, 7, 7, 7, 7, 7, 7, 7, 7, 7, 7, 7, 7, 7, 7, 7, 7, 7, 7, 7, 7, 7, 7, 7, 7, 7, 7, 7, 7, 7, 7, 7, 7, 7, 7, 7, 7, 7, 7, 7, 7, 7, 7, 7, 7, 7, 7, 7, 7, 7, 7, 8, 8, 8, 8, 8, 8, 8, 8, 8, 8, 8, 8, 8, 8, 8, 8, 8, 8, 8, 8, 8, 8, 8, 8, 8, 8, 8, 8, 8, 8, 8, 8, 8, 8, 8, 8, 8, 8, 8, 8, 8, 8, 8, 8, 8, 8, 8, 8, 8, 8, 8, 8, 8, 8, 8, 8, 8, 8, 8, 8, 8, 8, 8, 8, 8, 8, 8, 8, 8, 8, 8, 8, 8, 8, 8, 8, 8, 8, 8, 8, 8, 8, 8, 8, 8, 8, 8, 8, 8, 8, 8, 8, 8, 8, 8, 8, 8, 8, 8, 8, 8, 8, 8, 8, 8, 8, 8, 8, 8, 8, 8, 8, 8, 8, 8, 8, 8, 8, 8, 8, 8, 8, 8, 8, 8, 8, 8, 8]⟩ : ByteArray) = len8tab from rfl] at tr
  simp only [toInt_int, e16, e8, fdivN, hsz] at tr
  have fin : ∀ i c : Nat, i < 256 → c ≤ 24 → IntKind.wrap .i64 ((c : Int) + IntKind.wrap .i64 (((len8tab.data.toList.getD (Int.toNat (IntKind.wrap .u8 (i : Int))) 0).toNat : Nat) : Int)) = ((c + len8 i : Nat) : Int) := by
    intro i c hi hc
    have h8 := (len8_is hi).2.2
    rw [wrapU8 (by omega) (by omega), Int.toNat_natCast]
    show IntKind.wrap .i64 ((c : Int) + IntKind.wrap .i64 ((len8 i : Nat) : Int)) = _
    rw [wrap64 (x := ((len8 i : Nat) : Int)) (by omega) (by omega), wrap64 (by omega) (by omega)]; omega
  have up : ∀ i c : Nat, i < 256 → 0 < i → i = x / 2 ^ c → x < 2 ^ (c + len8 i) ∧ 2 ^ (c + len8 i) ≤ 2 * x := by
    intro i c hi h0 he
    obtain ⟨h1, h2, _⟩ := len8_is hi
    have h3 := h2 h0
    rw [Nat.pow_add]
    have hp : 0 < 2 ^ c := Nat.pow_pos (by decide)
    constructor
    · have : x / 2 ^ c < 2 ^ len8 i := by omega
      rw [Nat.div_lt_iff_lt_mul hp] at this
      rwa [Nat.mul_comm]
    · have h4 : i * 2 ^ c ≤ x := by rw [he]; exact Nat.div_mul_le_self _ _
      calc 2 ^ c * 2 ^ len8 i ≤ 2 ^ c * (2 * i) := Nat.mul_le_mul_left _ h3
        _ = 2 * (i * 2 ^ c) := by rw [Nat.mul_left_comm, Nat.mul_comm (2 ^ c) i]
        _ ≤ 2 * x := Nat.mul_le_mul_left _ h4
  by_cases h1 : 65536 ≤ x
  · by_cases h2 : 256 ≤ x / 65536
    · have hi : x / 65536 / 256 < 256 := by omega
      obtain ⟨u1, u2⟩ := up _ 24 hi (by omega) (by rw [Nat.div_div_eq_div_mul])
      have f1 := fin _ 24 hi (by omega)
      refine ⟨24 + len8 (x / 65536 / 256), sound_ 0 tr ?_, by have := (len8_is hi).2.2; omega, u1, fun _ => u2⟩
      refine wp_dec (by omega) (wp_tt (by decide) (wp_dec (by omega) (wp_tt (by decide) (wp_dec (by rw [wrapU8 (by omega) (by omega)]; omega) (wp_dec (by rw [wrapU8 (by omega) (by omega)]; omega) (wp_ret ?_))))))
      rw [show IntKind.wrap .i64 (16 + 8) = ((24 : Nat) : Int) by decide, f1]
    · have hi : x / 65536 < 256 := by omega
      obtain ⟨u1, u2⟩ := up _ 16 hi (by omega) (by rfl)
      have f1 := fin _ 16 hi (by omega)
      refine ⟨16 + len8 (x / 65536), sound_ 0 tr ?_, by have := (len8_is hi).2.2; omega, u1, fun _ => u2⟩
      refine wp_dec (by omega) (wp_tt (by decide) (wp_ndec (by omega) (wp_dec (by rw [wrapU8 (by omega) (by omega)]; omega) (wp_dec (by rw [wrapU8 (by omega) (by omega)]; omega) (wp_ret ?_)))))
      rw [show (16 : Int) = ((16 : Nat) : Int) from rfl, f1]
  · by_cases h2 : 256 ≤ x
    · have hi : x / 256 < 256 := by omega
      obtain ⟨u1, u2⟩ := up _ 8 hi (by omega) (by rfl)
      have f1 := fin _ 8 hi (by omega)
      refine ⟨8 + len8 (x / 256), sound_ 0 tr ?_, by have := (len8_is hi).2.2; omega, u1, fun _ => u2⟩
      refine wp_ndec (by omega) (wp_dec (by omega) (wp_tt (by decide) (wp_dec (by rw [wrapU8 (by omega) (by omega)]; omega) (wp_dec (by rw [wrapU8 (by omega) (by omega)]; omega) (wp_ret ?_)))))
      rw [show IntKind.wrap .i64 (0 + 8) = ((8 : Nat) : Int) by decide, f1]
    · have hi : x < 256 := by omega
      have f1 := fin _ 0 hi (by omega)
      have h8 := len8_is hi
      refine ⟨0 + len8 x, sound_ 0 tr ?_, by omega, by rw [Nat.zero_add]; exact h8.1, fun h0 => by rw [Nat.zero_add]; exact h8.2.1 h0⟩
      refine wp_ndec (by omega) (wp_ndec (by omega) (wp_dec (by rw [wrapU8 (by omega) (by omega)]; omega) (wp_dec (by rw [wrapU8 (by omega) (by omega)]; omega) (wp_ret ?_))))
      rw [show (0 : Int) = ((0 : Nat) : Int) from rfl, f1]
/-- How far a limb is to be shifted. -/
theorem bits_Lz_ex (x : Nat) (hx : x < B) (h0 : 0 < x) : ∃ s : Nat, Sp 80 [.int (x : Int)] [.int (s : Int)] ∧ s < 32 ∧ x * 2 ^ s < B ∧ B ≤ 2 * (x * 2 ^ s) := by
  obtain ⟨k, h1, h2, h3, h4⟩ := bits_Len32_ex x hx
  have h5 := h4 h0
  have hk : 0 < k := by
    rcases Nat.eq_zero_or_pos k with e | e
    · subst e; simp at h3; omega
    · exact e
  have hb : B = 2 ^ k * 2 ^ (32 - k) := by rw [← Nat.pow_add, show k + (32 - k) = 32 by omega]; rfl
  have hp : 0 < 2 ^ (32 - k) := Nat.pow_pos (by decide)
  refine ⟨32 - k, sound_ 0 (bits_LeadingZeros32_tree _ _) (wp_call h1 (wp_ret ?_)), by omega, ?_, ?_⟩
  · simp only [getD_c0, toInt_int]
    rw [wrap64 (by omega) (by omega)]; congr 2; omega
  · rw [hb]; exact Nat.mul_lt_mul_of_pos_right h3 hp
  · rw [hb, ← Nat.mul_assoc]; exact Nat.mul_le_mul_right _ h5
theorem nv_inj {l m : List Limb} (hl : l.length = m.length) (h : nv l = nv m) : l = m := by
  apply List.ext_getElem hl
  intro i g1 g2
  apply BitVec.eq_of_toNat_eq
  rw [nv_limb l i g1, nv_limb m i g2, h]
/-- A number as so many limbs. -/
theorem nv_pad {v k : Nat} (h : v < B ^ k) : ∃ q : List Limb, q.length = k ∧ nv q = v := by
  have h2 := lb_len.2 h
  refine ⟨lb v ++ List.replicate (k - (lb v).length) 0, by simp; omega, ?_⟩
  rw [nv_append, nv_zeros, nv_lb]; simp
theorem or64 {X Y : Nat} (hX : X < 18446744073709551616) (hY : Y < 18446744073709551616) : bits_ .or .u64 (X : Int) (Y : Int) = ((X ||| Y : Nat) : Int) := by
  have h : bits_ .or .u64 (X : Int) (Y : Int) = bits .or .u64 (X : Int) (Y : Int) := by unfold bits_ bits; simp
  rw [h, u64_or_nat X Y hX hY]
theorem or_shl {x c s : Nat} (hx : x < B) (hs : s < 32) (hc : c < 2 ^ s) : bits_ .or .u64 ((x * 2 ^ s : Nat) : Int) (c : Int) = ((x * 2 ^ s + c : Nat) : Int) ∧ x * 2 ^ s + c < 9223372036854775808 := by
  have h2 : 2 ^ s ≤ 2 ^ 31 := Nat.pow_le_pow_right (by decide) (by omega)
  have h3 : x * 2 ^ s ≤ (B - 1) * 2 ^ 31 := Nat.mul_le_mul (by omega) h2
  rw [B_eq] at *
  refine ⟨?_, by omega⟩
  rw [or64 (by omega) (by omega)]
  congr 1
  have := Nat.shiftLeft_add_eq_or_of_lt (i := s) (b := c) hc x
  rw [Nat.shiftLeft_eq] at this
  exact this.symm
theorem pw_s {s : Nat} (hs : s < 32) : (2 : Int) ^ (min (Int.toNat (IntKind.wrap .u64 (s : Int))) (IntKind.bits .u64)) = ((2 ^ s : Nat) : Int) := by
  rw [wrapU64 (by omega) (by omega), Int.toNat_natCast, show IntKind.bits .u64 = 64 from rfl, Nat.min_eq_left (by omega)]; simp
theorem nat_up_ex (l : List Limb) (s : Nat) (hs : s < 32) (hl : l.length ≤ 1000000) : ∃ q : List Limb, q.length = l.length + 1 ∧ nv q = nv l * 2 ^ s ∧ Sp 81 [dL l, .int (s : Int)] [dL q] := by
  have hps : 2 ^ s ≤ 2 ^ 31 := Nat.pow_le_pow_right (by decide) (by omega)
  have hs0 : 0 < 2 ^ s := Nat.pow_pos (by decide)
  have hv : nv l * 2 ^ s < B ^ (l.length + 1) := by
    rw [Nat.pow_succ]
    exact Nat.mul_lt_mul'' (nv_lt l) (by rw [B_eq]; omega)
  obtain ⟨q, hq1, hq2⟩ := nv_pad hv
  refine ⟨q, hq1, hq2, sound_ (l.length + 2) (nat_up_tree _ _ _) ?_⟩
  simp only [dA_0, dA_1, dA_2, dC_0, dC_1, dC_2, dC_3, dC_4, dN_0, dN_1, dN_2, els_sl, els_dI, els_dL, List.length_map, Int.toNat_natCast, toInt_int, toInt_dB, toBool_bool, getD_c0, getD_c1, int_beq, int_bne, not_dec, dInt_dB, Int.toNat_zero]
  rw [wrap64 (by omega) (by omega)]
  refine wp_dec (by omega) (wp_dec (by omega) (wp_dec (by simp only [bigN]; omega) ?_))
  rw [show (l.length : Int) + 1 = ((l.length + 1 : Nat) : Int) by omega, Int.toNat_natCast]
  have key := loop_up (P := Try.prog) (md := md) l.length (fun m i (t : List Limb × Nat) => nat_up_l4 (l.length + 2) m (dL l) (s : Int) ((t.1 ++ List.replicate (l.length + 1 - i) 0).map dB) (t.2 : Int) (dL l) (l.length : Int) (i : Int)) (fun _ _ => [dL q])
    (fun i t => t.1.length = i ∧ t.2 < 2 ^ s ∧ nv t.1 + B ^ i * t.2 = (nv l % B ^ i) * 2 ^ s)
    (fun m t ⟨h1, h2, h3⟩ => by
      have hlen : (t.1 ++ List.replicate (l.length + 1 - l.length) (0 : Limb)).length = l.length + 1 := by simp [h1]
      have hc : t.2 < B := by rw [B_eq]; omega
      rw [Nat.mod_eq_of_lt (nv_lt l)] at h3
      simp only [nat_up_l4_succ, dA_0, dA_1, dA_2, dC_0, dC_1, dC_2, dC_3, dC_4, dN_0, dN_1, dN_2, els_sl, els_dI, els_dL, List.length_map, Int.toNat_natCast, toInt_int, toInt_dB, toBool_bool, getD_c0, getD_c1, int_beq, int_bne, not_dec, dInt_dB, Int.toNat_zero, hlen]
      rw [B_eq] at hc
      rw [wrapU32 (x := (t.2 : Int)) (by omega) (by omega)]
      rw [← B_eq] at hc
      refine wp_ndec (by omega) (wp_dec (by omega) (wp_dec (by omega) (wp_ret ?_)))
      rw [dB_ofNat hc, map_set, List.set_append_right _ _ (by omega), h1, Nat.sub_self, show l.length + 1 - l.length = 1 by omega]
      have : t.1 ++ [BitVec.ofNat 32 t.2] = q := nv_inj (by simp [h1, hq1]) (by rw [nv_snoc, h1, ofNat_lt hc, h3, hq2])
      rw [← this]; rfl)
    (fun m i t hi ⟨h1, h2, h3⟩ ih => by
      have gx := nv_limb l i hi
      have xl : nv l / B ^ i % B < B := Nat.mod_lt _ B_pos
      have hms : nv l % B ^ (i + 1) = nv l % B ^ i + B ^ i * (nv l / B ^ i % B) := Nat.mod_pow_succ
      have hlen : (t.1 ++ List.replicate (l.length + 1 - i) (0 : Limb)).length = l.length + 1 := by simp [h1]; omega
      have gX : (l.map dB).getD i D.nil = D.int ((nv l / B ^ i % B : Nat) : Int) := by rw [getD_map (List.getElem?_eq_getElem hi), ← gx]; rfl
      simp only [nat_up_l4_succ, dA_0, dA_1, dA_2, dC_0, dC_1, dC_2, dC_3, dC_4, dN_0, dN_1, dN_2, els_sl, els_dI, els_dL, List.length_map, Int.toNat_natCast, toInt_int, toInt_dB, toBool_bool, getD_c0, getD_c1, int_beq, int_bne, not_dec, dInt_dB, Int.toNat_zero, gX, hlen, pw_s hs, wrap_succ (show i < 9223372036854775807 by omega)]
      generalize nv l / B ^ i % B = x at *
      obtain ⟨ho, hT⟩ := or_shl xl hs h2
      have hxB := xl
      rw [B_eq] at hxB
      rw [wrapU64 (x := (x : Int)) (by omega) (by omega), ← Int.natCast_mul, wrapU64 (x := ((x * 2 ^ s : Nat) : Int)) (by omega) (by omega), ho]
      generalize hTT : x * 2 ^ s + t.2 = T at *
      have hTl := Nat.mod_lt T B_pos
      have t4 : IntKind.wrap .u32 (T : Int) = ((T % B : Nat) : Int) := by rw [IntKind.wrap_u32, B_eq]; omega
      have hset : ((t.1 ++ List.replicate (l.length + 1 - i) 0).map dB).set i (D.int ((T % B : Nat) : Int)) = ((t.1 ++ [BitVec.ofNat 32 (T % B)]) ++ List.replicate (l.length + 1 - (i + 1)) 0).map dB := by
        rw [dB_ofNat hTl, map_set, List.set_append_right _ _ (by omega), h1, Nat.sub_self, show l.length + 1 - i = (l.length + 1 - (i + 1)) + 1 by omega, List.replicate_succ, List.set_cons_zero]; simp
      rw [t4, hset, fdiv32]
      refine wp_dec (by omega) (wp_dec (by omega) (wp_dec (by omega) (wp_dec (by rw [wrapU64 (by omega) (by omega)]; omega) (wp_dec (by omega) (wp_dec (by omega) (wp_tt (by decide) ?_))))))
      refine ih (t.1 ++ [BitVec.ofNat 32 (T % B)], T / 4294967296) ⟨by simp [h1], ?_, ?_⟩
      · show T / B < 2 ^ s
        rw [Nat.div_lt_iff_lt_mul B_pos, ← hTT]
        have : x * 2 ^ s + 2 ^ s ≤ B * 2 ^ s := by rw [← Nat.succ_mul]; exact Nat.mul_le_mul_right _ xl
        rw [Nat.mul_comm (2 ^ s) B]; omega
      · show nv (t.1 ++ [BitVec.ofNat 32 (T % B)]) + B ^ (i + 1) * (T / B) = _
        rw [nv_snoc, h1, ofNat_lt hTl, hms, Nat.add_mul, ← h3, Nat.pow_succ, Nat.mul_assoc, Nat.mul_assoc (B ^ i) x, Nat.add_assoc, ← Nat.mul_add, Nat.mod_add_div, ← hTT, Nat.mul_add]
        omega)
    (l.length + 2) 0 ([], 0) (by omega) (by omega) ⟨rfl, hs0, by simp [Nat.mod_one, nv]⟩
  have e0 : (([] : List Limb) ++ List.replicate (l.length + 1 - 0) 0).map dB = List.replicate (l.length + 1) (D.int 0) := by simp [List.map_replicate]; rfl
  rw [e0] at key
  exact key
theorem down_limb (V s k : Nat) (hs : s < 32) : V / 2 ^ s / B ^ k % B = ((V / B ^ (k + 1) % B) * B + V / B ^ k % B) / 2 ^ s % B := by
  have hs0 : 0 < 2 ^ s := Nat.pow_pos (by decide)
  have hB : B = 2 ^ s * 2 ^ (32 - s) := by rw [← Nat.pow_add, show s + (32 - s) = 32 by omega]; rfl
  rw [Nat.div_div_eq_div_mul, Nat.mul_comm (2 ^ s), ← Nat.div_div_eq_div_mul, Nat.pow_succ, ← Nat.div_div_eq_div_mul]
  generalize V / B ^ k = W
  have h1 : W = (W / B % B * B + W % B) + 2 ^ s * (B * (2 ^ (32 - s) * (W / B / B))) := by
    have e1 := Nat.div_add_mod W B
    have e2 := Nat.div_add_mod (W / B) B
    have e3 : 2 ^ s * (B * (2 ^ (32 - s) * (W / B / B))) = B * (B * (W / B / B)) := by
      rw [Nat.mul_left_comm, ← Nat.mul_assoc (2 ^ s), ← hB]
    rw [e3, Nat.mul_comm (W / B % B) B]
    have e4 : B * (W / B) = B * (B * (W / B / B)) + B * (W / B % B) := by rw [← Nat.mul_add, e2]
    omega
  have h2 : W / 2 ^ s = (W / B % B * B + W % B) / 2 ^ s + B * (2 ^ (32 - s) * (W / B / B)) := by
    have : W / 2 ^ s = ((W / B % B * B + W % B) + 2 ^ s * (B * (2 ^ (32 - s) * (W / B / B)))) / 2 ^ s := by rw [← h1]
    rw [this, Nat.add_mul_div_left _ _ hs0]
  rw [h2, Nat.add_mul_mod_self_left]
theorem nat_down_sp (l : List Limb) (s : Nat) (hs : s < 32) (hl : l.length ≤ 1000000) : Sp 85 [dL l, .int (s : Int)] [dL (lb (nv l / 2 ^ s))] := by
  refine sound_ (l.length + 1) (nat_down_tree _ _ _) ?_
  simp only [dA_0, dA_1, dA_2, dC_0, dC_1, dC_2, dC_3, dC_4, dN_0, dN_1, dN_2, els_sl, els_dI, els_dL, List.length_map, Int.toNat_natCast, toInt_int, toInt_dB, toBool_bool, getD_c0, getD_c1, int_beq, int_bne, not_dec, dInt_dB, Int.toNat_zero]
  refine wp_dec (by omega) (wp_dec (by omega) (wp_dec (by simp only [bigN]; omega) ?_))
  have key := loop_down (P := Try.prog) (md := md) (fun m k (hi : List Limb) => nat_down_l4 (l.length + 1) m (dL l) (s : Int) ((List.replicate k 0 ++ hi).map dB) ((nv l / B ^ k % B : Nat) : Int) ((k : Int) - 1)) (fun _ _ => [dL (lb (nv l / 2 ^ s))])
    (fun k hi => k ≤ l.length ∧ hi.length = l.length - k ∧ nv hi = nv l / 2 ^ s / B ^ k)
    (fun m hi ⟨h0, h1, h2⟩ => by
      simp only [nat_down_l4_succ, List.replicate_zero, List.nil_append, dA_0, dA_1, dA_2, dC_0, dC_1, dC_2, dC_3, dC_4, dN_0, dN_1, dN_2, els_sl, els_dI, els_dL, List.length_map, Int.toNat_natCast, toInt_int, toInt_dB, toBool_bool, getD_c0, getD_c1, int_beq, int_bne, not_dec, dInt_dB, Int.toNat_zero]
      refine wp_ndec (by omega) (wp_call (nat_trim_sp hi (by omega)) (wp_ret ?_))
      rw [h2, Nat.pow_zero, Nat.div_one]; rfl)
    (fun m k hi ⟨h0, h1, h2⟩ ih => by
      have hk : k < l.length := by omega
      have gx := nv_limb l k hk
      have xl : nv l / B ^ k % B < B := Nat.mod_lt _ B_pos
      have yl : nv l / B ^ (k + 1) % B < B := Nat.mod_lt _ B_pos
      have hd := down_limb (nv l) s k hs
      have hlen : (List.replicate (k + 1) (0 : Limb) ++ hi).length = l.length := by simp [h1]; omega
      have gX : (l.map dB).getD k D.nil = D.int ((nv l / B ^ k % B : Nat) : Int) := by rw [getD_map (List.getElem?_eq_getElem hk), ← gx]; rfl
      have b64 : (2 : Int) ^ (min (Int.toNat 32) (IntKind.bits .u64)) = 4294967296 := by decide
      have rc := ih (BitVec.ofNat 32 (((nv l / B ^ (k + 1) % B) * B + nv l / B ^ k % B) / 2 ^ s % B) :: hi) ⟨by omega, by simp [h1]; omega, by
        rw [nv, ofNat_lt (Nat.mod_lt _ B_pos), h2, ← hd, Nat.pow_succ, ← Nat.div_div_eq_div_mul]
        exact Nat.mod_add_div _ _⟩
      simp only [nat_down_l4_succ, show ((k + 1 : Nat) : Int) - 1 = (k : Int) by omega, dA_0, dA_1, dA_2, dC_0, dC_1, dC_2, dC_3, dC_4, dN_0, dN_1, dN_2, els_sl, els_dI, els_dL, List.length_map, Int.toNat_natCast, toInt_int, toInt_dB, toBool_bool, getD_c0, getD_c1, int_beq, int_bne, not_dec, dInt_dB, Int.toNat_zero, gX, hlen, pw_s hs, b64]
      generalize nv l / B ^ k % B = x at *
      generalize nv l / B ^ (k + 1) % B = y at *
      have hxB := xl
      have hyB := yl
      rw [B_eq] at hxB hyB
      have t1 : IntKind.wrap .u64 ((y : Int) * 4294967296) = ((y * 4294967296 : Nat) : Int) := by rw [wrapU64 (by omega) (by omega)]; omega
      rw [t1, wrapU64 (x := (x : Int)) (by omega) (by omega), or_limb' hyB hxB, fdivN]
      have t4 : IntKind.wrap .u32 (((y * 4294967296 + x) / 2 ^ s : Nat) : Int) = (((y * B + x) / 2 ^ s % B : Nat) : Int) := by
        rw [show y * 4294967296 + x = y * B + x from rfl]
        generalize (y * B + x) / 2 ^ s = T
        rw [IntKind.wrap_u32, B_eq]; omega
      have hTl := Nat.mod_lt ((y * B + x) / 2 ^ s) B_pos
      have hset : ((List.replicate (k + 1) 0 ++ hi).map dB).set k (D.int (((y * B + x) / 2 ^ s % B : Nat) : Int)) = (List.replicate k 0 ++ (BitVec.ofNat 32 ((y * B + x) / 2 ^ s % B) :: hi)).map dB := by
        rw [dB_ofNat hTl, map_set, List.replicate_succ', List.append_assoc, List.set_append_right _ _ (by simp)]; simp
      rw [t4, hset, wrap64 (by omega) (by omega)]
      refine wp_dec (by omega) (wp_tt (by decide) (wp_dec (by omega) (wp_dec (by omega) (wp_dec (by rw [wrapU64 (by omega) (by omega)]; omega) (wp_dec (by omega) (wp_dec (by omega) (wp_dec (by omega) (wp_dec (by omega) ?_))))))))
      exact rc)
    (l.length + 1) l.length [] (by omega) ⟨by omega, by simp, by
      rw [Nat.div_eq_of_lt (Nat.lt_of_le_of_lt (Nat.div_le_self _ _) (nv_lt l))]; rfl⟩
  rw [List.append_nil, Nat.div_eq_of_lt (nv_lt l), Nat.zero_mod] at key
  have e0 : (List.replicate l.length (0 : Limb)).map dB = List.replicate l.length (D.int 0) := by rw [List.map_replicate]; rfl
  rw [e0] at key
  rw [wrap64 (by omega) (by omega)]
  exact key
theorem est_upper {U D D2 U3 p g : Nat} (hD : D < (D2 + 1) * p) (hU : U3 * p ≤ U) (hg : g * D2 ≤ U3) (hg1 : g ≤ D2 + 1) (hD0 : 0 < D) : g ≤ U / D + 1 := by
  rcases Nat.eq_zero_or_pos g with h0 | h0
  · rw [h0]; exact Nat.zero_le _
  obtain ⟨h, rfl⟩ : ∃ h, g = h + 1 := ⟨g - 1, by omega⟩
  refine Nat.succ_le_succ ((Nat.le_div_iff_mul_le hD0).2 ?_)
  have h1 : h * D ≤ h * ((D2 + 1) * p) := Nat.mul_le_mul_left _ (Nat.le_of_lt hD)
  have h2 : h * (D2 + 1) ≤ (h + 1) * D2 := by rw [Nat.mul_add, Nat.add_mul]; omega
  calc h * D ≤ h * ((D2 + 1) * p) := h1
    _ = h * (D2 + 1) * p := by rw [Nat.mul_assoc]
    _ ≤ (h + 1) * D2 * p := Nat.mul_le_mul_right _ h2
    _ ≤ U3 * p := Nat.mul_le_mul_right _ hg
    _ ≤ U := hU
theorem est_lower {U D D2 U3 p g : Nat} (hD : D2 * p ≤ D) (hU : U < (U3 + 1) * p) (hgt : U3 < g * D2) (hD0 : 0 < D) : U / D < g := by
  rw [Nat.div_lt_iff_lt_mul hD0]
  calc U < (U3 + 1) * p := hU
    _ ≤ g * D2 * p := Nat.mul_le_mul_right _ hgt
    _ = g * (D2 * p) := Nat.mul_assoc _ _ _
    _ ≤ g * D := Nat.mul_le_mul_left _ hD
/-- The guess is the quotient, or one more. -/
theorem nat_estimate_ex (xs ds : List Limb) (n : Nat) (hd : ds.length = n + 2) (hx : xs.length = n + 3) (hn : n ≤ 1000000) (htop : B ^ (n + 2) ≤ 2 * nv ds) (hU : nv xs < B * nv ds) :
    ∃ g : Nat, Sp 82 [dL xs, dL ds] [.int (g : Int)] ∧ nv xs / nv ds ≤ g ∧ g ≤ nv xs / nv ds + 1 ∧ g < B := by
  have xl := nv_lt xs
  have dl := nv_lt ds
  rw [hx] at xl
  rw [hd] at dl
  have hp := Bp n
  have a0 := nv_limb xs n (by omega)
  have a1 := nv_limb xs (n + 1) (by omega)
  have a2 := nv_limb xs (n + 2) (by omega)
  have d0 := nv_limb ds n (by omega)
  have d1 := nv_limb ds (n + 1) (by omega)
  have gx0 : (xs.map dB).getD n D.nil = D.int ((nv xs / B ^ n % B : Nat) : Int) := by rw [getD_map (List.getElem?_eq_getElem (show n < xs.length by omega)), ← a0]; rfl
  have gx1 : (xs.map dB).getD (n + 1) D.nil = D.int ((nv xs / B ^ (n + 1) % B : Nat) : Int) := by rw [getD_map (List.getElem?_eq_getElem (show n + 1 < xs.length by omega)), ← a1]; rfl
  have gx2 : (xs.map dB).getD (n + 2) D.nil = D.int ((nv xs / B ^ (n + 2) % B : Nat) : Int) := by rw [getD_map (List.getElem?_eq_getElem (show n + 2 < xs.length by omega)), ← a2]; rfl
  have gd0 : (ds.map dB).getD n D.nil = D.int ((nv ds / B ^ n % B : Nat) : Int) := by rw [getD_map (List.getElem?_eq_getElem (show n < ds.length by omega)), ← d0]; rfl
  have gd1 : (ds.map dB).getD (n + 1) D.nil = D.int ((nv ds / B ^ (n + 1) % B : Nat) : Int) := by rw [getD_map (List.getElem?_eq_getElem (show n + 1 < ds.length by omega)), ← d1]; rfl
  clear a0 a1 a2 d0 d1
  generalize nv xs = U at *
  generalize nv ds = D at *
  have eB2 : B ^ (n + 2) = B ^ n * (B * B) := by rw [Nat.pow_add]; rfl
  have eB3 : B ^ (n + 3) = B ^ n * (B * B * B) := by rw [Nat.pow_add]; rfl
  have e1U : U / B ^ (n + 1) = U / B ^ n / B := by rw [Nat.pow_succ, Nat.div_div_eq_div_mul]
  have e2U : U / B ^ (n + 2) = U / B ^ n / B / B := by rw [eB2, Nat.div_div_eq_div_mul, Nat.div_div_eq_div_mul]
  have e1D : D / B ^ (n + 1) = D / B ^ n / B := by rw [Nat.pow_succ, Nat.div_div_eq_div_mul]
  rw [e1U] at gx1
  rw [e2U] at gx2
  rw [e1D] at gd1
  have hD1 : D / B ^ n * B ^ n ≤ D := Nat.div_mul_le_self _ _
  have hD2 : D < (D / B ^ n + 1) * B ^ n := by have := Nat.lt_mul_div_succ D hp; rwa [Nat.mul_comm] at this
  have hU1 : U / B ^ n * B ^ n ≤ U := Nat.div_mul_le_self _ _
  have hU2 : U < (U / B ^ n + 1) * B ^ n := by have := Nat.lt_mul_div_succ U hp; rwa [Nat.mul_comm] at this
  have hU3 : U / B ^ n < B * B * B := by rw [Nat.div_lt_iff_lt_mul hp, Nat.mul_comm]; rwa [eB3] at xl
  have hDs : D / B ^ n < B * B := by rw [Nat.div_lt_iff_lt_mul hp, Nat.mul_comm]; rwa [eB2] at dl
  have hDt : B * B ≤ 2 * (D / B ^ n) + 1 := by
    have h1 : B ^ n * (B * B) < B ^ n * (2 * (D / B ^ n) + 2) := by
      rw [← eB2, Nat.mul_add]
      have : B ^ n * (2 * (D / B ^ n)) = 2 * (D / B ^ n * B ^ n) := by rw [Nat.mul_left_comm, Nat.mul_comm (B ^ n)]
      rw [this]
      have h3 : D < D / B ^ n * B ^ n + B ^ n := by rwa [Nat.add_mul, Nat.one_mul] at hD2
      omega
    have := Nat.lt_of_mul_lt_mul_left h1
    omega
  have hD0 : 0 < D := by
    rcases Nat.eq_zero_or_pos D with h | h
    · rw [h] at hU; omega
    · exact h
  have hUD : U / B ^ n < B * (D / B ^ n + 1) := by
    rw [Nat.div_lt_iff_lt_mul hp, Nat.mul_assoc]
    exact Nat.lt_trans hU (Nat.mul_lt_mul_of_pos_left hD2 B_pos)
  have hqB : U / D < B := by rw [Nat.div_lt_iff_lt_mul hD0]; exact hU
  generalize hU3e : U / B ^ n = U3 at *
  generalize hD2e : D / B ^ n = D2 at *
  have x0l := Nat.mod_lt U3 B_pos
  have x1l := Nat.mod_lt (U3 / B) B_pos
  have x2l : U3 / B / B < B := by rw [Nat.div_div_eq_div_mul, Nat.div_lt_iff_lt_mul (by decide)]; rwa [← Nat.mul_assoc]
  have y0l := Nat.mod_lt D2 B_pos
  have y1l : D2 / B < B := by rw [Nat.div_lt_iff_lt_mul B_pos]; exact hDs
  rw [Nat.mod_eq_of_lt x2l] at gx2
  rw [Nat.mod_eq_of_lt y1l] at gd1
  have eU : U3 = U3 % B + B * (U3 / B % B + B * (U3 / B / B)) := by
    rw [Nat.mod_add_div, Nat.mod_add_div]
  have eD : D2 = D2 % B + B * (D2 / B) := (Nat.mod_add_div _ _).symm
  generalize U3 % B = x0 at *
  generalize U3 / B % B = x1 at *
  generalize U3 / B / B = x2 at *
  generalize D2 % B = y0 at *
  generalize D2 / B = y1 at *
  have y1g : 2147483648 ≤ y1 := by rw [B_eq] at *; omega
  have x2y : x2 ≤ y1 := by rw [B_eq] at *; omega
  have fin : ∀ g : Nat, g < B → U / D ≤ g → g * D2 ≤ U3 → U / D ≤ g ∧ g ≤ U / D + 1 ∧ g < B := fun g h1 h2 h3 =>
    ⟨h2, est_upper hD2 hU1 h3 (by rw [B_eq] at *; omega) hD0, h1⟩
  have eH : U3 = (x2 * B + x1) * B + x0 := by rw [eU, Nat.add_mul, Nat.mul_add, Nat.mul_comm B (B * x2), Nat.mul_comm B x2, Nat.mul_comm B x1]; omega
  have b64 : (2 : Int) ^ (min (Int.toNat 32) (IntKind.bits .u64)) = 4294967296 := by decide
  have wy1 : IntKind.wrap .u64 (y1 : Int) = (y1 : Int) := by rw [B_eq] at *; exact wrapU64 (by omega) (by omega)
  have wy0 : IntKind.wrap .u64 (y0 : Int) = (y0 : Int) := by rw [B_eq] at *; exact wrapU64 (by omega) (by omega)
  have wx0 : IntKind.wrap .u64 (x0 : Int) = (x0 : Int) := by rw [B_eq] at *; exact wrapU64 (by omega) (by omega)
  have wx1 : IntKind.wrap .u64 (x1 : Int) = (x1 : Int) := by rw [B_eq] at *; exact wrapU64 (by omega) (by omega)
  have wx2 : IntKind.wrap .u64 (x2 : Int) = (x2 : Int) := by rw [B_eq] at *; exact wrapU64 (by omega) (by omega)
  have i1 : IntKind.wrap .i64 (((n + 2 : Nat) : Int) - 1) = ((n + 1 : Nat) : Int) := by rw [wrap64 (by omega) (by omega)]; omega
  have i2 : IntKind.wrap .i64 (((n + 2 : Nat) : Int) - 2) = ((n : Nat) : Int) := by rw [wrap64 (by omega) (by omega)]; omega
  have loop : ∀ (m N g r : Nat), g < m → g * y1 + r = x2 * B + x1 → U / D ≤ g → r < B →
      ∃ y : Nat, Tw (nat_estimate_l4 N m (dL xs) (dL ds) ((n + 2 : Nat) : Int) (g : Int) (r : Int)) [.int (y : Int)] ∧ U / D ≤ y ∧ y ≤ U / D + 1 ∧ y < B := by
    intro m
    induction m with
    | zero => intro N g r h; omega
    | succ m ih =>
      intro N g r hm he hq hr
      have gl : g < 18446744073709551616 := by
        have : g * 1 ≤ g * y1 := Nat.mul_le_mul_left _ (by omega)
        rw [B_eq] at *; omega
      have e1 : IntKind.wrap .u64 ((r : Int) + (y1 : Int)) = ((r + y1 : Nat) : Int) := by rw [B_eq] at *; rw [wrapU64 (by omega) (by omega)]; omega
      -- one step further
      have stp : 0 < g → U / D ≤ g - 1 → ∃ y : Nat, Tw (.br (decide (0 ≤ ((n + 1 : Nat) : Int))) (.br (decide (((n + 1 : Nat) : Int) < ((n + 2 : Nat) : Int))) (.br (decide ((0 : Int) ≤ 32)) (.br (decide (¬ (((r + y1) / 4294967296 : Nat) : Int) = 0)) (.ret [.int (IntKind.wrap .u64 ((g : Int) - 1))]) (nat_estimate_l4 N m (dL xs) (dL ds) ((n + 2 : Nat) : Int) (IntKind.wrap .u64 ((g : Int) - 1)) ((r + y1 : Nat) : Int))) .fail) .fail) .fail) [.int (y : Int)] ∧ U / D ≤ y ∧ y ≤ U / D + 1 ∧ y < B := by
        intro h0 hq'
        obtain ⟨h, rfl⟩ : ∃ h, g = h + 1 := ⟨g - 1, by omega⟩
        simp only [Nat.add_sub_cancel] at hq'
        have ew : IntKind.wrap .u64 (((h + 1 : Nat) : Int) - 1) = (h : Int) := by rw [wrapU64 (by omega) (by omega)]; omega
        rw [ew]
        have he' : h * y1 + (r + y1) = x2 * B + x1 := by rw [← he, Nat.add_mul]; omega
        by_cases hb : r + y1 < B
        · obtain ⟨y, t1, t2⟩ := ih N h (r + y1) (by omega) he' hq' hb
          refine ⟨y, wp_dec (by omega) (wp_dec (by omega) (wp_tt (by decide) (wp_ndec ?_ t1))), t2⟩
          rw [B_eq] at hb; omega
        · have hlt : h < B := by
            have h3 : x2 * B ≤ y1 * B := Nat.mul_le_mul_right _ x2y
            have h4 : h * y1 < B * y1 := by rw [Nat.mul_comm B y1]; omega
            exact Nat.lt_of_mul_lt_mul_right h4
          refine ⟨h, wp_dec (by omega) (wp_dec (by omega) (wp_tt (by decide) (wp_dec ?_ (wp_ret rfl)))), fin h hlt hq' ?_⟩
          · rw [B_eq] at hb; omega
          · have h5 : h * y0 ≤ B * B := Nat.mul_le_mul (by omega) (by omega)
            have h6 : B * B ≤ (r + y1) * B := Nat.mul_le_mul_right _ (by omega)
            rw [eH, ← he', eD, Nat.mul_add, Nat.add_mul, Nat.mul_left_comm h B y1, Nat.mul_comm B (h * y1)]
            omega
      simp only [nat_estimate_l4_succ, dA_0, dA_1, dA_2, dC_0, dC_1, dC_2, dC_3, dC_4, dN_0, dN_1, dN_2, els_sl, els_dI, els_dL, List.length_map, Int.toNat_natCast, toInt_int, toInt_dB, toBool_bool, getD_c0, getD_c1, int_beq, int_bne, not_dec, dInt_dB, Int.toNat_zero, hd, hx, i1, i2, gx0, gd0, gd1, wy1, wy0, wx0, e1, fdiv32]
      by_cases hgB : g < B
      · have c0 : ((g / 4294967296 : Nat) : Int) = 0 := by rw [B_eq] at hgB; omega
        have hrB := hr
        have x0B := x0l
        rw [B_eq] at hrB x0B
        have t1 : IntKind.wrap .u64 ((r : Int) * 4294967296) = ((r * 4294967296 : Nat) : Int) := by rw [wrapU64 (by omega) (by omega)]; omega
        have gy : g * y0 ≤ (B - 1) * (B - 1) := Nat.mul_le_mul (by omega) (by omega)
        have t2 : IntKind.wrap .u64 ((g : Int) * (y0 : Int)) = ((g * y0 : Nat) : Int) := by rw [← Int.natCast_mul]; rw [B_eq] at gy; exact wrapU64 (by omega) (by omega)
        rw [b64, t1, or_limb' hrB x0B, t2, c0]
        by_cases ht : r * B + x0 < g * y0
        · have hlow : U / D < g := est_lower hD1 hU2 (by
            rw [eH, ← he, eD, Nat.mul_add, Nat.add_mul, Nat.mul_left_comm g B y1, Nat.mul_comm B (g * y1)]; omega) hD0
          obtain ⟨y, s1, s2⟩ := stp (Nat.lt_of_le_of_lt (Nat.zero_le _) hlow) (Nat.le_sub_one_of_lt hlow)
          refine ⟨y, wp_tt (by decide) (wp_ndec (by omega) (wp_dec (by omega) (wp_dec (by omega) (wp_tt (by decide) (wp_dec (by omega) (wp_dec (by omega) (wp_dec ?_ s1))))))), s2⟩
          rw [B_eq] at ht; omega
        · refine ⟨g, wp_tt (by decide) (wp_ndec (by omega) (wp_dec (by omega) (wp_dec (by omega) (wp_tt (by decide) (wp_dec (by omega) (wp_dec (by omega) (wp_ndec ?_ (wp_ret rfl)))))))), fin g hgB hq ?_⟩
          · rw [B_eq] at ht; omega
          · rw [eH, ← he, eD, Nat.mul_add, Nat.add_mul, Nat.mul_left_comm g B y1, Nat.mul_comm B (g * y1)]; omega
      · obtain ⟨y, s1, s2⟩ := stp (by rw [B_eq] at hgB; omega) (by omega)
        refine ⟨y, wp_tt (by decide) (wp_dec ?_ s1), s2⟩
        rw [B_eq] at hgB; omega
  have hH : (x2 * B + x1) / y1 * y1 + (x2 * B + x1) % y1 = x2 * B + x1 := by rw [Nat.mul_comm]; exact Nat.div_add_mod _ _
  have hr0 : (x2 * B + x1) % y1 < B := Nat.lt_trans (Nat.mod_lt _ (by omega)) y1l
  have hq0 : U / D ≤ (x2 * B + x1) / y1 := by
    rw [Nat.le_div_iff_mul_le (by omega)]
    have h1 : U / D * D ≤ U := Nat.div_mul_le_self _ _
    have h2 : U / D * (D2 * B ^ n) < (U3 + 1) * B ^ n := Nat.lt_of_le_of_lt (Nat.le_trans (Nat.mul_le_mul_left _ hD1) h1) hU2
    rw [← Nat.mul_assoc] at h2
    have h3 := Nat.lt_of_mul_lt_mul_right h2
    have h4 : U / D * (B * y1) ≤ U / D * D2 := Nat.mul_le_mul_left _ (by omega)
    have h5 : U / D * y1 * B < (x2 * B + x1 + 1) * B := by
      have : U / D * (B * y1) = U / D * y1 * B := by rw [Nat.mul_comm B y1, Nat.mul_assoc]
      rw [← this, Nat.add_mul, Nat.one_mul]
      omega
    have := Nat.lt_of_mul_lt_mul_right h5
    omega
  obtain ⟨g, l1, l2⟩ := loop ((x2 * B + x1) / y1 + 1) ((x2 * B + x1) / y1 + 1) ((x2 * B + x1) / y1) ((x2 * B + x1) % y1) (by omega) hH hq0 hr0
  refine ⟨g, sound_ ((x2 * B + x1) / y1 + 1) (nat_estimate_tree _ _ _) ?_, l2⟩
  have x1B := x1l
  have x2B := x2l
  rw [B_eq] at x1B x2B
  have t1 : IntKind.wrap .u64 ((x2 : Int) * 4294967296) = ((x2 * 4294967296 : Nat) : Int) := by rw [wrapU64 (by omega) (by omega)]; omega
  have hne : decide ¬ (y1 : Int) = 0 = true := by simp; omega
  have eq1 : IntKind.wrap .u64 (Int.tdiv ((x2 * 4294967296 + x1 : Nat) : Int) (y1 : Int)) = (((x2 * B + x1) / y1 : Nat) : Int) := by
    rw [show Int.tdiv ((x2 * 4294967296 + x1 : Nat) : Int) (y1 : Int) = (((x2 * B + x1) / y1 : Nat) : Int) from rfl]
    have h1 : (x2 * B + x1) / y1 ≤ x2 * B + x1 := Nat.div_le_self _ _
    generalize (x2 * B + x1) / y1 = Q at h1 ⊢
    rw [B_eq] at h1
    exact wrapU64 (by omega) (by omega)
  have eq2 : Int.tmod ((x2 * 4294967296 + x1 : Nat) : Int) (y1 : Int) = (((x2 * B + x1) % y1 : Nat) : Int) := rfl
  simp only [dA_0, dA_1, dA_2, dC_0, dC_1, dC_2, dC_3, dC_4, dN_0, dN_1, dN_2, els_sl, els_dI, els_dL, List.length_map, Int.toNat_natCast, toInt_int, toInt_dB, toBool_bool, getD_c0, getD_c1, int_beq, int_bne, not_dec, dInt_dB, Int.toNat_zero, hd, hx, i1, gx1, gx2, gd1, wy1, wx1, wx2, b64, t1, or_limb' x2B x1B, eq1, eq2]
  exact wp_dec (by omega) (wp_dec (by omega) (wp_tt (by decide) (wp_dec (by omega) (wp_dec (by omega) (wp_dec (by omega) (wp_dec (by omega) (wp_dec (by omega) (wp_dec (by omega) (wp_dec (by omega) (wp_dec (by omega) l1))))))))))
end Go.Proofs.Ytcdjifdllibolaa

set_option maxRecDepth 100000
namespace Go.Proofs.Ytcdjifdllibolaa
open Go.RowKit

/-- Is there a borrow? -/
def bor (x y c : Int) : Int := if x < y + c then 1 else 0
theorem sub_bits (x y c : Int) (hx1 : 0 ≤ x) (hx2 : x < 4294967296) (hy1 : 0 ≤ y) (hy2 : y < 4294967296) (hc1 : 0 ≤ c) (hc2 : c ≤ 1) :
    bits BinOp.or IntKind.u32 (bits BinOp.and IntKind.u32 (bits BinOp.xor IntKind.u32 IntKind.u32.max x) y) (bits BinOp.and IntKind.u32 (bits BinOp.xor IntKind.u32 IntKind.u32.max (bits BinOp.xor IntKind.u32 x y)) ((x - y - c) % 4294967296)) / 2147483648 = bor x y c := by
  obtain ⟨X, rfl⟩ := Int.eq_ofNat_of_zero_le hx1
  obtain ⟨Y, rfl⟩ := Int.eq_ofNat_of_zero_le hy1
  obtain ⟨C, rfl⟩ := Int.eq_ofNat_of_zero_le hc1
  have hD0 : 0 ≤ ((X : Int) - Y - C) % 4294967296 := by omega
  obtain ⟨D, hD⟩ := Int.eq_ofNat_of_zero_le hD0
  have hm : IntKind.u32.max = ((4294967295 : Nat) : Int) := by decide
  have e1 : (4294967295 ^^^ X) < 2 ^ 32 := Nat.xor_lt_two_pow (by omega) (by omega)
  have e2 : (X ^^^ Y) < 2 ^ 32 := Nat.xor_lt_two_pow (by omega) (by omega)
  have e3 : (4294967295 ^^^ (X ^^^ Y)) < 2 ^ 32 := Nat.xor_lt_two_pow (by omega) e2
  have e4 : ((4294967295 ^^^ X) &&& Y) < 2 ^ 32 := Nat.and_lt_two_pow _ (by omega)
  have e5 : ((4294967295 ^^^ (X ^^^ Y)) &&& D) < 2 ^ 32 := Nat.and_lt_two_pow _ (by omega)
  rw [hD, hm, u32_xor_nat 4294967295 X (by omega) (by omega), u32_xor_nat X Y (by omega) (by omega), u32_xor_nat 4294967295 _ (by omega) (by omega), u32_and_nat _ Y (by omega) (by omega), u32_and_nat _ D (by omega) (by omega), u32_or_nat _ _ (by omega) (by omega)]
  have := sub_nat X Y D C (by omega) (by omega) (by omega) (by rw [← hD])
  rw [this]; unfold bor
  by_cases h : X < Y + C
  · rw [if_pos h, if_pos (by omega)]
  · rw [if_neg h, if_neg (by omega)]
set_option maxHeartbeats 400000 in
theorem add32_any (x y c : Int) (w : World) (hx : 0 ≤ x ∧ x < 4294967296) (hy : 0 ≤ y ∧ y < 4294967296) (hc : 0 ≤ c ∧ c ≤ 1) :
    Calls Try.prog 88 #[.int .u32 x, .int .u32 y, .int .u32 c] w fun e w' => e = .returned (.tuple #[.int .u32 ((x + y + c) % 4294967296), .int .u32 ((x + y + c) / 4294967296)]) ∧ w = w' := by
  obtain ⟨hx1, hx2⟩ := hx
  obtain ⟨hy1, hy2⟩ := hy
  obtain ⟨hc1, hc2⟩ := hc
  go_enter Try.func88, Try.ntmps88
  go_wp2
  go_ret2
  exact ⟨rfl, rfl⟩
set_option maxHeartbeats 400000 in
theorem sub32_any (x y c : Int) (w : World) (hx : 0 ≤ x ∧ x < 4294967296) (hy : 0 ≤ y ∧ y < 4294967296) (hc : 0 ≤ c ∧ c ≤ 1) :
    Calls Try.prog 87 #[.int .u32 x, .int .u32 y, .int .u32 c] w fun e w' => e = .returned (.tuple #[.int .u32 ((x - y - c) % 4294967296), .int .u32 (bor x y c)]) ∧ w = w' := by
  obtain ⟨hx1, hx2⟩ := hx
  obtain ⟨hy1, hy2⟩ := hy
  obtain ⟨hc1, hc2⟩ := hc
  go_enter Try.func87, Try.ntmps87
  go_wp2
  go_ret2
  exact ⟨by rw [← sub_bits x y c hx1 hx2 hy1 hy2 hc1 hc2]; rfl, rfl⟩

def iB (b : Limb) : Int := (b.toNat : Int)
/-- A slice value reads as limbs. -/
def SlL (w : World) (v : Value) (l : List Limb) : Prop := SlI w v .u32 (l.map iB)
/-- A row of limbs of the call's own. -/
def OwL (w0 w : World) (G cap : Nat) (l : List Limb) : Prop := Own w0 w 51 1 l.length (.slice (some ⟨G, 0, none⟩) l.length cap) ((l.map iB).map (.int .u32))
theorem OwL.cell {w0 w : World} {G cap : Nat} {l : List Limb} (h : OwL w0 w G cap l) (i : Nat) (hi : i < l.length) : w.cell? ⟨G, i, none⟩ = some (.int .u32 ((l[i]).toNat : Int)) ∧ w.frozen? ⟨G, i, none⟩ = false ∧ w0.heap.size ≤ G ∧ G < w.heap.size := by
  obtain ⟨g, cap', hv, h1, h2, h3, h4, h5, h6⟩ := h.at_ (by omega)
  injection hv with hA _ hc
  cases hA
  exact ⟨h4 i _ (by simp [hi, iB]), h5 i, h1, h2⟩
theorem OwL.set {w0 w : World} {G cap : Nat} {l : List Limb} (h : OwL w0 w G cap l) (i : Nat) (hi : i < l.length) (x : Limb) : OwL w0 (w.setCell ⟨G, i, none⟩ (.int .u32 (x.toNat : Int))) G cap (l.set i x) := by
  obtain ⟨g, cap', hv, h1, h2, h3, h4, h5, h6⟩ := h.at_ (by omega)
  injection hv with hA _ hc
  cases hA
  have := h6 i (.int .u32 (x.toNat : Int))
  unfold OwL
  rw [List.length_set, List.map_set, List.map_set]
  exact this
theorem grown_refl (w : World) (G : Nat) : w.grownBy w (some G) := World.grownBy.refl w _

/-- What is told: the window is less so many times the divisor; was it too much? -/
def RetTO (w0 w : World) (lo xs hi ds : List Limb) (G cap g : Nat) (e : Ending) (w' : World) : Prop :=
  ∃ (out : List Limb) (b : Nat), b ≤ 1 ∧ e = .returned (.bool (!(b == 0))) ∧ out.length = xs.length ∧ nv out + g * nv ds = nv xs + B ^ xs.length * b ∧ OwL w0 w' G cap (lo ++ out ++ hi) ∧ w.grownBy w' (some G)
theorem win_set {lo out xs hi : List Limb} {i : Nat} (h : out.length = i) (hi' : i < xs.length) (x : Limb) : (lo ++ (out ++ xs.drop i) ++ hi).set (lo.length + i) x = lo ++ ((out ++ [x]) ++ xs.drop (i + 1)) ++ hi := by
  rw [List.append_assoc, List.set_append_right _ _ (by omega), Nat.add_sub_cancel_left, List.set_append_left _ _ (by simp; omega), List.set_append_right _ _ (by omega), h, Nat.sub_self, List.drop_eq_getElem_cons hi', List.set_cons_zero]
  simp
theorem win_get {lo out xs hi : List Limb} {i : Nat} (h : out.length = i) (hi' : i < xs.length) (hk : lo.length + i < (lo ++ (out ++ xs.drop i) ++ hi).length) : (lo ++ (out ++ xs.drop i) ++ hi)[lo.length + i] = xs[i] := by
  have : (lo ++ (out ++ xs.drop i) ++ hi)[lo.length + i]? = some xs[i] := by
    rw [List.append_assoc, List.getElem?_append_right (by omega), Nat.add_sub_cancel_left, List.getElem?_append_left (by simp; omega), List.getElem?_append_right (by omega), h, Nat.sub_self]
    simp [hi']
  rw [List.getElem?_eq_getElem hk] at this
  exact Option.some.inj this
theorem nv_take_succ (l : List Limb) (i : Nat) (hi : i < l.length) : nv (l.take (i + 1)) = nv (l.take i) + B ^ i * (l[i]).toNat := by
  rw [List.take_succ_eq_append_getElem hi, nv_snoc, List.length_take, Nat.min_eq_left (by omega)]
/-- One limb of a difference. -/
theorem to_step {O g D U P c b x t X z b' : Nat} (h : O + g * D = U + P * (c + b)) (ht : t = g * x + c) (hz : X + B * b' = z + t % B + b) : (O + P * z) + g * (D + P * x) = (U + P * X) + P * B * (t / B + b') := by
  have e1 : P * (X + B * b') = P * (z + t % B + b) := by rw [hz]
  have e2 : t % B + B * (t / B) = t := Nat.mod_add_div _ _
  have e3 : P * (t % B + B * (t / B)) = P * (g * x + c) := by rw [e2, ht]
  have e4 : g * (P * x) = P * (g * x) := Nat.mul_left_comm _ _ _
  simp only [Nat.mul_add, Nat.mul_assoc] at *
  omega
theorem bor_is {X t b : Nat} (hX : X < B) (hb : b ≤ 1) : ∃ z b' : Nat, z < B ∧ b' ≤ 1 ∧ X + B * b' = z + t % B + b ∧ (((X : Int) - ((t % B : Nat) : Int) - (b : Int)) % 4294967296 = (z : Int)) ∧ bor (X : Int) ((t % B : Nat) : Int) (b : Int) = (b' : Int) := by
  have := Nat.mod_lt t B_pos
  generalize t % B = s at *
  rw [B_eq] at *
  by_cases h : X < s + b
  · exact ⟨X + 4294967296 - s - b, 1, by omega, by omega, by omega, by omega, by unfold bor; rw [if_pos (by omega)]; rfl⟩
  · exact ⟨X - s - b, 0, by omega, by omega, by omega, by omega, by unfold bor; rw [if_neg (by omega)]; rfl⟩

set_option maxHeartbeats 2000000 in
theorem takeOff_any (w0 w : World) (lo xs hi ds : List Limb) (G cap c' g : Nat) (v : Value) (hxs : xs.length = ds.length + 1) (hlen : (lo ++ xs ++ hi).length ≤ 1000000000) (hc' : xs.length ≤ c') (hown : OwL w0 w G cap (lo ++ xs ++ hi)) (hds : ∀ w', w.grownBy w' (some G) → SlL w' v ds) (hg : g < B) :
    Calls Try.prog 83 #[.slice (some ⟨G, lo.length, none⟩) xs.length c', v, .int .u64 g] w (RetTO w0 w lo xs hi ds G cap g) := by
  obtain ⟨A, cd, rfl, hcd, _⟩ := (hds w (grown_refl w G)).form
  have hll : lo.length + xs.length + hi.length ≤ 1000000000 := by have := hlen; simp at this; omega
  rw [List.length_map] at hds hcd ⊢
  have HO := Lib.hid hown
  have HD := Lib.hid hds
  have HG := Lib.hid hg
  rw [B_eq] at hg
  clear hown hds hlen
  generalize hn : ds.length = n at *
  rw [hxs]
  go_enter Try.func83, Try.ntmps83
  go_wp2_with fail
  go_loopw [7, 8, 15] (fun cv bv iv wr => ∃ (k c b : Nat) (out : List Limb), k ≤ n ∧ iv = .int .i64 k ∧ cv = .int .u64 c ∧ bv = .int .u32 b ∧ out.length = k ∧ c < B ∧ b ≤ 1 ∧ nv out + g * nv (ds.take k) = nv (xs.take k) + B ^ k * (c + b) ∧ OwL w0 wr G cap (lo ++ (out ++ xs.drop k) ++ hi) ∧ w.grownBy wr (some G)) (fun _ _ iv _ => n - (intOf iv).toNat)
  case atStart => exact ⟨0, 0, 0, [], Nat.zero_le _, rfl, rfl, rfl, rfl, B_pos, by omega, by simp [nv], by simpa using HO.out, grown_refl w G⟩
  case round =>
    obtain ⟨k, c, b, out, hk, rfl, rfl, rfl, ho, hc, hb, heq, hown, hgr⟩ := hrel
    have HQ := Lib.hid heq
    have HOW := Lib.hid hown
    have HGR := Lib.hid hgr
    have HC := Lib.hid hc
    rw [B_eq] at hc
    clear heq hown hgr
    by_cases hlt : k < n
    · have hkx : k < xs.length := by omega
      have hkl : lo.length + k < (lo ++ (out ++ xs.drop k) ++ hi).length := by simp; omega
      obtain ⟨hcell, hfk, hG1, hG2⟩ := HOW.out.cell (lo.length + k) hkl
      rw [win_get ho hkx hkl] at hcell
      obtain ⟨_, _, hvq, _, hclq⟩ := (HD.out wr HGR.out).form
      injection hvq with hvq1 hvq2 hvq3
      subst hvq1
      subst hvq3
      clear hvq2
      obtain ⟨ad, rfl, hb1, hce⟩ := hclq k (by simp; omega)
      have hkd : k < ds.length := by omega
      have hdk : ((ds.map iB)[k]'(by simp; omega)) = ((ds[k]).toNat : Int) := by simp [iB]
      rw [hdk] at hce
      have xB := limb_lt xs[k]
      have dB_ := limb_lt ds[k]
      have st := fun (z : Limb) => HOW.out.set (lo.length + k) hkl z
      have ws := fun (z : Limb) => win_set (lo := lo) (hi := hi) ho hkx z
      have ht1 := nv_take_succ ds k hkd
      have ht2 := nv_take_succ xs k hkx
      generalize (xs[k]).toNat = X at *
      generalize (ds[k]).toNat = Y at *
      have hgy : g * Y ≤ (B - 1) * (B - 1) := Nat.mul_le_mul (by rw [B_eq]; omega) (by omega)
      obtain ⟨z, b', hz, hb', hzz, hm, hbr⟩ := bor_is (t := g * Y + c) xB hb
      have HST := Lib.hid (to_step HQ.out rfl hzz)
      have HS := Lib.hid (st (BitVec.ofNat 32 z))
      have HW := Lib.hid (ws (BitVec.ofNat 32 z))
      have HT1 := Lib.hid ht1
      have HT2 := Lib.hid ht2
      have HZ := Lib.hid hz
      have htB : (g * Y + c) / B < B := by rw [Nat.div_lt_iff_lt_mul B_pos, B_eq] at *; omega
      have HTB := Lib.hid htB
      rw [B_eq] at hgy xB dB_ hz htB
      have hp1 : 0 ≤ (g : Int) * (Y : Int) := by rw [← Int.natCast_mul]; exact Int.natCast_nonneg _
      have hp2 : (g : Int) * (Y : Int) ≤ 18446744065119617025 := by rw [← Int.natCast_mul]; omega
      have ec : (((g * Y + c) % B : Nat) : Int) = ((g : Int) * (Y : Int) + (c : Int)) % 4294967296 := by rw [Int.natCast_emod, Int.natCast_add, Int.natCast_mul]; rfl
      rw [ec] at hm hbr
      have HM := Lib.hid hm
      have HB := Lib.hid hbr
      clear hclq hdk st ws ht1 ht2 hzz htB hgy ec hm hbr
      go_wp2_with (go_at_call 87; refine (sub32_any (X : Int) (((g : Int) * (Y : Int) + (c : Int)) % 4294967296) (b : Int) _ ⟨by omega, by omega⟩ ⟨by omega, by omega⟩ ⟨by omega, by omega⟩).mono ?_; rw [HM.out, HB.out]; rintro e w' ⟨rfl, rfl⟩)
      go_roundw
      case rel =>
        have hs := HS.out
        rw [HW.out, ofNat_lt HZ.out] at hs
        refine ⟨k + 1, (g * Y + c) / B, b', out ++ [BitVec.ofNat 32 z], by omega, by go_num, ?_, rfl, by simp [ho], HTB.out, hb', ?_, hs, grown_set HGR.out _ _ _⟩
        · congr 1
        · rw [nv_snoc, ho, ofNat_lt HZ.out, HT1.out, HT2.out, Nat.pow_succ]; exact HST.out
      case measure => (simp [intOf] <;> omega)
    · have hkn : k = n := by omega
      subst hkn
      have hkx : k < xs.length := by omega
      have hkl : lo.length + k < (lo ++ (out ++ xs.drop k) ++ hi).length := by simp; omega
      obtain ⟨hcell, hfk, hG1, hG2⟩ := HOW.out.cell (lo.length + k) hkl
      rw [win_get ho hkx hkl] at hcell
      have xB := limb_lt xs[k]
      have st := fun (z : Limb) => HOW.out.set (lo.length + k) hkl z
      have ws := fun (z : Limb) => win_set (lo := lo) (hi := hi) ho hkx z
      have ht2 := nv_take_succ xs k hkx
      generalize (xs[k]).toNat = X at *
      obtain ⟨z, b', hz, hb', hzz, hm, hbr⟩ := bor_is (t := c) xB hb
      have HST := Lib.hid (to_step (x := 0) (t := c) HQ.out (by simp) hzz)
      have HS := Lib.hid (st (BitVec.ofNat 32 z))
      have HW := Lib.hid (ws (BitVec.ofNat 32 z))
      have HT2 := Lib.hid ht2
      have HZ := Lib.hid hz
      have ec : c % B = c := Nat.mod_eq_of_lt HC.out
      rw [ec] at hm hbr
      rw [B_eq] at xB hz
      have HM := Lib.hid hm
      have HB := Lib.hid hbr
      clear st ws ht2 hzz ec hm hbr
      go_wp2_with (go_at_call 87; refine (sub32_any (X : Int) (c : Int) (b : Int) _ ⟨by omega, by omega⟩ ⟨by omega, by omega⟩ ⟨by omega, by omega⟩).mono ?_; rw [HM.out, HB.out]; rintro e w' ⟨rfl, rfl⟩)
      go_ret
      have hs := HS.out
      rw [HW.out, ofNat_lt HZ.out, List.drop_of_length_le (by omega), List.append_nil] at hs
      refine ⟨out ++ [BitVec.ofNat 32 z], b', hb', ?_, by simp [ho, hxs], ?_, hs, grown_set HGR.out _ _ _⟩
      · rcases Nat.le_one_iff_eq_zero_or_eq_one.1 hb' with h | h <;> subst h <;> rfl
      · have h1 := HST.out
        rw [Nat.div_eq_of_lt HC.out, Nat.mul_zero, Nat.add_zero, Nat.zero_add, ← HT2.out, ← Nat.pow_succ, List.take_of_length_le (by omega), List.take_of_length_le (by omega)] at h1
        rw [nv_snoc, ho, ofNat_lt HZ.out, hxs]; exact h1
/-- What is told: the window, and the divisor, without what is too much. -/
def RetPB (w0 w : World) (lo xs hi ds : List Limb) (G cap : Nat) (e : Ending) (w' : World) : Prop :=
  ∃ (out : List Limb) (b : Nat) (v : Value), e = .returned v ∧ out.length = xs.length ∧ nv out + B ^ xs.length * b = nv xs + nv ds ∧ OwL w0 w' G cap (lo ++ out ++ hi) ∧ w.grownBy w' (some G)
theorem pb_step {O D U P c X Y : Nat} (h : O + P * c = U + D) : (O + P * ((X + Y + c) % B)) + P * B * ((X + Y + c) / B) = (U + P * X) + (D + P * Y) := by
  have e2 : (X + Y + c) % B + B * ((X + Y + c) / B) = X + Y + c := Nat.mod_add_div _ _
  have e3 : P * ((X + Y + c) % B + B * ((X + Y + c) / B)) = P * (X + Y + c) := by rw [e2]
  simp only [Nat.mul_add, Nat.mul_assoc] at *
  omega

set_option maxHeartbeats 2000000 in
theorem putBack_any (w0 w : World) (lo xs hi ds : List Limb) (G cap c' : Nat) (v : Value) (hxs : xs.length = ds.length + 1) (hlen : (lo ++ xs ++ hi).length ≤ 1000000000) (hc' : xs.length ≤ c') (hown : OwL w0 w G cap (lo ++ xs ++ hi)) (hds : ∀ w', w.grownBy w' (some G) → SlL w' v ds) :
    Calls Try.prog 84 #[.slice (some ⟨G, lo.length, none⟩) xs.length c', v] w (RetPB w0 w lo xs hi ds G cap) := by
  obtain ⟨A, cd, rfl, hcd, _⟩ := (hds w (grown_refl w G)).form
  have hll : lo.length + xs.length + hi.length ≤ 1000000000 := by have := hlen; simp at this; omega
  rw [List.length_map] at hds hcd ⊢
  have HO := Lib.hid hown
  have HD := Lib.hid hds
  clear hown hds hlen
  generalize hn : ds.length = n at *
  rw [hxs]
  go_enter Try.func84, Try.ntmps84
  go_wp2_with fail
  go_loopw [4, 9] (fun cv iv wr => ∃ (k c : Nat) (out : List Limb), k ≤ n ∧ iv = .int .i64 k ∧ cv = .int .u32 c ∧ out.length = k ∧ c ≤ 1 ∧ nv out + B ^ k * c = nv (xs.take k) + nv (ds.take k) ∧ OwL w0 wr G cap (lo ++ (out ++ xs.drop k) ++ hi) ∧ w.grownBy wr (some G)) (fun _ iv _ => n - (intOf iv).toNat)
  case atStart => exact ⟨0, 0, [], Nat.zero_le _, rfl, rfl, rfl, by omega, by simp [nv], by simpa using HO.out, grown_refl w G⟩
  case round =>
    obtain ⟨k, c, out, hk, rfl, rfl, ho, hc, heq, hown, hgr⟩ := hrel
    have HQ := Lib.hid heq
    have HOW := Lib.hid hown
    have HGR := Lib.hid hgr
    clear heq hown hgr
    by_cases hlt : k < n
    · have hkx : k < xs.length := by omega
      have hkl : lo.length + k < (lo ++ (out ++ xs.drop k) ++ hi).length := by simp; omega
      obtain ⟨hcell, hfk, hG1, hG2⟩ := HOW.out.cell (lo.length + k) hkl
      rw [win_get ho hkx hkl] at hcell
      obtain ⟨_, _, hvq, _, hclq⟩ := (HD.out wr HGR.out).form
      injection hvq with hvq1 hvq2 hvq3
      subst hvq1
      subst hvq3
      clear hvq2
      obtain ⟨ad, rfl, hb1, hce⟩ := hclq k (by simp; omega)
      have hkd : k < ds.length := by omega
      have hdk : ((ds.map iB)[k]'(by simp; omega)) = ((ds[k]).toNat : Int) := by simp [iB]
      rw [hdk] at hce
      have xB := limb_lt xs[k]
      have dB_ := limb_lt ds[k]
      have st := fun (z : Limb) => HOW.out.set (lo.length + k) hkl z
      have ws := fun (z : Limb) => win_set (lo := lo) (hi := hi) ho hkx z
      have ht1 := nv_take_succ ds k hkd
      have ht2 := nv_take_succ xs k hkx
      generalize (xs[k]).toNat = X at *
      generalize (ds[k]).toNat = Y at *
      have HZ := Lib.hid (Nat.mod_lt (X + Y + c) B_pos)
      have HST := Lib.hid (pb_step (X := X) (Y := Y) HQ.out)
      have HS := Lib.hid (st (BitVec.ofNat 32 ((X + Y + c) % B)))
      have HW := Lib.hid (ws (BitVec.ofNat 32 ((X + Y + c) % B)))
      have HT1 := Lib.hid ht1
      have HT2 := Lib.hid ht2
      rw [B_eq] at xB dB_
      clear hclq hdk st ws ht1 ht2
      go_wp2_with (go_at_call 88; refine (add32_any (X : Int) (Y : Int) (c : Int) _ ⟨by omega, by omega⟩ ⟨by omega, by omega⟩ ⟨by omega, by omega⟩).mono ?_; rintro e w' ⟨rfl, rfl⟩)
      go_roundw
      case rel =>
        have hs := HS.out
        rw [HW.out, ofNat_lt HZ.out] at hs
        refine ⟨k + 1, (X + Y + c) / B, out ++ [BitVec.ofNat 32 ((X + Y + c) % B)], by omega, by go_num, ?_, by simp [ho], by rw [B_eq]; omega, ?_, ?_, grown_set HGR.out _ _ _⟩
        · congr 1
        · rw [nv_snoc, ho, ofNat_lt HZ.out, HT1.out, HT2.out, Nat.pow_succ]; exact HST.out
        · exact hs
      case measure => (simp [intOf] <;> omega)
    · have hkn : k = n := by omega
      subst hkn
      have hkx : k < xs.length := by omega
      have hkl : lo.length + k < (lo ++ (out ++ xs.drop k) ++ hi).length := by simp; omega
      obtain ⟨hcell, hfk, hG1, hG2⟩ := HOW.out.cell (lo.length + k) hkl
      rw [win_get ho hkx hkl] at hcell
      have xB := limb_lt xs[k]
      have st := fun (z : Limb) => HOW.out.set (lo.length + k) hkl z
      have ws := fun (z : Limb) => win_set (lo := lo) (hi := hi) ho hkx z
      have ht2 := nv_take_succ xs k hkx
      generalize (xs[k]).toNat = X at *
      have HZ := Lib.hid (Nat.mod_lt (X + 0 + c) B_pos)
      have HST := Lib.hid (pb_step (X := X) (Y := 0) HQ.out)
      have HS := Lib.hid (st (BitVec.ofNat 32 ((X + 0 + c) % B)))
      have HW := Lib.hid (ws (BitVec.ofNat 32 ((X + 0 + c) % B)))
      have HT2 := Lib.hid ht2
      rw [B_eq] at xB
      clear st ws ht2
      go_wp2
      go_end0
      have hs := HS.out
      rw [HW.out, ofNat_lt HZ.out, List.drop_of_length_le (by omega), List.append_nil] at hs
      refine ⟨out ++ [BitVec.ofNat 32 ((X + 0 + c) % B)], (X + 0 + c) / B, _, rfl, by simp [ho, hxs], ?_, ?_, grown_set HGR.out _ _ _⟩
      · have h1 := HST.out
        rw [Nat.mul_zero, Nat.add_zero, ← HT2.out, ← Nat.pow_succ, List.take_of_length_le (by omega), List.take_of_length_le (by omega)] at h1
        rw [nv_snoc, ho, ofNat_lt HZ.out, hxs]; exact h1
      · exact hs
end Go.Proofs.Ytcdjifdllibolaa

