/- Proved: lemmas for the law of this folder, part 4. No condition. -/
import Derived.Test.YtcdjifdllibolaaGreatRows
import Derived.WalkKit
import Derived.WalkSpells
import Derived.WalkLawsBesides
import Derived.Lib.Hide
import Derived.Laws.CopyOwn
import Derived.Deep.QuietTactic
import Derived.BigQuiet
import Derived.Orders
import Derived.Defers
import Derived.ProofKit
import Derived.OpenShut
import Derived.Recover
import Derived.Test.YtcdjifdllibolaaGreatProg
import Derived.KernelRfl
import Derived.Test.YtcdjifdllibolaaGreatZfd5e8c41
set_option linter.unusedSimpArgs false
set_option linter.unusedVariables false
namespace Go.Proofs.YtcdjifdllibolaaGreat

abbrev Lab := BitVec 64
abbrev Limb := BitVec 32
structure Num where
  neg : Bool
  top : List Limb
  bot : List Limb
  deriving DecidableEq
structure CellF (α : Type) where
  l : Lab
  kind : Int
  n : Num
  c : Int
  inn : List α
inductive Arr where
  | mk (s : Lab) (shape : List Int) (cells : List (CellF Arr))
abbrev Cell := CellF Arr
def Arr.s : Arr → Lab | .mk s _ _ => s
def Arr.shape : Arr → List Int | .mk _ s _ => s
def Arr.cells : Arr → List Cell | .mk _ _ c => c
@[simp] theorem Arr.s_mk (s sh cs) : (Arr.mk s sh cs).s = s := rfl
@[simp] theorem Arr.shape_mk (s sh cs) : (Arr.mk s sh cs).shape = sh := rfl
@[simp] theorem Arr.cells_mk (s sh cs) : (Arr.mk s sh cs).cells = cs := rfl
def Num.zero : Num := ⟨false, [], []⟩
theorem Arr.ind {p : Arr → Prop} (h : ∀ s sh cs, (∀ c ∈ cs, ∀ x ∈ c.inn, p x) → p (.mk s sh cs)) (a : Arr) : p a :=
  Arr.rec (motive_1 := p) (motive_2 := fun cs => ∀ c ∈ cs, ∀ x ∈ c.inn, p x) (motive_3 := fun c => ∀ x ∈ c.inn, p x) (motive_4 := fun as_ => ∀ x ∈ as_, p x)
    (fun s sh cs ih => h s sh cs ih) (fun c hc => by cases hc)
    (fun c cs h1 h2 d hd => by rcases List.mem_cons.1 hd with rfl | hd; exact h1; exact h2 d hd)
    (fun _ _ _ _ _ ih => ih) (fun x hx => by cases hx)
    (fun a as_ h1 h2 x hx => by rcases List.mem_cons.1 hx with rfl | hx; exact h1; exact h2 x hx) a

def dB {k : Nat} (x : BitVec k) : D := .int (x.toNat : Int)
def dI (l : List Int) : D := .sl (l.map .int)
def dL (l : List Limb) : D := .sl (l.map dB)
def dN (n : Num) : D := .agg [.bool n.neg, dL n.top, dL n.bot]
mutual
def dA : Arr → D
  | .mk s sh cs => .agg [dB s, dI sh, .sl (dCs cs)]
def dCs : List (CellF Arr) → List D
  | [] => []
  | c :: cs => dC c :: dCs cs
def dC : CellF Arr → D
  | ⟨l, k, n, c, inn⟩ => .agg [dB l, .int k, dN n, .int c, .sl (dAs inn)]
def dAs : List Arr → List D
  | [] => []
  | a :: as_ => dA a :: dAs as_
end
theorem dCs_map : ∀ cs, dCs cs = cs.map dC
  | [] => by simp [dCs]
  | c :: cs => by simp [dCs, dCs_map cs]
theorem dAs_map : ∀ as_, dAs as_ = as_.map dA
  | [] => by simp [dAs]
  | a :: as_ => by simp [dAs, dAs_map as_]
theorem dA_eq (a : Arr) : dA a = .agg [dB a.s, dI a.shape, .sl (a.cells.map dC)] := by cases a; simp [dA, dCs_map]
theorem dC_eq (c : Cell) : dC c = .agg [dB c.l, .int c.kind, dN c.n, .int c.c, .sl (c.inn.map dA)] := by cases c; simp [dC, dAs_map]
section simps
@[simp] theorem fld_agg0 (x : D) (l : List D) : (D.agg (x :: l)).fld 0 = x := rfl
@[simp] theorem fld_agg1 (x y : D) (l : List D) : (D.agg (x :: y :: l)).fld 1 = y := rfl
@[simp] theorem fld_agg2 (x y z : D) (l : List D) : (D.agg (x :: y :: z :: l)).fld 2 = z := rfl
@[simp] theorem fld_agg3 (x y z u : D) (l : List D) : (D.agg (x :: y :: z :: u :: l)).fld 3 = u := rfl
@[simp] theorem fld_agg4 (x y z u v : D) (l : List D) : (D.agg (x :: y :: z :: u :: v :: l)).fld 4 = v := rfl
@[simp] theorem dA_0 (a : Arr) : (dA a).fld 0 = dB a.s := by rw [dA_eq]; rfl
@[simp] theorem dA_1 (a : Arr) : (dA a).fld 1 = dI a.shape := by rw [dA_eq]; rfl
@[simp] theorem dA_2 (a : Arr) : (dA a).fld 2 = .sl (a.cells.map dC) := by rw [dA_eq]; rfl
@[simp] theorem dC_0 (c : Cell) : (dC c).fld 0 = dB c.l := by rw [dC_eq]; rfl
@[simp] theorem dC_1 (c : Cell) : (dC c).fld 1 = .int c.kind := by rw [dC_eq]; rfl
@[simp] theorem dC_2 (c : Cell) : (dC c).fld 2 = dN c.n := by rw [dC_eq]; rfl
@[simp] theorem dC_3 (c : Cell) : (dC c).fld 3 = .int c.c := by rw [dC_eq]; rfl
@[simp] theorem dC_4 (c : Cell) : (dC c).fld 4 = .sl (c.inn.map dA) := by rw [dC_eq]; rfl
@[simp] theorem dN_0 (n : Num) : (dN n).fld 0 = .bool n.neg := rfl
@[simp] theorem dN_1 (n : Num) : (dN n).fld 1 = dL n.top := rfl
@[simp] theorem dN_2 (n : Num) : (dN n).fld 2 = dL n.bot := rfl
@[simp] theorem els_sl (l : List D) : (D.sl l).els = l := rfl
@[simp] theorem els_dI (l : List Int) : (dI l).els = l.map .int := rfl
@[simp] theorem els_dL (l : List Limb) : (dL l).els = l.map dB := rfl
@[simp] theorem toInt_int (n : Int) : (D.int n).toInt = n := rfl
@[simp] theorem toInt_dB {k : Nat} (x : BitVec k) : (dB x).toInt = (x.toNat : Int) := rfl
@[simp] theorem toBool_bool (b : Bool) : (D.bool b).toBool = b := rfl
@[simp] theorem unref_ref (x : D) : (D.ref x).unref = x := rfl
@[simp] theorem fnId_fn (f c d) : (D.fn f c d).fnId = f := rfl
@[simp] theorem fnCts_fn (f c d) : (D.fn f c d).fnCts = c := rfl
@[simp] theorem fnDs_fn (f c d) : (D.fn f c d).fnDs = d := rfl
@[simp] theorem getD_c0 (x : D) (l : List D) : (x :: l).getD 0 D.nil = x := rfl
@[simp] theorem getD_c1 (x y : D) (l : List D) : (x :: y :: l).getD 1 D.nil = y := rfl
@[simp] theorem getD_c2 (x y z : D) (l : List D) : (x :: y :: z :: l).getD 2 D.nil = z := rfl
@[simp] theorem getD_c3 (x y z u : D) (l : List D) : (x :: y :: z :: u :: l).getD 3 D.nil = u := rfl
theorem dInt_dB {k : Nat} (x : BitVec k) : D.int (x.toNat : Int) = dB x := rfl
end simps

/-- A row, from a place on. -/
theorem drop_cons {α : Type} {l : List α} {i : Nat} {x : α} {xs : List α} (h : l.drop i = x :: xs) : i < l.length ∧ l[i]? = some x ∧ l.drop (i + 1) = xs := by
  have hi : i < l.length := by
    rcases Nat.lt_or_ge i l.length with h1 | h1
    · exact h1
    · rw [List.drop_eq_nil_of_le h1] at h; cases h
  rw [List.drop_eq_getElem_cons hi] at h
  injection h with h1 h2
  exact ⟨hi, by rw [List.getElem?_eq_getElem hi, h1], h2⟩
theorem drop_nil {α : Type} {l : List α} {i : Nat} (h : l.drop i = []) : l.length ≤ i := List.drop_eq_nil_iff.1 h
theorem getD_map {α : Type} {l : List α} {i : Nat} {x : α} {f : α → D} (h : l[i]? = some x) : (l.map f).getD i D.nil = f x := by
  rw [List.getD_eq_getElem?_getD, List.getElem?_map, h]; rfl
theorem wrap64 {x : Int} (h1 : -9223372036854775808 ≤ x) (h2 : x ≤ 9223372036854775807) : IntKind.wrap .i64 x = x := by rw [IntKind.wrap_i64]; omega
theorem wrapU64 {x : Int} (h1 : 0 ≤ x) (h2 : x < 18446744073709551616) : IntKind.wrap .u64 x = x := by rw [IntKind.wrap_u64]; omega
theorem wrapU32 {x : Int} (h1 : 0 ≤ x) (h2 : x < 4294967296) : IntKind.wrap .u32 x = x := by rw [IntKind.wrap_u32]; omega

end Go.Proofs.YtcdjifdllibolaaGreat

namespace Go.Proofs.YtcdjifdllibolaaGreat
def mdL : List (Nat × FMode) := [(78, { own := [(0, [])] }), (90, { arg := some 0, back := true }), (96, { own := [(0, [])] })]
def md (f : Nat) : FMode := mdAt mdL f
theorem wfP : WfP Tryz.prog := wf_of (by kernel_rfl)
theorem mixP : Tryz.prog.follows .mixedOrders = true := by kernel_rfl
theorem noopP : NoopP Tryz.prog md := noop_all (by
  intro p hp hn
  simp only [mdL, List.mem_cons, List.not_mem_nil, or_false] at hp
  rcases hp with rfl | rfl | rfl
  all_goals first | exact absurd hn (by decide) | skip
  )
theorem sound_ {f : Nat} {cts : List CT} {xs ys : List D} {orc : List (Nat × Orc)} {t : Tree} (n : Nat) (h : evFun Tryz.prog md orc n f cts xs = t) (ht : t.wp Tryz.prog md (fun zs => zs = ys)) : Spec Tryz.prog md f cts xs ys :=
  fun_sound wfP mixP noopP (orc := orc) (n := n) (by rw [h]; exact ht)
end Go.Proofs.YtcdjifdllibolaaGreat

namespace Go.Proofs.YtcdjifdllibolaaGreat

/-- What is told of a function without captures. -/
abbrev Sp (f : Nat) (xs ys : List D) : Prop := Spec Tryz.prog md f [] xs ys
/-- What a tree comes to. -/
abbrev Tw (t : Tree) (ys : List D) : Prop := t.wp Tryz.prog md (fun zs => zs = ys)

theorem int_beq (x y : Int) : (x == y) = decide (x = y) := by by_cases h : x = y <;> simp [h]
theorem int_bne (x y : Int) : (x != y) = decide (¬ x = y) := by by_cases h : x = y <;> simp [h]
theorem not_dec (p : Prop) [Decidable p] : (!decide p) = decide (¬ p) := by by_cases h : p <;> simp [h]
theorem wrap_succ {k : Nat} (h : k < 9223372036854775807) : IntKind.wrap .i64 ((k : Int) + 1) = ((k + 1 : Nat) : Int) := by rw [wrap64 (by omega) (by omega)]; rfl
/-- A loop along a list. -/
theorem loop_list {α σ : Type} {P : Program} {md : Nat → FMode} (xs : List α) (L : Nat → Nat → σ → Tree) (f : List α → σ → List D) (I : List α → σ → Prop)
    (hnil : ∀ m k s, k = xs.length → I [] s → (L (m + 1) k s).wp P md (fun zs => zs = f [] s))
    (hcons : ∀ m k s x rest, xs.drop k = x :: rest → I (x :: rest) s → (∀ s', I rest s' → (L m (k + 1) s').wp P md (fun zs => zs = f rest s')) → (L (m + 1) k s).wp P md (fun zs => zs = f (x :: rest) s)) :
    ∀ m k s, xs.length - k < m → k ≤ xs.length → I (xs.drop k) s → (L m k s).wp P md (fun zs => zs = f (xs.drop k) s) := by
  intro m
  induction m with
  | zero => intro k s h; omega
  | succ m ih =>
    intro k s h1 h2 hI
    cases hd : xs.drop k with
    | nil => rw [hd] at hI; exact hnil m k s (by have := drop_nil hd; omega) hI
    | cons x rest =>
      rw [hd] at hI
      obtain ⟨a1, a2, a3⟩ := drop_cons hd
      refine hcons m k s x rest hd hI (fun s' hI' => ?_)
      have := ih (k + 1) s' (by omega) (by omega) (by rw [a3]; exact hI')
      rwa [a3] at this
/-- A loop that counts up. -/
theorem loop_up {σ : Type} {P : Program} {md : Nat → FMode} (N : Nat) (L : Nat → Nat → σ → Tree) (f : Nat → σ → List D) (I : Nat → σ → Prop)
    (hend : ∀ m s, I N s → (L (m + 1) N s).wp P md (fun zs => zs = f N s))
    (hstep : ∀ m k s, k < N → I k s → (∀ s', I (k + 1) s' → (L m (k + 1) s').wp P md (fun zs => zs = f (k + 1) s')) → (L (m + 1) k s).wp P md (fun zs => zs = f k s)) :
    ∀ m k s, N - k < m → k ≤ N → I k s → (L m k s).wp P md (fun zs => zs = f k s) := by
  intro m
  induction m with
  | zero => intro k s h; omega
  | succ m ih =>
    intro k s h1 h2 hI
    by_cases hk : k = N
    · subst hk; exact hend m s hI
    · exact hstep m k s (by omega) hI (fun s' hI' => ih (k + 1) s' (by omega) (by omega) hI')
/-- A loop that counts down to 0, from k-1 on. -/
theorem loop_down {σ : Type} {P : Program} {md : Nat → FMode} (L : Nat → Nat → σ → Tree) (f : Nat → σ → List D) (I : Nat → σ → Prop)
    (hend : ∀ m s, I 0 s → (L (m + 1) 0 s).wp P md (fun zs => zs = f 0 s))
    (hstep : ∀ m k s, I (k + 1) s → (∀ s', I k s' → (L m k s').wp P md (fun zs => zs = f k s')) → (L (m + 1) (k + 1) s).wp P md (fun zs => zs = f (k + 1) s)) :
    ∀ m k s, k < m → I k s → (L m k s).wp P md (fun zs => zs = f k s) := by
  intro m
  induction m with
  | zero => intro k s h; omega
  | succ m ih =>
    intro k s h1 hI
    cases k with
    | zero => exact hend m s hI
    | succ k => exact hstep m k s hI (fun s' hI' => ih k s' (by omega) hI')
end Go.Proofs.YtcdjifdllibolaaGreat

set_option maxRecDepth 100000
namespace Go.Proofs.YtcdjifdllibolaaGreat
open Go.ChangeShapes Go.WideShapes Go.ChangeAt Go.RowKit

section
variable {P : Program} {md : Nat → FMode}
theorem law_calls {F : Nat} {fn : Func} {xs : List D} {vs : List Value} {W : World} {tb : Nat} (hs : Spec P md F [] xs [.bool true]) (hfn : P.funcs[F]? = some fn) (hm : md F = {}) (hrt : fn.resultTypes = #[tb]) (htb : P.underlying tb = some .bool)
    (hlx : xs.length = fn.params.size) (hlv : vs.length = fn.params.size) (hrd : ∀ (i t : Nat) (x : D) (v : Value), fn.params.toList[i]? = some t → xs[i]? = some x → vs[i]? = some v → Rd P md W (fun _ => False) (.ty t) x v) :
    Calls P F vs.toArray W (fun e w' => e = .returned (.bool true) ∧ Ext W w') := by
  obtain ⟨fn', h1, _, _, h⟩ := hs
  rw [hfn] at h1
  injection h1 with h1
  subst h1
  refine (h W (fun _ => False) vs 0 1 (fun k hk => by rw [hm] at hk; cases hk) ⟨by simp [hlx], by simp [hlv], fun b hb => hb.elim, ?_, fun p hp => by rw [hm] at hp; cases hp⟩).mono ?_
  · intro i ct x v hc hx hv _
    simp only [List.append_nil, List.getElem?_map, Option.map_eq_some_iff] at hc
    obtain ⟨t, ht, rfl⟩ := hc
    have := hrd i t x v ht hx hv
    exact ⟨this.rd.mono (Nat.le_refl _) (fun _ _ _ => rfl) (fun b hb _ => by
      rcases hb with hb | ⟨p, u, hp, _⟩
      · exact hb
      · rw [hm] at hp; cases hp), this.size, this.agg⟩
  · rintro e w' ⟨us, β', hp⟩
    have hl := hp.len
    rw [hrt] at hl
    have : ∃ u, us = [u] := by
      match us, hl with
      | [u], _ => exact ⟨u, rfl⟩
    obtain ⟨u, rfl⟩ := this
    have hv := hp.vl [.b true] (by rw [hrt, hm]; simp [resL, setOwn, ofD, htb, D.toBool, List.getD]) 0 (.b true) u rfl rfl
    have hu := vl_b hv
    subst hu
    refine ⟨hp.ending, ?_⟩
    have := hp.stp
    refine Stp.ext (this.weak fun b ⟨p, v, h1, _⟩ => ?_)
    rw [hm] at h1; cases h1

theorem rd_int {t : Nat} {k : IntKind} {w : World} {M : Nat → Prop} {y : D} {c : Nat → Option Value} (h : RdC P md w M (.ty t) y c) (ht : P.underlying t = some (.int k)) : ∃ n, y = .int n ∧ k.min ≤ n ∧ n ≤ k.max := by
  cases h <;> simp_all [CT.desc]
  all_goals (rename_i hf _; obtain ⟨⟨a, ha, _⟩, _⟩ := fieldsOf_under hf; rw [ht] at ha; cases ha)
theorem rd_bool {t : Nat} {w : World} {M : Nat → Prop} {y : D} {c : Nat → Option Value} (h : RdC P md w M (.ty t) y c) (ht : P.underlying t = some .bool) : ∃ b, y = .bool b := by
  cases h <;> simp_all [CT.desc]
  all_goals (rename_i hf _; obtain ⟨⟨a, ha, _⟩, _⟩ := fieldsOf_under hf; rw [ht] at ha; cases ha)
theorem rd_str {t : Nat} {w : World} {M : Nat → Prop} {y : D} {c : Nat → Option Value} (h : RdC P md w M (.ty t) y c) (ht : P.underlying t = some .string) : ∃ s, y = .str s ∧ s.size ≤ maxLen := by
  cases h <;> simp_all [CT.desc]
  all_goals (rename_i hf _; obtain ⟨⟨a, ha, _⟩, _⟩ := fieldsOf_under hf; rw [ht] at ha; cases ha)
theorem rd_slc {t e : Nat} {w : World} {M : Nat → Prop} {y : D} {c : Nat → Option Value} (h : RdC P md w M (.ty t) y c) (ht : P.underlying t = some (.slice e)) : ∃ es, y = .sl es ∧ es.length ≤ maxLen ∧ ∀ x ∈ es, ∃ c', RdC P md w M (.ty e) x c' := by
  cases h with
  | sl ht' hc h1 h2 hA hh =>
    have : P.underlying t = some (.slice _) := ht'
    rw [ht] at this
    injection this with this
    injection this with this
    subst this
    refine ⟨_, rfl, Nat.le_trans h1 h2, fun x hx => ?_⟩
    obtain ⟨i, hi, rfl⟩ := List.getElem_of_mem hx
    exact ⟨_, hh i _ (List.getElem?_eq_getElem hi)⟩
  | struct hf _ _ => obtain ⟨⟨a, ha, _⟩, _⟩ := fieldsOf_under hf; rw [ht] at ha; cases ha
  | int ht' => have : P.underlying t = _ := ht'; rw [ht] at this; cases this
  | bool ht' => have : P.underlying t = _ := ht'; rw [ht] at this; cases this
  | str ht' => have : P.underlying t = _ := ht'; rw [ht] at this; cases this
  | fn ht' => have : P.underlying t = _ := ht'; rw [ht] at this; cases this
  | mp ht' => have : P.underlying t = _ := ht'; rw [ht] at this; cases this
  | ref ht' => have : P.underlying t = _ := ht'; rw [ht] at this; cases this
theorem rd_struct {t : Nat} {fs : List Field} {w : World} {M : Nat → Prop} {y : D} {c : Nat → Option Value} (h : RdC P md w M (.ty t) y c) (ht : fieldsOf P t = some fs) : ∃ ds, y = .agg ds ∧ ds.length = fs.length ∧ ∀ (i : Nat) (f : Field) (d : D), fs[i]? = some f → ds[i]? = some d → ∃ c', RdC P md w M (.ty f.type) d c' := by
  obtain ⟨⟨a, ha, _⟩, _⟩ := fieldsOf_under ht
  cases h with
  | struct hf hl hh =>
    rw [ht] at hf
    injection hf with hf
    subst hf
    exact ⟨_, rfl, hl, fun i f d h1 h2 => ⟨_, hh i f d h1 h2⟩⟩
  | sl ht' => have : P.underlying t = _ := ht'; rw [ha] at this; cases this
  | int ht' => have : P.underlying t = _ := ht'; rw [ha] at this; cases this
  | bool ht' => have : P.underlying t = _ := ht'; rw [ha] at this; cases this
  | str ht' => have : P.underlying t = _ := ht'; rw [ha] at this; cases this
  | fn ht' => have : P.underlying t = _ := ht'; rw [ha] at this; cases this
  | mp ht' => have : P.underlying t = _ := ht'; rw [ha] at this; cases this
  | ref ht' => have : P.underlying t = _ := ht'; rw [ha] at this; cases this
theorem rd_ints {t e : Nat} {w : World} {M : Nat → Prop} {y : D} {c : Nat → Option Value} (h : RdC P md w M (.ty t) y c) (ht : P.underlying t = some (.slice e)) (he : P.underlying e = some (.int .i64)) : ∃ l, y = dI l ∧ l.length ≤ maxLen ∧ ∀ x ∈ l, -9223372036854775808 ≤ x ∧ x ≤ 9223372036854775807 := by
  obtain ⟨es, rfl, hl, hh⟩ := rd_slc h ht
  have : ∃ l : List Int, es = l.map .int ∧ ∀ x ∈ l, -9223372036854775808 ≤ x ∧ x ≤ 9223372036854775807 := by
    clear hl h
    induction es with
    | nil => exact ⟨[], rfl, fun _ h => by cases h⟩
    | cons x es ih =>
      obtain ⟨l, rfl, hl⟩ := ih (fun y hy => hh y (by simp [hy]))
      obtain ⟨c', hc⟩ := hh x (by simp)
      obtain ⟨n, rfl, h1, h2⟩ := rd_int hc he
      exact ⟨n :: l, rfl, fun y hy => by rcases List.mem_cons.1 hy with rfl | hy; exact ⟨h1, h2⟩; exact hl y hy⟩
  obtain ⟨l, rfl, h2⟩ := this
  exact ⟨l, rfl, by simpa using hl, h2⟩
theorem rd_limbs {t e : Nat} {w : World} {M : Nat → Prop} {y : D} {c : Nat → Option Value} (h : RdC P md w M (.ty t) y c) (ht : P.underlying t = some (.slice e)) (he : P.underlying e = some (.int .u32)) : ∃ l : List Limb, y = dL l ∧ l.length ≤ maxLen := by
  obtain ⟨es, rfl, hl, hh⟩ := rd_slc h ht
  have : ∃ l : List Limb, es = l.map dB := by
    clear hl h
    induction es with
    | nil => exact ⟨[], rfl⟩
    | cons x es ih =>
      obtain ⟨l, rfl⟩ := ih (fun y hy => hh y (by simp [hy]))
      obtain ⟨c', hc⟩ := hh x (by simp)
      obtain ⟨n, rfl, h1, h2⟩ := rd_int hc he
      have h1 : 0 ≤ n := h1
      have h2 : n ≤ 4294967295 := h2
      refine ⟨BitVec.ofNat 32 n.toNat :: l, ?_⟩
      simp only [List.map_cons, dB, BitVec.toNat_ofNat]
      rw [Nat.mod_eq_of_lt (by omega), Int.toNat_of_nonneg h1]
  obtain ⟨l, rfl⟩ := this
  exact ⟨l, rfl, by simpa using hl⟩
end
end Go.Proofs.YtcdjifdllibolaaGreat

set_option maxRecDepth 100000
namespace Go.Proofs.YtcdjifdllibolaaGreat
/-! scrim/scrimref03.Of -/
def ref03_Of_orc : List (Nat × Orc) := []
theorem ref03_Of_tree (n : Nat) (nn0 : D) : evFun Tryz.prog md ref03_Of_orc n 17 [] [nn0] =
 .br (decide (0 ≤ nn0.toInt)) (.br (!(4294967296 == (0 : Int))) (.br (!(4294967296 == (0 : Int))) (.call 21 [] [D.agg [D.bool false, D.sl [D.int (IntKind.wrap .u32 (Int.tmod nn0.toInt 4294967296)), D.int (IntKind.wrap .u32 (IntKind.wrap .i64 (Int.tdiv nn0.toInt 4294967296)))]]] fun yy1 =>
 .ret [yy1.getD 0 D.nil]) .fail) .fail)
 (.br (!(4294967296 == (0 : Int))) (.br (!(4294967296 == (0 : Int))) (.call 22 [] [D.sl [D.int (IntKind.wrap .u32 (Int.tmod (IntKind.wrap .i64 ((-1) - nn0.toInt)) 4294967296)), D.int (IntKind.wrap .u32 (IntKind.wrap .i64 (Int.tdiv (IntKind.wrap .i64 ((-1) - nn0.toInt)) 4294967296)))], D.sl [D.int 1]] fun yy2 =>
 .call 21 [] [D.agg [D.bool true, yy2.getD 0 D.nil]] fun yy3 =>
 .ret [yy3.getD 0 D.nil]) .fail) .fail) := by kernel_rfl

/-! scrim/scrimref03.Norm -/
def ref03_Norm_orc : List (Nat × Orc) := []
theorem ref03_Norm_tree (n : Nat) (a0 : D) : evFun Tryz.prog md ref03_Norm_orc n 21 [] [a0] =
 .call 50 [] [a0.fld 1] fun yy1 =>
 .br ((((yy1.getD 0 D.nil).els).length : Int) == 0) (.ret [D.agg [D.bool false, D.sl []]])
 (.ret [D.agg [D.bool ((a0.fld 0).toBool), yy1.getD 0 D.nil]]) := by kernel_rfl

end Go.Proofs.YtcdjifdllibolaaGreat

set_option maxRecDepth 100000
namespace Go.Proofs.YtcdjifdllibolaaGreat
/-! scrim/scrimref02.Add -/
def ref02_Add_orc : List (Nat × Orc) := [(4, ⟨[(0, some 22), (1, some 22), (5, none), (6, none), (7, none)], [], [(.slot 5, 1040, 41)]⟩)]
def ref02_Add_ps : List Nat := [22, 22]
def ref02_Add_rs : List ResultVar := [.tmp 4]
def ref02_Add_ts : List Nat := [22]
noncomputable def ref02_Add_l4 (n m4 : Nat) (a0 : D) (b1 : D) (out5 : List D) (carry6 : Int) (i7 : Int) : Tree :=
  evLoop Tryz.prog md (ev Tryz.prog md n ref02_Add_orc (cAt (bodyOf Tryz.prog 22) [1, 1, 1, 0, 1, 0, 0])) (orcAt ref02_Add_orc 4) m4 ⟨[.d 22 a0, .d 22 b1, .undef, .undef, .undef, .row 1040, .i .u64 carry6, .i .i64 i7, .undef, .undef, .undef, .undef, .undef, .undef, .undef, .undef, .undef, .undef, .undef, .undef, .undef, .undef, .undef, .undef, .undef, .undef, .undef, .undef, .undef, .undef, .undef, .undef, .undef, .undef, .undef], [(1040, .row 41 out5 true)], [1040], [], []⟩
   (blockK 0 (seqK (joinE Tryz.prog md (joinAt ref02_Add_orc (cAt (bodyOf Tryz.prog 22) [1, 1, 1, 1])) (ev Tryz.prog md n ref02_Add_orc (cAt (bodyOf Tryz.prog 22) [1, 1, 1, 1]))) (retK Tryz.prog md (md 22) ref02_Add_ps ref02_Add_rs ref02_Add_ts)))
theorem ref02_Add_l4_succ (n m4 : Nat) (a0 : D) (b1 : D) (out5 : List D) (carry6 : Int) (i7 : Int) : ref02_Add_l4 n (m4 + 1) a0 b1 out5 carry6 i7 =
 .call 51 [] [a0, b1] fun yy1 =>
 .br (decide (i7 ≤ ((yy1.getD 0 D.nil).toInt))) (.call 52 [] [a0, D.int i7] fun yy2 =>
 .call 52 [] [b1, D.int i7] fun yy3 =>
 .br (!(4294967296 == (0 : Int))) (.br (decide (out5.length + [D.int (IntKind.wrap .u32 (Int.tmod (IntKind.wrap .u64 ((IntKind.wrap .u64 (((yy2.getD 0 D.nil).toInt) + ((yy3.getD 0 D.nil).toInt))) + carry6)) 4294967296))].length ≤ bigN)) (.br (!(4294967296 == (0 : Int))) (ref02_Add_l4 n m4 a0 b1 (out5 ++ [D.int (IntKind.wrap .u32 (Int.tmod (IntKind.wrap .u64 ((IntKind.wrap .u64 (((yy2.getD 0 D.nil).toInt) + ((yy3.getD 0 D.nil).toInt))) + carry6)) 4294967296))]) (IntKind.wrap .u64 (Int.tdiv (IntKind.wrap .u64 ((IntKind.wrap .u64 (((yy2.getD 0 D.nil).toInt) + ((yy3.getD 0 D.nil).toInt))) + carry6)) 4294967296)) (IntKind.wrap .i64 (i7 + 1))) .fail) .fail) .fail)
 (.call 50 [] [D.sl out5] fun yy4 =>
 .ret [yy4.getD 0 D.nil]) := by kernel_rfl
theorem ref02_Add_tree (n : Nat) (a0 : D) (b1 : D) : evFun Tryz.prog md ref02_Add_orc n 22 [] [a0, b1] =
 ref02_Add_l4 n n a0 b1 [] 0 0 := by kernel_rfl

/-! scrim/scrimref02.Norm -/
def ref02_Norm_orc : List (Nat × Orc) := [(2, ⟨[(0, some 22), (3, none)], [], []⟩)]
def ref02_Norm_ps : List Nat := [22]
def ref02_Norm_rs : List ResultVar := [.tmp 2]
def ref02_Norm_ts : List Nat := [22]
noncomputable def ref02_Norm_l2 (n m2 : Nat) (a0 : D) (nn3 : Int) : Tree :=
  evLoop Tryz.prog md (ev Tryz.prog md n ref02_Norm_orc (cAt (bodyOf Tryz.prog 50) [1, 1, 0, 0, 0])) (orcAt ref02_Norm_orc 2) m2 ⟨[.d 22 a0, .undef, .undef, .i .i64 nn3, .undef, .undef, .undef, .undef, .undef, .undef, .undef, .undef, .undef, .undef, .undef, .undef, .undef, .undef, .undef, .undef, .undef, .undef, .undef, .undef], [], [], [], []⟩
   (blockK 0 (seqK (joinE Tryz.prog md (joinAt ref02_Norm_orc (cAt (bodyOf Tryz.prog 50) [1, 1, 1])) (ev Tryz.prog md n ref02_Norm_orc (cAt (bodyOf Tryz.prog 50) [1, 1, 1]))) (retK Tryz.prog md (md 50) ref02_Norm_ps ref02_Norm_rs ref02_Norm_ts)))
theorem ref02_Norm_l2_succ (n m2 : Nat) (a0 : D) (nn3 : Int) : ref02_Norm_l2 n (m2 + 1) a0 nn3 =
 .br (decide (0 < nn3)) (.br (decide (0 ≤ IntKind.wrap .i64 (nn3 - 1))) (.br (decide (IntKind.wrap .i64 (nn3 - 1) < (a0.els.length : Int))) (.br (((a0.els.getD (Int.toNat (IntKind.wrap .i64 (nn3 - 1))) D.nil).toInt) == 0) (ref02_Norm_l2 n m2 a0 (IntKind.wrap .i64 (nn3 - 1)))
 (.br (decide (0 ≤ nn3)) (.br (decide (nn3 ≤ (a0.els.length : Int))) (.br (decide ((a0.els.take (Int.toNat nn3)).length ≤ bigN)) (.ret [D.sl (a0.els.take (Int.toNat nn3))]) .fail) .fail) .fail)) .fail) .fail)
 (.br (decide (0 ≤ nn3)) (.br (decide (nn3 ≤ (a0.els.length : Int))) (.br (decide ((a0.els.take (Int.toNat nn3)).length ≤ bigN)) (.ret [D.sl (a0.els.take (Int.toNat nn3))]) .fail) .fail) .fail) := by kernel_rfl
theorem ref02_Norm_tree (n : Nat) (a0 : D) : evFun Tryz.prog md ref02_Norm_orc n 50 [] [a0] =
 ref02_Norm_l2 n n a0 (a0.els.length : Int) := by kernel_rfl

/-! scrim/scrimref02.longer -/
def ref02_longer_orc : List (Nat × Orc) := []
theorem ref02_longer_tree (n : Nat) (a0 : D) (b1 : D) : evFun Tryz.prog md ref02_longer_orc n 51 [] [a0, b1] =
 .br (decide ((b1.els.length : Int) < (a0.els.length : Int))) (.ret [D.int (a0.els.length : Int)])
 (.ret [D.int (b1.els.length : Int)]) := by kernel_rfl

/-! scrim/scrimref02.limb -/
def ref02_limb_orc : List (Nat × Orc) := []
theorem ref02_limb_tree (n : Nat) (a0 : D) (i1 : D) : evFun Tryz.prog md ref02_limb_orc n 52 [] [a0, i1] =
 .br (decide (i1.toInt < (a0.els.length : Int))) (.br (decide (0 ≤ i1.toInt)) (.br (decide (i1.toInt < (a0.els.length : Int))) (.ret [D.int (IntKind.wrap .u64 ((a0.els.getD (Int.toNat i1.toInt) D.nil).toInt))]) .fail) .fail)
 (.ret [D.int 0]) := by kernel_rfl

/-! scrim/nat.Gcd -/
def nat_Gcd_orc : List (Nat × Orc) := [(2, ⟨[(0, some 22), (1, some 22)], [], []⟩)]
def nat_Gcd_ps : List Nat := [22, 22]
def nat_Gcd_rs : List ResultVar := [.tmp 4]
def nat_Gcd_ts : List Nat := [22]
noncomputable def nat_Gcd_l2 (n m2 : Nat) (a0 : D) (b1 : D) : Tree :=
  evLoop Tryz.prog md (ev Tryz.prog md n nat_Gcd_orc (cAt (bodyOf Tryz.prog 56) [1, 1, 0, 0, 0])) (orcAt nat_Gcd_orc 2) m2 ⟨[.d 22 a0, .d 22 b1, .undef, .undef, .undef, .undef, .undef, .undef, .undef, .undef, .undef, .undef, .undef, .undef, .undef, .undef, .undef, .undef, .undef, .undef, .undef, .undef, .undef, .undef, .undef, .undef, .undef, .undef, .undef, .undef, .undef, .undef, .undef, .undef, .undef, .undef, .undef, .undef, .undef], [], [], [], []⟩
   (blockK 0 (seqK (joinE Tryz.prog md (joinAt nat_Gcd_orc (cAt (bodyOf Tryz.prog 56) [1, 1, 1])) (ev Tryz.prog md n nat_Gcd_orc (cAt (bodyOf Tryz.prog 56) [1, 1, 1]))) (retK Tryz.prog md (md 56) nat_Gcd_ps nat_Gcd_rs nat_Gcd_ts)))
theorem nat_Gcd_l2_succ (n m2 : Nat) (a0 : D) (b1 : D) : nat_Gcd_l2 n (m2 + 1) a0 b1 =
 .br (decide (0 < (b1.els.length : Int))) (.br (decide ((a0.els.length : Int) ≤ 2)) (.br (decide ((b1.els.length : Int) ≤ 2)) (.call 76 [] [a0] fun yy3 =>
 .call 76 [] [b1] fun yy4 =>
 .call 75 [] [D.int ((yy3.getD 0 D.nil).toInt), D.int ((yy4.getD 0 D.nil).toInt)] fun yy5 =>
 .ret [yy5.getD 0 D.nil])
 (.call 77 [] [a0, b1] fun yy6 =>
 nat_Gcd_l2 n m2 b1 (yy6.getD 1 D.nil)))
 (.call 77 [] [a0, b1] fun yy7 =>
 nat_Gcd_l2 n m2 b1 (yy7.getD 1 D.nil)))
 (.call 78 [] [a0] fun yy8 =>
 .ret [D.sl ((yy8.getD 0 D.nil).els)]) := by kernel_rfl
theorem nat_Gcd_tree (n : Nat) (a0 : D) (b1 : D) : evFun Tryz.prog md nat_Gcd_orc n 56 [] [a0, b1] =
 .call 74 [] [a0] fun yy1 =>
 .call 74 [] [b1] fun yy2 =>
 nat_Gcd_l2 n n (yy1.getD 0 D.nil) (yy2.getD 0 D.nil) := by kernel_rfl

/-! scrim/nat.trim -/
def nat_trim_orc : List (Nat × Orc) := [(2, ⟨[(0, some 22), (3, none)], [], []⟩)]
def nat_trim_ps : List Nat := [22]
def nat_trim_rs : List ResultVar := [.tmp 2]
def nat_trim_ts : List Nat := [22]
noncomputable def nat_trim_l2 (n m2 : Nat) (a0 : D) (nn3 : Int) : Tree :=
  evLoop Tryz.prog md (ev Tryz.prog md n nat_trim_orc (cAt (bodyOf Tryz.prog 74) [1, 1, 0, 0, 0])) (orcAt nat_trim_orc 2) m2 ⟨[.d 22 a0, .undef, .undef, .i .i64 nn3, .undef, .undef, .undef, .undef, .undef, .undef, .undef, .undef, .undef, .undef, .undef, .undef, .undef, .undef, .undef, .undef, .undef, .undef], [], [], [], []⟩
   (blockK 0 (seqK (joinE Tryz.prog md (joinAt nat_trim_orc (cAt (bodyOf Tryz.prog 74) [1, 1, 1])) (ev Tryz.prog md n nat_trim_orc (cAt (bodyOf Tryz.prog 74) [1, 1, 1]))) (retK Tryz.prog md (md 74) nat_trim_ps nat_trim_rs nat_trim_ts)))
theorem nat_trim_l2_succ (n m2 : Nat) (a0 : D) (nn3 : Int) : nat_trim_l2 n (m2 + 1) a0 nn3 =
 .br (decide (0 < nn3)) (.br (decide (0 ≤ IntKind.wrap .i64 (nn3 - 1))) (.br (decide (IntKind.wrap .i64 (nn3 - 1) < (a0.els.length : Int))) (.br (((a0.els.getD (Int.toNat (IntKind.wrap .i64 (nn3 - 1))) D.nil).toInt) == 0) (nat_trim_l2 n m2 a0 (IntKind.wrap .i64 (nn3 - 1)))
 (.br (decide (0 ≤ nn3)) (.br (decide (nn3 ≤ nn3)) (.br (decide (nn3 ≤ (a0.els.length : Int))) (.ret [D.sl (a0.els.take (Int.toNat nn3))]) .fail) .fail) .fail)) .fail) .fail)
 (.br (decide (0 ≤ nn3)) (.br (decide (nn3 ≤ nn3)) (.br (decide (nn3 ≤ (a0.els.length : Int))) (.ret [D.sl (a0.els.take (Int.toNat nn3))]) .fail) .fail) .fail) := by kernel_rfl
theorem nat_trim_tree (n : Nat) (a0 : D) : evFun Tryz.prog md nat_trim_orc n 74 [] [a0] =
 nat_trim_l2 n n a0 (a0.els.length : Int) := by kernel_rfl

/-! scrim/nat.small -/
def nat_small_orc : List (Nat × Orc) := [(1, ⟨[(0, none), (1, none)], [], []⟩)]
def nat_small_ps : List Nat := [55, 55]
def nat_small_rs : List ResultVar := [.tmp 4]
def nat_small_ts : List Nat := [22]
noncomputable def nat_small_l1 (n m1 : Nat) (a0 : Int) (b1 : Int) : Tree :=
  evLoop Tryz.prog md (ev Tryz.prog md n nat_small_orc (cAt (bodyOf Tryz.prog 75) [1, 0, 0, 0])) (orcAt nat_small_orc 1) m1 ⟨[.i .u64 a0, .i .u64 b1, .undef, .undef, .undef, .undef, .undef, .undef, .undef, .undef, .undef, .undef, .undef, .undef, .undef, .undef, .undef, .undef], [], [], [], []⟩
   (blockK 0 (seqK (joinE Tryz.prog md (joinAt nat_small_orc (cAt (bodyOf Tryz.prog 75) [1, 1])) (ev Tryz.prog md n nat_small_orc (cAt (bodyOf Tryz.prog 75) [1, 1]))) (retK Tryz.prog md (md 75) nat_small_ps nat_small_rs nat_small_ts)))
theorem nat_small_l1_succ (n m1 : Nat) (a0 : Int) (b1 : Int) : nat_small_l1 n (m1 + 1) a0 b1 =
 .br (b1 != 0) (.br (!(b1 == (0 : Int))) (nat_small_l1 n m1 b1 (Int.tmod a0 b1)) .fail)
 (.br (decide (0 ≤ 32)) (.call 78 [] [D.sl [D.int (IntKind.wrap .u32 a0), D.int (IntKind.wrap .u32 (Int.fdiv a0 (2 ^ (min (Int.toNat 32) (IntKind.bits .u64)))))]] fun yy1 =>
 .ret [D.sl ((yy1.getD 0 D.nil).els)]) .fail) := by kernel_rfl
theorem nat_small_tree (n : Nat) (a0 : D) (b1 : D) : evFun Tryz.prog md nat_small_orc n 75 [] [a0, b1] =
 nat_small_l1 n n a0.toInt b1.toInt := by kernel_rfl

/-! scrim/nat.word -/
def nat_word_orc : List (Nat × Orc) := [(3, ⟨[(3, none), (6, some 22), (7, none), (8, none)], [], []⟩)]
def nat_word_ps : List Nat := [22]
def nat_word_rs : List ResultVar := [.tmp 2]
def nat_word_ts : List Nat := [55]
noncomputable def nat_word_l3 (n m3 : Nat) (out3 : Int) (t6 : D) (t7 : Int) (t8 : Int) : Tree :=
  evLoop Tryz.prog md (ev Tryz.prog md n nat_word_orc (cAt (bodyOf Tryz.prog 76) [1, 1, 0, 1, 0, 0])) (orcAt nat_word_orc 3) m3 ⟨[.undef, .undef, .undef, .i .u64 out3, .undef, .undef, .d 22 t6, .i .i64 t7, .i .i64 t8, .undef, .undef, .undef, .undef, .undef, .undef, .undef, .undef, .undef, .undef, .undef, .undef, .undef, .undef], [], [], [], []⟩
   (blockK 0 (seqK (joinE Tryz.prog md (joinAt nat_word_orc (cAt (bodyOf Tryz.prog 76) [1, 1, 1])) (ev Tryz.prog md n nat_word_orc (cAt (bodyOf Tryz.prog 76) [1, 1, 1]))) (retK Tryz.prog md (md 76) nat_word_ps nat_word_rs nat_word_ts)))
theorem nat_word_l3_succ (n m3 : Nat) (out3 : Int) (t6 : D) (t7 : Int) (t8 : Int) : nat_word_l3 n (m3 + 1) out3 t6 t7 t8 =
 .br (decide (t8 < t7)) (.br (decide (0 ≤ t8)) (.br (decide (t8 < (t6.els.length : Int))) (.br (decide (0 ≤ IntKind.wrap .u64 (IntKind.wrap .i64 (32 * t8)))) (nat_word_l3 n m3 (bits_ .or .u64 out3 (IntKind.wrap .u64 ((IntKind.wrap .u64 ((t6.els.getD (Int.toNat t8) D.nil).toInt)) * 2 ^ (min (Int.toNat (IntKind.wrap .u64 (IntKind.wrap .i64 (32 * t8)))) (IntKind.bits .u64))))) t6 t7 (IntKind.wrap .i64 (t8 + 1))) .fail) .fail) .fail)
 (.ret [D.int out3]) := by kernel_rfl
theorem nat_word_tree (n : Nat) (a0 : D) : evFun Tryz.prog md nat_word_orc n 76 [] [a0] =
 nat_word_l3 n n 0 a0 (a0.els.length : Int) 0 := by kernel_rfl

/-! scrim/nat.DivMod -/
def nat_DivMod_orc : List (Nat × Orc) := []
theorem nat_DivMod_tree (n : Nat) (a0 : D) (b1 : D) : evFun Tryz.prog md nat_DivMod_orc n 77 [] [a0, b1] =
 .call 74 [] [a0] fun yy1 =>
 .call 74 [] [b1] fun yy2 =>
 .br ((((yy2.getD 0 D.nil).els).length : Int) == 0) (.ret [D.sl [], D.sl [], D.bool false])
 (.call 89 [] [yy1.getD 0 D.nil, yy2.getD 0 D.nil] fun yy3 =>
 .br (decide (((yy3.getD 0 D.nil).toInt) < 0)) (.call 78 [] [yy1.getD 0 D.nil] fun yy4 =>
 .ret [D.sl [], D.sl ((yy4.getD 0 D.nil).els), D.bool true])
 (.br ((((yy2.getD 0 D.nil).els).length : Int) == 1) (.call 78 [] [yy1.getD 0 D.nil] fun yy5 =>
 .br (decide (0 ≤ 0)) (.br (decide (0 < (((yy2.getD 0 D.nil).els).length : Int))) (.call 90 [] [D.sl ((yy5.getD 0 D.nil).els), D.int ((((yy2.getD 0 D.nil).els).getD (Int.toNat 0) D.nil).toInt)] fun yy6 =>
 .call 74 [] [D.sl ((yy6.getD 1 D.nil).els)] fun yy7 =>
 .call 78 [] [D.sl [D.int ((yy6.getD 0 D.nil).toInt)]] fun yy8 =>
 .ret [yy7.getD 0 D.nil, D.sl ((yy8.getD 0 D.nil).els), D.bool true]) .fail) .fail)
 (.call 91 [] [yy1.getD 0 D.nil, yy2.getD 0 D.nil] fun yy9 =>
 .ret [yy9.getD 0 D.nil, yy9.getD 1 D.nil, D.bool true]))) := by kernel_rfl

/-! scrim/nat.Norm -/
def nat_Norm_orc : List (Nat × Orc) := []
theorem nat_Norm_tree (n : Nat) (a0 : D) : evFun Tryz.prog md nat_Norm_orc n 78 [] [a0] =
 .call 74 [] [a0] fun yy1 =>
 .br (decide (0 ≤ (((yy1.getD 0 D.nil).els).length : Int))) (.br (decide ((((yy1.getD 0 D.nil).els).length : Int) ≤ (((yy1.getD 0 D.nil).els).length : Int))) (.br (decide ((((yy1.getD 0 D.nil).els).length : Int) ≤ bigN)) (.ret [D.sl (((yy1.getD 0 D.nil).els).take (List.replicate (Int.toNat (((yy1.getD 0 D.nil).els).length : Int)) (D.int 0)).length ++ (List.replicate (Int.toNat (((yy1.getD 0 D.nil).els).length : Int)) (D.int 0)).drop ((yy1.getD 0 D.nil).els).length)]) .fail) .fail) .fail := by kernel_rfl

/-! scrim/nat.Cmp -/
def nat_Cmp_orc : List (Nat × Orc) := [(7, ⟨[(0, some 22), (1, some 22), (5, none)], [], []⟩)]
def nat_Cmp_ps : List Nat := [22, 22]
def nat_Cmp_rs : List ResultVar := [.tmp 4]
def nat_Cmp_ts : List Nat := [3]
noncomputable def nat_Cmp_l7 (n m7 : Nat) (a0 : D) (b1 : D) (i5 : Int) : Tree :=
  evLoop Tryz.prog md (ev Tryz.prog md n nat_Cmp_orc (cAt (bodyOf Tryz.prog 89) [1, 1, 1, 0, 1, 0, 0])) (orcAt nat_Cmp_orc 7) m7 ⟨[.d 22 a0, .d 22 b1, .undef, .undef, .undef, .i .i64 i5, .undef, .undef, .undef, .undef, .undef, .undef, .undef, .undef, .undef, .undef, .undef, .undef, .undef, .undef, .undef, .undef, .undef, .undef, .undef, .undef, .undef, .undef, .undef, .undef, .undef, .undef, .undef, .undef, .undef, .undef, .undef, .undef, .undef, .undef, .undef, .undef, .undef, .undef, .undef, .undef, .undef, .undef, .undef], [], [], [], []⟩
   (blockK 1 (seqK (joinE Tryz.prog md (joinAt nat_Cmp_orc (cAt (bodyOf Tryz.prog 89) [1, 1, 1, 1])) (ev Tryz.prog md n nat_Cmp_orc (cAt (bodyOf Tryz.prog 89) [1, 1, 1, 1]))) (retK Tryz.prog md (md 89) nat_Cmp_ps nat_Cmp_rs nat_Cmp_ts)))
theorem nat_Cmp_l7_succ (n m7 : Nat) (a0 : D) (b1 : D) (i5 : Int) : nat_Cmp_l7 n (m7 + 1) a0 b1 i5 =
 .br (decide (0 ≤ i5)) (.br (decide (0 ≤ i5)) (.br (decide (i5 < (a0.els.length : Int))) (.br (decide (0 ≤ i5)) (.br (decide (i5 < (b1.els.length : Int))) (.br (decide (((a0.els.getD (Int.toNat i5) D.nil).toInt) < ((b1.els.getD (Int.toNat i5) D.nil).toInt))) (.ret [D.int (-1)])
 (.br (decide (0 ≤ i5)) (.br (decide (i5 < (a0.els.length : Int))) (.br (decide (0 ≤ i5)) (.br (decide (i5 < (b1.els.length : Int))) (.br (decide (((b1.els.getD (Int.toNat i5) D.nil).toInt) < ((a0.els.getD (Int.toNat i5) D.nil).toInt))) (.ret [D.int 1])
 (nat_Cmp_l7 n m7 a0 b1 (IntKind.wrap .i64 (i5 - 1)))) .fail) .fail) .fail) .fail)) .fail) .fail) .fail) .fail)
 (.ret [D.int 0]) := by kernel_rfl
theorem nat_Cmp_tree (n : Nat) (a0 : D) (b1 : D) : evFun Tryz.prog md nat_Cmp_orc n 89 [] [a0, b1] =
 .call 74 [] [a0] fun yy1 =>
 .call 74 [] [b1] fun yy2 =>
 .br (decide ((((yy1.getD 0 D.nil).els).length : Int) < (((yy2.getD 0 D.nil).els).length : Int))) (.ret [D.int (-1)])
 (.br (decide ((((yy2.getD 0 D.nil).els).length : Int) < (((yy1.getD 0 D.nil).els).length : Int))) (.ret [D.int 1])
 (nat_Cmp_l7 n n (yy1.getD 0 D.nil) (yy2.getD 0 D.nil) (IntKind.wrap .i64 ((((yy1.getD 0 D.nil).els).length : Int) - 1)))) := by kernel_rfl

/-! scrim/nat.shorten -/
def nat_shorten_orc : List (Nat × Orc) := [(3, ⟨[(0, none), (1, none), (5, none), (6, none)], [], [(.slot 0, 0, 41)]⟩)]
def nat_shorten_ps : List Nat := [22, 41]
def nat_shorten_rs : List ResultVar := [.tmp 4]
def nat_shorten_ts : List Nat := [41]
noncomputable def nat_shorten_l3 (n m3 : Nat) (a0 : List D) (by1 : Int) (rest5 : Int) (i6 : Int) : Tree :=
  evLoop Tryz.prog md (ev Tryz.prog md n nat_shorten_orc (cAt (bodyOf Tryz.prog 90) [1, 1, 0, 1, 0, 0])) (orcAt nat_shorten_orc 3) m3 ⟨[.row 0, .i .u32 by1, .undef, .undef, .undef, .i .u64 rest5, .i .i64 i6, .undef, .undef, .undef, .undef, .undef, .undef, .undef, .undef, .undef, .undef, .undef, .undef, .undef, .undef, .undef, .undef, .undef, .undef, .undef, .undef, .undef, .undef, .undef, .undef, .undef, .undef, .undef, .undef, .undef], [(0, .row 41 a0 true)], [0], [], [0]⟩
   (blockK 0 (seqK (joinE Tryz.prog md (joinAt nat_shorten_orc (cAt (bodyOf Tryz.prog 90) [1, 1, 1])) (ev Tryz.prog md n nat_shorten_orc (cAt (bodyOf Tryz.prog 90) [1, 1, 1]))) (retK Tryz.prog md (md 90) nat_shorten_ps nat_shorten_rs nat_shorten_ts)))
theorem nat_shorten_l3_succ (n m3 : Nat) (a0 : List D) (by1 : Int) (rest5 : Int) (i6 : Int) : nat_shorten_l3 n (m3 + 1) a0 by1 rest5 i6 =
 .br (decide (0 ≤ i6)) (.br (decide (0 ≤ 32)) (.br (decide (0 ≤ i6)) (.br (decide (i6 < (a0.length : Int))) (.br (!((IntKind.wrap .u64 by1) == (0 : Int))) (.br (decide (0 ≤ i6)) (.br (decide (i6 < (a0.length : Int))) (.br (!((IntKind.wrap .u64 by1) == (0 : Int))) (nat_shorten_l3 n m3 (a0.set (Int.toNat i6) (D.int (IntKind.wrap .u32 (IntKind.wrap .u64 (Int.tdiv (bits_ .or .u64 (IntKind.wrap .u64 (rest5 * 2 ^ (min (Int.toNat 32) (IntKind.bits .u64)))) (IntKind.wrap .u64 ((a0.getD (Int.toNat i6) D.nil).toInt))) (IntKind.wrap .u64 by1)))))) by1 (Int.tmod (bits_ .or .u64 (IntKind.wrap .u64 (rest5 * 2 ^ (min (Int.toNat 32) (IntKind.bits .u64)))) (IntKind.wrap .u64 ((a0.getD (Int.toNat i6) D.nil).toInt))) (IntKind.wrap .u64 by1)) (IntKind.wrap .i64 (i6 - 1))) .fail) .fail) .fail) .fail) .fail) .fail) .fail)
 (.ret [D.int (IntKind.wrap .u32 rest5), D.sl a0]) := by kernel_rfl
theorem nat_shorten_tree (n : Nat) (a0 : D) (by1 : D) : evFun Tryz.prog md nat_shorten_orc n 90 [] [a0, by1] =
 nat_shorten_l3 n n a0.els by1.toInt 0 (IntKind.wrap .i64 ((a0.els.length : Int) - 1)) := by kernel_rfl

/-! scrim/scrimref02.Gcd -/
def ref02_Gcd_orc : List (Nat × Orc) := [(3, ⟨[(5, some 22), (6, some 22), (7, none)], [], []⟩)]
def ref02_Gcd_ps : List Nat := [22, 22]
def ref02_Gcd_rs : List ResultVar := [.tmp 4]
def ref02_Gcd_ts : List Nat := [22]
noncomputable def ref02_Gcd_l3 (n m3 : Nat) (x5 : D) (y6 : D) (k7 : Int) : Tree :=
  evLoop Tryz.prog md (ev Tryz.prog md n ref02_Gcd_orc (cAt (bodyOf Tryz.prog 92) [1, 1, 0, 1, 0, 0])) (orcAt ref02_Gcd_orc 3) m3 ⟨[.undef, .undef, .undef, .undef, .undef, .d 22 x5, .d 22 y6, .i .i64 k7, .undef, .undef, .undef, .undef, .undef, .undef, .undef, .undef, .undef, .undef, .undef, .undef, .undef, .undef, .undef, .undef, .undef, .undef, .undef, .undef, .undef, .undef, .undef, .undef, .undef, .undef], [], [], [], []⟩
   (blockK 0 (seqK (joinE Tryz.prog md (joinAt ref02_Gcd_orc (cAt (bodyOf Tryz.prog 92) [1, 1, 1])) (ev Tryz.prog md n ref02_Gcd_orc (cAt (bodyOf Tryz.prog 92) [1, 1, 1]))) (retK Tryz.prog md (md 92) ref02_Gcd_ps ref02_Gcd_rs ref02_Gcd_ts)))
theorem ref02_Gcd_l3_succ (n m3 : Nat) (x5 : D) (y6 : D) (k7 : Int) : ref02_Gcd_l3 n (m3 + 1) x5 y6 k7 =
 .br (decide (k7 < 100000)) (.br (decide (0 < (y6.els.length : Int))) (.call 93 [] [x5, y6] fun yy3 =>
 ref02_Gcd_l3 n m3 y6 (yy3.getD 1 D.nil) (IntKind.wrap .i64 (k7 + 1)))
 (.ret [x5]))
 (.ret [x5]) := by kernel_rfl
theorem ref02_Gcd_tree (n : Nat) (a0 : D) (b1 : D) : evFun Tryz.prog md ref02_Gcd_orc n 92 [] [a0, b1] =
 .call 50 [] [a0] fun yy1 =>
 .call 50 [] [b1] fun yy2 =>
 ref02_Gcd_l3 n n (yy1.getD 0 D.nil) (yy2.getD 0 D.nil) 0 := by kernel_rfl

/-! scrim/scrimref02.DivMod -/
def ref02_DivMod_orc : List (Nat × Orc) := [(5, ⟨[(0, some 22), (1, some 22), (7, some 22), (8, some 22), (9, none)], [], []⟩)]
def ref02_DivMod_ps : List Nat := [22, 22]
def ref02_DivMod_rs : List ResultVar := [.tmp 4, .tmp 5, .tmp 6]
def ref02_DivMod_ts : List Nat := [22, 22, 4]
noncomputable def ref02_DivMod_l5 (n m5 : Nat) (a0 : D) (b1 : D) (q7 : D) (r8 : D) (i9 : Int) : Tree :=
  evLoop Tryz.prog md (ev Tryz.prog md n ref02_DivMod_orc (cAt (bodyOf Tryz.prog 93) [1, 1, 1, 0, 1, 0, 0])) (orcAt ref02_DivMod_orc 5) m5 ⟨[.d 22 a0, .d 22 b1, .undef, .undef, .undef, .undef, .undef, .d 22 q7, .d 22 r8, .i .i64 i9, .undef, .undef, .undef, .undef, .undef, .undef, .undef, .undef, .undef, .undef, .undef, .undef, .undef, .undef, .undef, .undef, .undef, .undef, .undef, .undef, .undef, .undef, .undef, .undef, .undef, .undef, .undef, .undef, .undef, .undef, .undef, .undef, .undef], [], [], [], []⟩
   (blockK 0 (seqK (joinE Tryz.prog md (joinAt ref02_DivMod_orc (cAt (bodyOf Tryz.prog 93) [1, 1, 1, 1])) (ev Tryz.prog md n ref02_DivMod_orc (cAt (bodyOf Tryz.prog 93) [1, 1, 1, 1]))) (retK Tryz.prog md (md 93) ref02_DivMod_ps ref02_DivMod_rs ref02_DivMod_ts)))
theorem ref02_DivMod_l5_succ (n m5 : Nat) (a0 : D) (b1 : D) (q7 : D) (r8 : D) (i9 : Int) : ref02_DivMod_l5 n (m5 + 1) a0 b1 q7 r8 i9 =
 .br (decide (0 ≤ i9)) (.call 102 [] [a0, D.int i9] fun yy2 =>
 .call 101 [] [r8, D.int ((yy2.getD 0 D.nil).toInt)] fun yy3 =>
 .call 103 [] [yy3.getD 0 D.nil, b1] fun yy4 =>
 .br ((yy4.getD 1 D.nil).toBool) (.call 101 [] [q7, D.int 1] fun yy5 =>
 ref02_DivMod_l5 n m5 a0 b1 (yy5.getD 0 D.nil) (yy4.getD 0 D.nil) (IntKind.wrap .i64 (i9 - 1)))
 (.call 101 [] [q7, D.int 0] fun yy6 =>
 ref02_DivMod_l5 n m5 a0 b1 (yy6.getD 0 D.nil) (yy3.getD 0 D.nil) (IntKind.wrap .i64 (i9 - 1))))
 (.ret [q7, r8, D.bool true]) := by kernel_rfl
theorem ref02_DivMod_tree (n : Nat) (a0 : D) (b1 : D) : evFun Tryz.prog md ref02_DivMod_orc n 93 [] [a0, b1] =
 .call 50 [] [b1] fun yy1 =>
 .br ((((yy1.getD 0 D.nil).els).length : Int) == 0) (.ret [D.sl [], D.sl [], D.bool false])
 (ref02_DivMod_l5 n n a0 b1 (D.sl []) (D.sl []) (IntKind.wrap .i64 ((IntKind.wrap .i64 (32 * (a0.els.length : Int))) - 1))) := by kernel_rfl

/-! scrim/scrimref02.Same -/
def ref02_Same_orc : List (Nat × Orc) := [(4, ⟨[(0, some 22), (1, some 22), (5, none)], [], []⟩)]
def ref02_Same_ps : List Nat := [22, 22]
def ref02_Same_rs : List ResultVar := [.tmp 4]
def ref02_Same_ts : List Nat := [4]
noncomputable def ref02_Same_l4 (n m4 : Nat) (a0 : D) (b1 : D) (i5 : Int) : Tree :=
  evLoop Tryz.prog md (ev Tryz.prog md n ref02_Same_orc (cAt (bodyOf Tryz.prog 94) [1, 1, 0, 1, 0, 0])) (orcAt ref02_Same_orc 4) m4 ⟨[.d 22 a0, .d 22 b1, .undef, .undef, .undef, .i .i64 i5, .undef, .undef, .undef, .undef, .undef, .undef, .undef, .undef, .undef, .undef, .undef, .undef, .undef, .undef, .undef, .undef, .undef, .undef, .undef, .undef], [], [], [], []⟩
   (blockK 0 (seqK (joinE Tryz.prog md (joinAt ref02_Same_orc (cAt (bodyOf Tryz.prog 94) [1, 1, 1])) (ev Tryz.prog md n ref02_Same_orc (cAt (bodyOf Tryz.prog 94) [1, 1, 1]))) (retK Tryz.prog md (md 94) ref02_Same_ps ref02_Same_rs ref02_Same_ts)))
theorem ref02_Same_l4_succ (n m4 : Nat) (a0 : D) (b1 : D) (i5 : Int) : ref02_Same_l4 n (m4 + 1) a0 b1 i5 =
 .br (decide (i5 < (a0.els.length : Int))) (.br (decide (0 ≤ i5)) (.br (decide (i5 < (a0.els.length : Int))) (.br (decide (0 ≤ i5)) (.br (decide (i5 < (b1.els.length : Int))) (.br (((a0.els.getD (Int.toNat i5) D.nil).toInt) != ((b1.els.getD (Int.toNat i5) D.nil).toInt)) (.ret [D.bool false])
 (ref02_Same_l4 n m4 a0 b1 (IntKind.wrap .i64 (i5 + 1)))) .fail) .fail) .fail) .fail)
 (.ret [D.bool true]) := by kernel_rfl
theorem ref02_Same_tree (n : Nat) (a0 : D) (b1 : D) : evFun Tryz.prog md ref02_Same_orc n 94 [] [a0, b1] =
 .br ((a0.els.length : Int) != (b1.els.length : Int)) (.ret [D.bool false])
 (ref02_Same_l4 n n a0 b1 0) := by kernel_rfl

/-! math/bits.LeadingZeros32 -/
def bits_LeadingZeros32_orc : List (Nat × Orc) := []
theorem bits_LeadingZeros32_tree (n : Nat) (x0 : D) : evFun Tryz.prog md bits_LeadingZeros32_orc n 95 [] [x0] =
 .call 104 [] [D.int x0.toInt] fun yy1 =>
 .ret [D.int (IntKind.wrap .i64 (32 - ((yy1.getD 0 D.nil).toInt)))] := by kernel_rfl

/-! scrim/nat.up -/
def nat_up_orc : List (Nat × Orc) := [(4, ⟨[(0, some 22), (1, none), (5, none), (6, none), (14, some 22), (15, none), (16, none)], [], [(.slot 5, 1040, 41)]⟩)]
def nat_up_ps : List Nat := [22, 3]
def nat_up_rs : List ResultVar := [.tmp 4]
def nat_up_ts : List Nat := [22]
noncomputable def nat_up_l4 (n m4 : Nat) (a0 : D) (shift1 : Int) (out5 : List D) (carry6 : Int) (t14 : D) (t15 : Int) (t16 : Int) : Tree :=
  evLoop Tryz.prog md (ev Tryz.prog md n nat_up_orc (cAt (bodyOf Tryz.prog 96) [1, 1, 1, 0, 1, 0, 0])) (orcAt nat_up_orc 4) m4 ⟨[.d 22 a0, .i .i64 shift1, .undef, .undef, .undef, .row 1040, .i .u64 carry6, .undef, .undef, .undef, .undef, .undef, .undef, .undef, .d 22 t14, .i .i64 t15, .i .i64 t16, .undef, .undef, .undef, .undef, .undef, .undef, .undef, .undef, .undef, .undef, .undef, .undef, .undef, .undef, .undef, .undef, .undef, .undef, .undef, .undef, .undef, .undef, .undef, .undef, .undef, .undef], [(1040, .row 41 out5 true)], [1040], [], []⟩
   (blockK 0 (seqK (joinE Tryz.prog md (joinAt nat_up_orc (cAt (bodyOf Tryz.prog 96) [1, 1, 1, 1])) (ev Tryz.prog md n nat_up_orc (cAt (bodyOf Tryz.prog 96) [1, 1, 1, 1]))) (retK Tryz.prog md (md 96) nat_up_ps nat_up_rs nat_up_ts)))
theorem nat_up_l4_succ (n m4 : Nat) (a0 : D) (shift1 : Int) (out5 : List D) (carry6 : Int) (t14 : D) (t15 : Int) (t16 : Int) : nat_up_l4 n (m4 + 1) a0 shift1 out5 carry6 t14 t15 t16 =
 .br (decide (t16 < t15)) (.br (decide (0 ≤ t16)) (.br (decide (t16 < (t14.els.length : Int))) (.br (decide (0 ≤ IntKind.wrap .u64 shift1)) (.br (decide (0 ≤ t16)) (.br (decide (t16 < (out5.length : Int))) (.br (decide (0 ≤ 32)) (nat_up_l4 n m4 a0 shift1 (out5.set (Int.toNat t16) (D.int (IntKind.wrap .u32 (bits_ .or .u64 (IntKind.wrap .u64 ((IntKind.wrap .u64 ((t14.els.getD (Int.toNat t16) D.nil).toInt)) * 2 ^ (min (Int.toNat (IntKind.wrap .u64 shift1)) (IntKind.bits .u64)))) carry6)))) (Int.fdiv (bits_ .or .u64 (IntKind.wrap .u64 ((IntKind.wrap .u64 ((t14.els.getD (Int.toNat t16) D.nil).toInt)) * 2 ^ (min (Int.toNat (IntKind.wrap .u64 shift1)) (IntKind.bits .u64)))) carry6) (2 ^ (min (Int.toNat 32) (IntKind.bits .u64)))) t14 t15 (IntKind.wrap .i64 (t16 + 1))) .fail) .fail) .fail) .fail) .fail) .fail)
 (.br (decide (0 ≤ (a0.els.length : Int))) (.br (decide ((a0.els.length : Int) < (out5.length : Int))) (.ret [D.sl (out5.set (Int.toNat (a0.els.length : Int)) (D.int (IntKind.wrap .u32 carry6)))]) .fail) .fail) := by kernel_rfl
theorem nat_up_tree (n : Nat) (a0 : D) (shift1 : D) : evFun Tryz.prog md nat_up_orc n 96 [] [a0, shift1] =
 .br (decide (0 ≤ IntKind.wrap .i64 ((a0.els.length : Int) + 1))) (.br (decide (IntKind.wrap .i64 ((a0.els.length : Int) + 1) ≤ IntKind.wrap .i64 ((a0.els.length : Int) + 1))) (.br (decide (IntKind.wrap .i64 ((a0.els.length : Int) + 1) ≤ bigN)) (nat_up_l4 n n a0 shift1.toInt (List.replicate (Int.toNat (IntKind.wrap .i64 ((a0.els.length : Int) + 1))) (D.int 0)) 0 a0 (a0.els.length : Int) 0) .fail) .fail) .fail := by kernel_rfl

/-! scrim/nat.estimate -/
def nat_estimate_orc : List (Nat × Orc) := [(4, ⟨[(0, some 22), (1, some 22), (5, none), (7, none), (8, none)], [], []⟩)]
def nat_estimate_ps : List Nat := [22, 22]
def nat_estimate_rs : List ResultVar := [.tmp 4]
def nat_estimate_ts : List Nat := [55]
noncomputable def nat_estimate_l4 (n m4 : Nat) (a0 : D) (divisor1 : D) (nn5 : Int) (guess7 : Int) (rest8 : Int) : Tree :=
  evLoop Tryz.prog md (ev Tryz.prog md n nat_estimate_orc (cAt (bodyOf Tryz.prog 97) [1, 1, 1, 1, 0, 0, 0])) (orcAt nat_estimate_orc 4) m4 ⟨[.d 22 a0, .d 22 divisor1, .undef, .undef, .undef, .i .i64 nn5, .undef, .i .u64 guess7, .i .u64 rest8, .undef, .undef, .undef, .undef, .undef, .undef, .undef, .undef, .undef, .undef, .undef, .undef, .undef, .undef, .undef, .undef, .undef, .undef, .undef, .undef, .undef, .undef, .undef, .undef, .undef, .undef, .undef, .undef, .undef, .undef, .undef, .undef, .undef, .undef, .undef, .undef, .undef, .undef, .undef, .undef, .undef, .undef, .undef, .undef, .undef, .undef, .undef, .undef, .undef, .undef, .undef, .undef, .undef, .undef, .undef, .undef, .undef, .undef, .undef, .undef, .undef, .undef, .undef, .undef, .undef, .undef, .undef, .undef], [], [], [], []⟩
   (blockK 0 (seqK (joinE Tryz.prog md (joinAt nat_estimate_orc (cAt (bodyOf Tryz.prog 97) [1, 1, 1, 1, 1])) (ev Tryz.prog md n nat_estimate_orc (cAt (bodyOf Tryz.prog 97) [1, 1, 1, 1, 1]))) (retK Tryz.prog md (md 97) nat_estimate_ps nat_estimate_rs nat_estimate_ts)))
theorem nat_estimate_l4_succ (n m4 : Nat) (a0 : D) (divisor1 : D) (nn5 : Int) (guess7 : Int) (rest8 : Int) : nat_estimate_l4 n (m4 + 1) a0 divisor1 nn5 guess7 rest8 =
 .br (decide (0 ≤ 32)) (.br ((Int.fdiv guess7 (2 ^ (min (Int.toNat 32) (IntKind.bits .u64)))) != 0) (.br (decide (0 ≤ IntKind.wrap .i64 (nn5 - 1))) (.br (decide (IntKind.wrap .i64 (nn5 - 1) < (divisor1.els.length : Int))) (.br (decide (0 ≤ 32)) (.br ((Int.fdiv (IntKind.wrap .u64 (rest8 + (IntKind.wrap .u64 ((divisor1.els.getD (Int.toNat (IntKind.wrap .i64 (nn5 - 1))) D.nil).toInt)))) (2 ^ (min (Int.toNat 32) (IntKind.bits .u64)))) != 0) (.ret [D.int (IntKind.wrap .u64 (guess7 - 1))])
 (nat_estimate_l4 n m4 a0 divisor1 nn5 (IntKind.wrap .u64 (guess7 - 1)) (IntKind.wrap .u64 (rest8 + (IntKind.wrap .u64 ((divisor1.els.getD (Int.toNat (IntKind.wrap .i64 (nn5 - 1))) D.nil).toInt)))))) .fail) .fail) .fail)
 (.br (decide (0 ≤ IntKind.wrap .i64 (nn5 - 2))) (.br (decide (IntKind.wrap .i64 (nn5 - 2) < (divisor1.els.length : Int))) (.br (decide (0 ≤ 32)) (.br (decide (0 ≤ IntKind.wrap .i64 (nn5 - 2))) (.br (decide (IntKind.wrap .i64 (nn5 - 2) < (a0.els.length : Int))) (.br (decide ((bits_ .or .u64 (IntKind.wrap .u64 (rest8 * 2 ^ (min (Int.toNat 32) (IntKind.bits .u64)))) (IntKind.wrap .u64 ((a0.els.getD (Int.toNat (IntKind.wrap .i64 (nn5 - 2))) D.nil).toInt))) < (IntKind.wrap .u64 (guess7 * (IntKind.wrap .u64 ((divisor1.els.getD (Int.toNat (IntKind.wrap .i64 (nn5 - 2))) D.nil).toInt)))))) (.br (decide (0 ≤ IntKind.wrap .i64 (nn5 - 1))) (.br (decide (IntKind.wrap .i64 (nn5 - 1) < (divisor1.els.length : Int))) (.br (decide (0 ≤ 32)) (.br ((Int.fdiv (IntKind.wrap .u64 (rest8 + (IntKind.wrap .u64 ((divisor1.els.getD (Int.toNat (IntKind.wrap .i64 (nn5 - 1))) D.nil).toInt)))) (2 ^ (min (Int.toNat 32) (IntKind.bits .u64)))) != 0) (.ret [D.int (IntKind.wrap .u64 (guess7 - 1))])
 (nat_estimate_l4 n m4 a0 divisor1 nn5 (IntKind.wrap .u64 (guess7 - 1)) (IntKind.wrap .u64 (rest8 + (IntKind.wrap .u64 ((divisor1.els.getD (Int.toNat (IntKind.wrap .i64 (nn5 - 1))) D.nil).toInt)))))) .fail) .fail) .fail)
 (.ret [D.int guess7])) .fail) .fail) .fail) .fail) .fail)) .fail := by kernel_rfl
theorem nat_estimate_tree (n : Nat) (a0 : D) (divisor1 : D) : evFun Tryz.prog md nat_estimate_orc n 97 [] [a0, divisor1] =
 .br (decide (0 ≤ (divisor1.els.length : Int))) (.br (decide ((divisor1.els.length : Int) < (a0.els.length : Int))) (.br (decide (0 ≤ 32)) (.br (decide (0 ≤ IntKind.wrap .i64 ((divisor1.els.length : Int) - 1))) (.br (decide (IntKind.wrap .i64 ((divisor1.els.length : Int) - 1) < (a0.els.length : Int))) (.br (decide (0 ≤ IntKind.wrap .i64 ((divisor1.els.length : Int) - 1))) (.br (decide (IntKind.wrap .i64 ((divisor1.els.length : Int) - 1) < (divisor1.els.length : Int))) (.br (!((IntKind.wrap .u64 ((divisor1.els.getD (Int.toNat (IntKind.wrap .i64 ((divisor1.els.length : Int) - 1))) D.nil).toInt)) == (0 : Int))) (.br (decide (0 ≤ IntKind.wrap .i64 ((divisor1.els.length : Int) - 1))) (.br (decide (IntKind.wrap .i64 ((divisor1.els.length : Int) - 1) < (divisor1.els.length : Int))) (.br (!((IntKind.wrap .u64 ((divisor1.els.getD (Int.toNat (IntKind.wrap .i64 ((divisor1.els.length : Int) - 1))) D.nil).toInt)) == (0 : Int))) (nat_estimate_l4 n n a0 divisor1 (divisor1.els.length : Int) (IntKind.wrap .u64 (Int.tdiv (bits_ .or .u64 (IntKind.wrap .u64 ((IntKind.wrap .u64 ((a0.els.getD (Int.toNat (divisor1.els.length : Int)) D.nil).toInt)) * 2 ^ (min (Int.toNat 32) (IntKind.bits .u64)))) (IntKind.wrap .u64 ((a0.els.getD (Int.toNat (IntKind.wrap .i64 ((divisor1.els.length : Int) - 1))) D.nil).toInt))) (IntKind.wrap .u64 ((divisor1.els.getD (Int.toNat (IntKind.wrap .i64 ((divisor1.els.length : Int) - 1))) D.nil).toInt)))) (Int.tmod (bits_ .or .u64 (IntKind.wrap .u64 ((IntKind.wrap .u64 ((a0.els.getD (Int.toNat (divisor1.els.length : Int)) D.nil).toInt)) * 2 ^ (min (Int.toNat 32) (IntKind.bits .u64)))) (IntKind.wrap .u64 ((a0.els.getD (Int.toNat (IntKind.wrap .i64 ((divisor1.els.length : Int) - 1))) D.nil).toInt))) (IntKind.wrap .u64 ((divisor1.els.getD (Int.toNat (IntKind.wrap .i64 ((divisor1.els.length : Int) - 1))) D.nil).toInt)))) .fail) .fail) .fail) .fail) .fail) .fail) .fail) .fail) .fail) .fail) .fail := by kernel_rfl

/-! scrim/nat.down -/
def nat_down_orc : List (Nat × Orc) := [(4, ⟨[(0, some 22), (1, none), (5, none), (6, none), (7, none)], [], [(.slot 5, 1040, 41)]⟩)]
def nat_down_ps : List Nat := [22, 3]
def nat_down_rs : List ResultVar := [.tmp 4]
def nat_down_ts : List Nat := [22]
noncomputable def nat_down_l4 (n m4 : Nat) (a0 : D) (shift1 : Int) (out5 : List D) (above6 : Int) (i7 : Int) : Tree :=
  evLoop Tryz.prog md (ev Tryz.prog md n nat_down_orc (cAt (bodyOf Tryz.prog 100) [1, 1, 1, 0, 1, 0, 0])) (orcAt nat_down_orc 4) m4 ⟨[.d 22 a0, .i .i64 shift1, .undef, .undef, .undef, .row 1040, .i .u64 above6, .i .i64 i7, .undef, .undef, .undef, .undef, .undef, .undef, .undef, .undef, .undef, .undef, .undef, .undef, .undef, .undef, .undef, .undef, .undef, .undef, .undef, .undef, .undef, .undef, .undef, .undef, .undef, .undef, .undef, .undef, .undef, .undef, .undef, .undef, .undef, .undef], [(1040, .row 41 out5 true)], [1040], [], []⟩
   (blockK 0 (seqK (joinE Tryz.prog md (joinAt nat_down_orc (cAt (bodyOf Tryz.prog 100) [1, 1, 1, 1])) (ev Tryz.prog md n nat_down_orc (cAt (bodyOf Tryz.prog 100) [1, 1, 1, 1]))) (retK Tryz.prog md (md 100) nat_down_ps nat_down_rs nat_down_ts)))
theorem nat_down_l4_succ (n m4 : Nat) (a0 : D) (shift1 : Int) (out5 : List D) (above6 : Int) (i7 : Int) : nat_down_l4 n (m4 + 1) a0 shift1 out5 above6 i7 =
 .br (decide (0 ≤ i7)) (.br (decide (0 ≤ 32)) (.br (decide (0 ≤ i7)) (.br (decide (i7 < (a0.els.length : Int))) (.br (decide (0 ≤ IntKind.wrap .u64 shift1)) (.br (decide (0 ≤ i7)) (.br (decide (i7 < (out5.length : Int))) (.br (decide (0 ≤ i7)) (.br (decide (i7 < (a0.els.length : Int))) (nat_down_l4 n m4 a0 shift1 (out5.set (Int.toNat i7) (D.int (IntKind.wrap .u32 (Int.fdiv (bits_ .or .u64 (IntKind.wrap .u64 (above6 * 2 ^ (min (Int.toNat 32) (IntKind.bits .u64)))) (IntKind.wrap .u64 ((a0.els.getD (Int.toNat i7) D.nil).toInt))) (2 ^ (min (Int.toNat (IntKind.wrap .u64 shift1)) (IntKind.bits .u64))))))) (IntKind.wrap .u64 ((a0.els.getD (Int.toNat i7) D.nil).toInt)) (IntKind.wrap .i64 (i7 - 1))) .fail) .fail) .fail) .fail) .fail) .fail) .fail) .fail)
 (.call 74 [] [D.sl out5] fun yy1 =>
 .ret [yy1.getD 0 D.nil]) := by kernel_rfl
theorem nat_down_tree (n : Nat) (a0 : D) (shift1 : D) : evFun Tryz.prog md nat_down_orc n 100 [] [a0, shift1] =
 .br (decide (0 ≤ (a0.els.length : Int))) (.br (decide ((a0.els.length : Int) ≤ (a0.els.length : Int))) (.br (decide ((a0.els.length : Int) ≤ bigN)) (nat_down_l4 n n a0 shift1.toInt (List.replicate (Int.toNat (a0.els.length : Int)) (D.int 0)) 0 (IntKind.wrap .i64 ((a0.els.length : Int) - 1))) .fail) .fail) .fail := by kernel_rfl

/-! scrim/scrimref02.twice -/
def ref02_twice_orc : List (Nat × Orc) := [(4, ⟨[(0, some 22), (5, none), (6, none), (7, none)], [], [(.slot 5, 1040, 41)]⟩)]
def ref02_twice_ps : List Nat := [22, 41]
def ref02_twice_rs : List ResultVar := [.tmp 4]
def ref02_twice_ts : List Nat := [22]
noncomputable def ref02_twice_l4 (n m4 : Nat) (a0 : D) (out5 : List D) (carry6 : Int) (i7 : Int) : Tree :=
  evLoop Tryz.prog md (ev Tryz.prog md n ref02_twice_orc (cAt (bodyOf Tryz.prog 101) [1, 1, 1, 0, 1, 0, 0])) (orcAt ref02_twice_orc 4) m4 ⟨[.d 22 a0, .undef, .undef, .undef, .undef, .row 1040, .i .u64 carry6, .i .i64 i7, .undef, .undef, .undef, .undef, .undef, .undef, .undef, .undef, .undef, .undef, .undef, .undef, .undef, .undef, .undef, .undef, .undef, .undef, .undef, .undef, .undef, .undef, .undef, .undef, .undef], [(1040, .row 41 out5 true)], [1040], [], []⟩
   (blockK 0 (seqK (joinE Tryz.prog md (joinAt ref02_twice_orc (cAt (bodyOf Tryz.prog 101) [1, 1, 1, 1])) (ev Tryz.prog md n ref02_twice_orc (cAt (bodyOf Tryz.prog 101) [1, 1, 1, 1]))) (retK Tryz.prog md (md 101) ref02_twice_ps ref02_twice_rs ref02_twice_ts)))
theorem ref02_twice_l4_succ (n m4 : Nat) (a0 : D) (out5 : List D) (carry6 : Int) (i7 : Int) : ref02_twice_l4 n (m4 + 1) a0 out5 carry6 i7 =
 .br (decide (i7 ≤ (a0.els.length : Int))) (.call 52 [] [a0, D.int i7] fun yy1 =>
 .br (!(4294967296 == (0 : Int))) (.br (decide (out5.length + [D.int (IntKind.wrap .u32 (Int.tmod (IntKind.wrap .u64 ((IntKind.wrap .u64 (2 * ((yy1.getD 0 D.nil).toInt))) + carry6)) 4294967296))].length ≤ bigN)) (.br (!(4294967296 == (0 : Int))) (ref02_twice_l4 n m4 a0 (out5 ++ [D.int (IntKind.wrap .u32 (Int.tmod (IntKind.wrap .u64 ((IntKind.wrap .u64 (2 * ((yy1.getD 0 D.nil).toInt))) + carry6)) 4294967296))]) (IntKind.wrap .u64 (Int.tdiv (IntKind.wrap .u64 ((IntKind.wrap .u64 (2 * ((yy1.getD 0 D.nil).toInt))) + carry6)) 4294967296)) (IntKind.wrap .i64 (i7 + 1))) .fail) .fail) .fail)
 (.call 50 [] [D.sl out5] fun yy2 =>
 .ret [yy2.getD 0 D.nil]) := by kernel_rfl
theorem ref02_twice_tree (n : Nat) (a0 : D) (bit1 : D) : evFun Tryz.prog md ref02_twice_orc n 101 [] [a0, bit1] =
 ref02_twice_l4 n n a0 [] (IntKind.wrap .u64 bit1.toInt) 0 := by kernel_rfl

/-! scrim/scrimref02.Bit -/
def ref02_Bit_orc : List (Nat × Orc) := [(3, ⟨[(1, none), (5, none), (6, none)], [], []⟩)]
def ref02_Bit_ps : List Nat := [22, 3]
def ref02_Bit_rs : List ResultVar := [.tmp 4]
def ref02_Bit_ts : List Nat := [41]
noncomputable def ref02_Bit_l3 (n m3 : Nat) (i1 : Int) (w5 : Int) (k6 : Int) : Tree :=
  evLoop Tryz.prog md (ev Tryz.prog md n ref02_Bit_orc (cAt (bodyOf Tryz.prog 102) [1, 1, 0, 1, 0, 0])) (orcAt ref02_Bit_orc 3) m3 ⟨[.undef, .i .i64 i1, .undef, .undef, .undef, .i .u64 w5, .i .i64 k6, .undef, .undef, .undef, .undef, .undef, .undef, .undef, .undef, .undef, .undef, .undef, .undef, .undef, .undef, .undef], [], [], [], []⟩
   (blockK 0 (seqK (joinE Tryz.prog md (joinAt ref02_Bit_orc (cAt (bodyOf Tryz.prog 102) [1, 1, 1])) (ev Tryz.prog md n ref02_Bit_orc (cAt (bodyOf Tryz.prog 102) [1, 1, 1]))) (retK Tryz.prog md (md 102) ref02_Bit_ps ref02_Bit_rs ref02_Bit_ts)))
theorem ref02_Bit_l3_succ (n m3 : Nat) (i1 : Int) (w5 : Int) (k6 : Int) : ref02_Bit_l3 n (m3 + 1) i1 w5 k6 =
 .br (!(32 == (0 : Int))) (.br (decide (k6 < (Int.tmod i1 32))) (.br (!(2 == (0 : Int))) (ref02_Bit_l3 n m3 i1 (IntKind.wrap .u64 (Int.tdiv w5 2)) (IntKind.wrap .i64 (k6 + 1))) .fail)
 (.br (!(2 == (0 : Int))) (.ret [D.int (IntKind.wrap .u32 (Int.tmod w5 2))]) .fail)) .fail := by kernel_rfl
theorem ref02_Bit_tree (n : Nat) (a0 : D) (i1 : D) : evFun Tryz.prog md ref02_Bit_orc n 102 [] [a0, i1] =
 .br (!(32 == (0 : Int))) (.call 52 [] [a0, D.int (IntKind.wrap .i64 (Int.tdiv i1.toInt 32))] fun yy1 =>
 ref02_Bit_l3 n n i1.toInt ((yy1.getD 0 D.nil).toInt) 0) .fail := by kernel_rfl

/-! scrim/scrimref02.Sub -/
def ref02_Sub_orc : List (Nat × Orc) := [(6, ⟨[(0, some 22), (1, some 22), (6, none), (7, none), (8, none)], [], [(.slot 6, 1060, 41)]⟩)]
def ref02_Sub_ps : List Nat := [22, 22]
def ref02_Sub_rs : List ResultVar := [.tmp 4, .tmp 5]
def ref02_Sub_ts : List Nat := [22, 4]
noncomputable def ref02_Sub_l6 (n m6 : Nat) (a0 : D) (b1 : D) (out6 : List D) (borrow7 : Int) (i8 : Int) : Tree :=
  evLoop Tryz.prog md (ev Tryz.prog md n ref02_Sub_orc (cAt (bodyOf Tryz.prog 103) [1, 1, 1, 1, 0, 1, 0, 0])) (orcAt ref02_Sub_orc 6) m6 ⟨[.d 22 a0, .d 22 b1, .undef, .undef, .undef, .undef, .row 1060, .i .u64 borrow7, .i .i64 i8, .undef, .undef, .undef, .undef, .undef, .undef, .undef, .undef, .undef, .undef, .undef, .undef, .undef, .undef, .undef, .undef, .undef, .undef, .undef, .undef, .undef, .undef, .undef, .undef, .undef, .undef, .undef, .undef, .undef, .undef, .undef, .undef, .undef], [(1060, .row 41 out6 true)], [1060], [], []⟩
   (blockK 0 (seqK (joinE Tryz.prog md (joinAt ref02_Sub_orc (cAt (bodyOf Tryz.prog 103) [1, 1, 1, 1, 1])) (ev Tryz.prog md n ref02_Sub_orc (cAt (bodyOf Tryz.prog 103) [1, 1, 1, 1, 1]))) (retK Tryz.prog md (md 103) ref02_Sub_ps ref02_Sub_rs ref02_Sub_ts)))
theorem ref02_Sub_l6_succ (n m6 : Nat) (a0 : D) (b1 : D) (out6 : List D) (borrow7 : Int) (i8 : Int) : ref02_Sub_l6 n (m6 + 1) a0 b1 out6 borrow7 i8 =
 .call 51 [] [a0, b1] fun yy2 =>
 .br (decide (i8 < ((yy2.getD 0 D.nil).toInt))) (.call 52 [] [a0, D.int i8] fun yy3 =>
 .call 52 [] [b1, D.int i8] fun yy4 =>
 .br (!(4294967296 == (0 : Int))) (.br (decide (out6.length + [D.int (IntKind.wrap .u32 (Int.tmod (IntKind.wrap .u64 ((IntKind.wrap .u64 ((IntKind.wrap .u64 (4294967296 + ((yy3.getD 0 D.nil).toInt))) - ((yy4.getD 0 D.nil).toInt))) - borrow7)) 4294967296))].length ≤ bigN)) (.br (!(4294967296 == (0 : Int))) (ref02_Sub_l6 n m6 a0 b1 (out6 ++ [D.int (IntKind.wrap .u32 (Int.tmod (IntKind.wrap .u64 ((IntKind.wrap .u64 ((IntKind.wrap .u64 (4294967296 + ((yy3.getD 0 D.nil).toInt))) - ((yy4.getD 0 D.nil).toInt))) - borrow7)) 4294967296))]) (IntKind.wrap .u64 (1 - (IntKind.wrap .u64 (Int.tdiv (IntKind.wrap .u64 ((IntKind.wrap .u64 ((IntKind.wrap .u64 (4294967296 + ((yy3.getD 0 D.nil).toInt))) - ((yy4.getD 0 D.nil).toInt))) - borrow7)) 4294967296)))) (IntKind.wrap .i64 (i8 + 1))) .fail) .fail) .fail)
 (.call 50 [] [D.sl out6] fun yy5 =>
 .ret [yy5.getD 0 D.nil, D.bool true]) := by kernel_rfl
theorem ref02_Sub_tree (n : Nat) (a0 : D) (b1 : D) : evFun Tryz.prog md ref02_Sub_orc n 103 [] [a0, b1] =
 .call 107 [] [a0, b1] fun yy1 =>
 .br (decide (((yy1.getD 0 D.nil).toInt) < 0)) (.ret [D.sl [], D.bool false])
 (ref02_Sub_l6 n n a0 b1 [] 0 0) := by kernel_rfl

/-! math/bits.Len32 -/
def bits_Len32_orc : List (Nat × Orc) := []
theorem bits_Len32_tree (n : Nat) (x0 : D) : evFun Tryz.prog md bits_Len32_orc n 104 [] [x0] =
 .br (decide (65536 ≤ x0.toInt)) (.br (decide (0 ≤ 16)) (.br (decide (256 ≤ (Int.fdiv x0.toInt (2 ^ (min (Int.toNat 16) (IntKind.bits .u32)))))) (.br (decide (0 ≤ 8)) (.br (decide (0 ≤ IntKind.wrap .u8 (Int.fdiv (Int.fdiv x0.toInt (2 ^ (min (Int.toNat 16) (IntKind.bits .u32)))) (2 ^ (min (Int.toNat 8) (IntKind.bits .u32)))))) (.br (decide (IntKind.wrap .u8 (Int.fdiv (Int.fdiv x0.toInt (2 ^ (min (Int.toNat 16) (IntKind.bits .u32)))) (2 ^ (min (Int.toNat 8) (IntKind.bits .u32)))) < ((⟨#[0, 1, 2, 2, 3, 3, 3, 3, 4, 4, 4, 4, 4, 4, 4, 4, 5, 5, 5, 5, 5, 5, 5, 5, 5, 5, 5, 5, 5, 5, 5, 5, 6, 6, 6, 6, 6, 6, 6, 6, 6, 6, 6, 6, 6, 6, 6, 6, 6, 6, 6, 6, 6, 6, 6, 6, 6, 6, 6, 6, 6, 6, 6, 6, 7, 7, 7, 7, 7, 7, 7, 7, 7, 7, 7, 7, 7, 7, 7, 7, 7, 7, 7, 7, 7, 7, 7, 7, 7, 7, 7, 7, 7, 7, 7, 7, 7, 7, 7, 7, 7, 7, 7, 7, 7, 7, 7, 7, 7, 7, 7, 7, 7, 7, 7, 7, 7, 7, 7, 7, 7, 7, 7, 7, 7, 7, 7, 7, 8, 8, 8, 8, 8, 8, 8, 8, 8, 8, 8, 8, 8, 8, 8, 8, 8, 8, 8, 8, 8, 8, 8, 8, 8, 8, 8, 8, 8, 8, 8, 8, 8, 8, 8, 8, 8, 8, 8, 8, 8, 8, 8, 8, 8, 8, 8, 8, 8, 8, 8, 8, 8, 8, 8, 8, 8, 8, 8, 8, 8, 8, 8, 8, 8, 8, 8, 8, 8, 8, 8, 8, 8, 8, 8, 8, 8, 8, 8, 8, 8, 8, 8, 8, 8, 8, 8, 8, 8, 8, 8, 8, 8, 8, 8, 8, 8, 8, 8, 8, 8, 8, 8, 8, 8, 8, 8, 8, 8, 8, 8, 8, 8, 8, 8, 8, 8, 8, 8, 8, 8, 8, 8, 8, 8, 8, 8, 8]⟩ : ByteArray).size : Int))) (.ret [D.int (IntKind.wrap .i64 ((IntKind.wrap .i64 (16 + 8)) + (IntKind.wrap .i64 ((((⟨#[0, 1, 2, 2, 3, 3, 3, 3, 4, 4, 4, 4, 4, 4, 4, 4, 5, 5, 5, 5, 5, 5, 5, 5, 5, 5, 5, 5, 5, 5, 5, 5, 6, 6, 6, 6, 6, 6, 6, 6, 6, 6, 6, 6, 6, 6, 6, 6, 6, 6, 6, 6, 6, 6, 6, 6, 6, 6, 6, 6, 6, 6, 6, 6, 7, 7, 7, 7, 7, 7, 7, 7, 7, 7, 7, 7, 7, 7, 7, 7, 7, 7, 7, 7, 7, 7, 7, 7, 7, 7, 7, 7, 7, 7, 7, 7, 7, 7, 7, 7, 7, 7, 7, 7, 7, 7, 7, 7, 7, 7, 7, 7, 7, 7, 7, 7, 7, 7, 7, 7, 7, 7, 7, 7, 7, 7, 7, 7, 8, 8, 8, 8, 8, 8, 8, 8, 8, 8, 8, 8, 8, 8, 8, 8, 8, 8, 8, 8, 8, 8, 8, 8, 8, 8, 8, 8, 8, 8, 8, 8, 8, 8, 8, 8, 8, 8, 8, 8, 8, 8, 8, 8, 8, 8, 8, 8, 8, 8, 8, 8, 8, 8, 8, 8, 8, 8, 8, 8, 8, 8, 8, 8, 8, 8, 8, 8, 8, 8, 8, 8, 8, 8, 8, 8, 8, 8, 8, 8, 8, 8, 8, 8, 8, 8, 8, 8, 8, 8, 8, 8, 8, 8, 8, 8, 8, 8, 8, 8, 8, 8, 8, 8, 8, 8, 8, 8, 8, 8, 8, 8, 8, 8, 8, 8, 8, 8, 8, 8, 8, 8, 8, 8, 8, 8, 8, 8]⟩ : ByteArray).data.toList.getD (Int.toNat (IntKind.wrap .u8 (Int.fdiv (Int.fdiv x0.toInt (2 ^ (min (Int.toNat 16) (IntKind.bits .u32)))) (2 ^ (min (Int.toNat 8) (IntKind.bits .u32)))))) 0).toNat : Nat) : Int))))]) .fail) .fail) .fail)
 (.br (decide (0 ≤ IntKind.wrap .u8 (Int.fdiv x0.toInt (2 ^ (min (Int.toNat 16) (IntKind.bits .u32)))))) (.br (decide (IntKind.wrap .u8 (Int.fdiv x0.toInt (2 ^ (min (Int.toNat 16) (IntKind.bits .u32)))) < ((⟨#[0, 1, 2, 2, 3, 3, 3, 3, 4, 4, 4, 4, 4, 4, 4, 4, 5, 5, 5, 5, 5, 5, 5, 5, 5, 5, 5, 5, 5, 5, 5, 5, 6, 6, 6, 6, 6, 6, 6, 6, 6, 6, 6, 6, 6, 6, 6, 6, 6, 6, 6, 6, 6, 6, 6, 6, 6, 6, 6, 6, 6, 6, 6, 6, 7, 7, 7, 7, 7, 7, 7, 7, 7, 7, 7, 7, 7, 7, 7, 7, 7, 7, 7, 7, 7, 7, 7, 7, 7, 7, 7, 7, 7, 7, 7, 7, 7, 7, 7, 7, 7, 7, 7, 7, 7, 7, 7, 7, 7, 7, 7, 7, 7, 7, 7, 7, 7, 7, 7, 7, 7, 7, 7, 7, 7, 7, 7, 7, 8, 8, 8, 8, 8, 8, 8, 8, 8, 8, 8, 8, 8, 8, 8, 8, 8, 8, 8, 8, 8, 8, 8, 8, 8, 8, 8, 8, 8, 8, 8, 8, 8, 8, 8, 8, 8, 8, 8, 8, 8, 8, 8, 8, 8, 8, 8, 8, 8, 8, 8, 8, 8, 8, 8, 8, 8, 8, 8, 8, 8, 8, 8, 8, 8, 8, 8, 8, 8, 8, 8, 8, 8, 8, 8, 8, 8, 8, 8, 8, 8, 8, 8, 8, 8, 8, 8, 8, 8, 8, 8, 8, 8, 8, 8, 8, 8, 8, 8, 8, 8, 8, 8, 8, 8, 8, 8, 8, 8, 8, 8, 8, 8, 8, 8, 8, 8, 8, 8, 8, 8, 8, 8, 8, 8, 8, 8, 8]⟩ : ByteArray).size : Int))) (.ret [D.int (IntKind.wrap .i64 (16 + (IntKind.wrap .i64 ((((⟨#[0, 1, 2, 2, 3, 3, 3, 3, 4, 4, 4, 4, 4, 4, 4, 4, 5, 5, 5, 5, 5, 5, 5, 5, 5, 5, 5, 5, 5, 5, 5, 5, 6, 6, 6, 6, 6, 6, 6, 6, 6, 6, 6, 6, 6, 6, 6, 6, 6, 6, 6, 6, 6, 6, 6, 6, 6, 6, 6, 6, 6, 6, 6, 6, 7, 7, 7, 7, 7, 7, 7, 7, 7, 7, 7, 7, 7, 7, 7, 7, 7, 7, 7, 7, 7, 7, 7, 7, 7, 7, 7, 7, 7, 7, 7, 7, 7, 7, 7, 7, 7, 7, 7, 7, 7, 7, 7, 7, 7, 7, 7, 7, 7, 7, 7, 7, 7, 7, 7, 7, 7, 7, 7, 7, 7, 7, 7, 7, 8, 8, 8, 8, 8, 8, 8, 8, 8, 8, 8, 8, 8, 8, 8, 8, 8, 8, 8, 8, 8, 8, 8, 8, 8, 8, 8, 8, 8, 8, 8, 8, 8, 8, 8, 8, 8, 8, 8, 8, 8, 8, 8, 8, 8, 8, 8, 8, 8, 8, 8, 8, 8, 8, 8, 8, 8, 8, 8, 8, 8, 8, 8, 8, 8, 8, 8, 8, 8, 8, 8, 8, 8, 8, 8, 8, 8, 8, 8, 8, 8, 8, 8, 8, 8, 8, 8, 8, 8, 8, 8, 8, 8, 8, 8, 8, 8, 8, 8, 8, 8, 8, 8, 8, 8, 8, 8, 8, 8, 8, 8, 8, 8, 8, 8, 8, 8, 8, 8, 8, 8, 8, 8, 8, 8, 8, 8, 8]⟩ : ByteArray).data.toList.getD (Int.toNat (IntKind.wrap .u8 (Int.fdiv x0.toInt (2 ^ (min (Int.toNat 16) (IntKind.bits .u32)))))) 0).toNat : Nat) : Int))))]) .fail) .fail)) .fail)
 (.br (decide (256 ≤ x0.toInt)) (.br (decide (0 ≤ 8)) (.br (decide (0 ≤ IntKind.wrap .u8 (Int.fdiv x0.toInt (2 ^ (min (Int.toNat 8) (IntKind.bits .u32)))))) (.br (decide (IntKind.wrap .u8 (Int.fdiv x0.toInt (2 ^ (min (Int.toNat 8) (IntKind.bits .u32)))) < ((⟨#[0, 1, 2, 2, 3, 3, 3, 3, 4, 4, 4, 4, 4, 4, 4, 4, 5, 5, 5, 5, 5, 5, 5, 5, 5, 5, 5, 5, 5, 5, 5, 5, 6, 6, 6, 6, 6, 6, 6, 6, 6, 6, 6, 6, 6, 6, 6, 6, 6, 6, 6, 6, 6, 6, 6, 6, 6, 6, 6, 6, 6, 6, 6, 6, 7, 7, 7, 7, 7, 7, 7, 7, 7, 7, 7, 7, 7, 7, 7, 7, 7, 7, 7, 7, 7, 7, 7, 7, 7, 7, 7, 7, 7, 7, 7, 7, 7, 7, 7, 7, 7, 7, 7, 7, 7, 7, 7, 7, 7, 7, 7, 7, 7, 7, 7, 7, 7, 7, 7, 7, 7, 7, 7, 7, 7, 7, 7, 7, 8, 8, 8, 8, 8, 8, 8, 8, 8, 8, 8, 8, 8, 8, 8, 8, 8, 8, 8, 8, 8, 8, 8, 8, 8, 8, 8, 8, 8, 8, 8, 8, 8, 8, 8, 8, 8, 8, 8, 8, 8, 8, 8, 8, 8, 8, 8, 8, 8, 8, 8, 8, 8, 8, 8, 8, 8, 8, 8, 8, 8, 8, 8, 8, 8, 8, 8, 8, 8, 8, 8, 8, 8, 8, 8, 8, 8, 8, 8, 8, 8, 8, 8, 8, 8, 8, 8, 8, 8, 8, 8, 8, 8, 8, 8, 8, 8, 8, 8, 8, 8, 8, 8, 8, 8, 8, 8, 8, 8, 8, 8, 8, 8, 8, 8, 8, 8, 8, 8, 8, 8, 8, 8, 8, 8, 8, 8, 8]⟩ : ByteArray).size : Int))) (.ret [D.int (IntKind.wrap .i64 ((IntKind.wrap .i64 (0 + 8)) + (IntKind.wrap .i64 ((((⟨#[0, 1, 2, 2, 3, 3, 3, 3, 4, 4, 4, 4, 4, 4, 4, 4, 5, 5, 5, 5, 5, 5, 5, 5, 5, 5, 5, 5, 5, 5, 5, 5, 6, 6, 6, 6, 6, 6, 6, 6, 6, 6, 6, 6, 6, 6, 6, 6, 6, 6, 6, 6, 6, 6, 6, 6, 6, 6, 6, 6, 6, 6, 6, 6, 7, 7, 7, 7, 7, 7, 7, 7, 7, 7, 7, 7, 7, 7, 7, 7, 7, 7, 7, 7, 7, 7, 7, 7, 7, 7, 7, 7, 7, 7, 7, 7, 7, 7, 7, 7, 7, 7, 7, 7, 7, 7, 7, 7, 7, 7, 7, 7, 7, 7, 7, 7, 7, 7, 7, 7, 7, 7, 7, 7, 7, 7, 7, 7, 8, 8, 8, 8, 8, 8, 8, 8, 8, 8, 8, 8, 8, 8, 8, 8, 8, 8, 8, 8, 8, 8, 8, 8, 8, 8, 8, 8, 8, 8, 8, 8, 8, 8, 8, 8, 8, 8, 8, 8, 8, 8, 8, 8, 8, 8, 8, 8, 8, 8, 8, 8, 8, 8, 8, 8, 8, 8, 8, 8, 8, 8, 8, 8, 8, 8, 8, 8, 8, 8, 8, 8, 8, 8, 8, 8, 8, 8, 8, 8, 8, 8, 8, 8, 8, 8, 8, 8, 8, 8, 8, 8, 8, 8, 8, 8, 8, 8, 8, 8, 8, 8, 8, 8, 8, 8, 8, 8, 8, 8, 8, 8, 8, 8, 8, 8, 8, 8, 8, 8, 8, 8, 8, 8, 8, 8, 8, 8]⟩ : ByteArray).data.toList.getD (Int.toNat (IntKind.wrap .u8 (Int.fdiv x0.toInt (2 ^ (min (Int.toNat 8) (IntKind.bits .u32)))))) 0).toNat : Nat) : Int))))]) .fail) .fail) .fail)
 (.br (decide (0 ≤ IntKind.wrap .u8 x0.toInt)) (.br (decide (IntKind.wrap .u8 x0.toInt < ((⟨#[0, 1, 2, 2, 3, 3, 3, 3, 4, 4, 4, 4, 4, 4, 4, 4, 5, 5, 5, 5, 5, 5, 5, 5, 5, 5, 5, 5, 5, 5, 5, 5, 6, 6, 6, 6, 6, 6, 6, 6, 6, 6, 6, 6, 6, 6, 6, 6, 6, 6, 6, 6, 6, 6, 6, 6, 6, 6, 6, 6, 6, 6, 6, 6, 7, 7, 7, 7, 7, 7, 7, 7, 7, 7, 7, 7, 7, 7, 7, 7, 7, 7, 7, 7, 7, 7, 7, 7, 7, 7, 7, 7, 7, 7, 7, 7, 7, 7, 7, 7, 7, 7, 7, 7, 7, 7, 7, 7, 7, 7, 7, 7, 7, 7, 7, 7, 7, 7, 7, 7, 7, 7, 7, 7, 7, 7, 7, 7, 8, 8, 8, 8, 8, 8, 8, 8, 8, 8, 8, 8, 8, 8, 8, 8, 8, 8, 8, 8, 8, 8, 8, 8, 8, 8, 8, 8, 8, 8, 8, 8, 8, 8, 8, 8, 8, 8, 8, 8, 8, 8, 8, 8, 8, 8, 8, 8, 8, 8, 8, 8, 8, 8, 8, 8, 8, 8, 8, 8, 8, 8, 8, 8, 8, 8, 8, 8, 8, 8, 8, 8, 8, 8, 8, 8, 8, 8, 8, 8, 8, 8, 8, 8, 8, 8, 8, 8, 8, 8, 8, 8, 8, 8, 8, 8, 8, 8, 8, 8, 8, 8, 8, 8, 8, 8, 8, 8, 8, 8, 8, 8, 8, 8, 8, 8, 8, 8, 8, 8, 8, 8, 8, 8, 8, 8, 8, 8]⟩ : ByteArray).size : Int))) (.ret [D.int (IntKind.wrap .i64 (0 + (IntKind.wrap .i64 ((((⟨#[0, 1, 2, 2, 3, 3, 3, 3, 4, 4, 4, 4, 4, 4, 4, 4, 5, 5, 5, 5, 5, 5, 5, 5, 5, 5, 5, 5, 5, 5, 5, 5, 6, 6, 6, 6, 6, 6, 6, 6, 6, 6, 6, 6, 6, 6, 6, 6, 6, 6, 6, 6, 6, 6, 6, 6, 6, 6, 6, 6, 6, 6, 6, 6, 7, 7, 7, 7, 7, 7, 7, 7, 7, 7, 7, 7, 7, 7, 7, 7, 7, 7, 7, 7, 7, 7, 7, 7, 7, 7, 7, 7, 7, 7, 7, 7, 7, 7, 7, 7, 7, 7, 7, 7, 7, 7, 7, 7, 7, 7, 7, 7, 7, 7, 7, 7, 7, 7, 7, 7, 7, 7, 7, 7, 7, 7, 7, 7, 8, 8, 8, 8, 8, 8, 8, 8, 8, 8, 8, 8, 8, 8, 8, 8, 8, 8, 8, 8, 8, 8, 8, 8, 8, 8, 8, 8, 8, 8, 8, 8, 8, 8, 8, 8, 8, 8, 8, 8, 8, 8, 8, 8, 8, 8, 8, 8, 8, 8, 8, 8, 8, 8, 8, 8, 8, 8, 8, 8, 8, 8, 8, 8, 8, 8, 8, 8, 8, 8, 8, 8, 8, 8, 8, 8, 8, 8, 8, 8, 8, 8, 8, 8, 8, 8, 8, 8, 8, 8, 8, 8, 8, 8, 8, 8, 8, 8, 8, 8, 8, 8, 8, 8, 8, 8, 8, 8, 8, 8, 8, 8, 8, 8, 8, 8, 8, 8, 8, 8, 8, 8, 8, 8, 8, 8, 8, 8]⟩ : ByteArray).data.toList.getD (Int.toNat (IntKind.wrap .u8 x0.toInt)) 0).toNat : Nat) : Int))))]) .fail) .fail)) := by kernel_rfl

/-! scrim/scrimref02.Cmp -/
def ref02_Cmp_orc : List (Nat × Orc) := [(2, ⟨[(0, some 22), (1, some 22), (5, none)], [], []⟩)]
def ref02_Cmp_ps : List Nat := [22, 22]
def ref02_Cmp_rs : List ResultVar := [.tmp 4]
def ref02_Cmp_ts : List Nat := [3]
noncomputable def ref02_Cmp_l2 (n m2 : Nat) (a0 : D) (b1 : D) (i5 : Int) : Tree :=
  evLoop Tryz.prog md (ev Tryz.prog md n ref02_Cmp_orc (cAt (bodyOf Tryz.prog 107) [1, 0, 1, 0, 0])) (orcAt ref02_Cmp_orc 2) m2 ⟨[.d 22 a0, .d 22 b1, .undef, .undef, .undef, .i .i64 i5, .undef, .undef, .undef, .undef, .undef, .undef, .undef, .undef, .undef, .undef, .undef, .undef, .undef, .undef, .undef, .undef, .undef, .undef, .undef, .undef, .undef, .undef], [], [], [], []⟩
   (blockK 0 (seqK (joinE Tryz.prog md (joinAt ref02_Cmp_orc (cAt (bodyOf Tryz.prog 107) [1, 1])) (ev Tryz.prog md n ref02_Cmp_orc (cAt (bodyOf Tryz.prog 107) [1, 1]))) (retK Tryz.prog md (md 107) ref02_Cmp_ps ref02_Cmp_rs ref02_Cmp_ts)))
theorem ref02_Cmp_l2_succ (n m2 : Nat) (a0 : D) (b1 : D) (i5 : Int) : ref02_Cmp_l2 n (m2 + 1) a0 b1 i5 =
 .br (decide (0 ≤ i5)) (.call 52 [] [a0, D.int i5] fun yy2 =>
 .call 52 [] [b1, D.int i5] fun yy3 =>
 .br (decide (((yy2.getD 0 D.nil).toInt) < ((yy3.getD 0 D.nil).toInt))) (.ret [D.int (-1)])
 (.call 52 [] [a0, D.int i5] fun yy4 =>
 .call 52 [] [b1, D.int i5] fun yy5 =>
 .br (decide (((yy5.getD 0 D.nil).toInt) < ((yy4.getD 0 D.nil).toInt))) (.ret [D.int 1])
 (ref02_Cmp_l2 n m2 a0 b1 (IntKind.wrap .i64 (i5 - 1)))))
 (.ret [D.int 0]) := by kernel_rfl
theorem ref02_Cmp_tree (n : Nat) (a0 : D) (b1 : D) : evFun Tryz.prog md ref02_Cmp_orc n 107 [] [a0, b1] =
 .call 51 [] [a0, b1] fun yy1 =>
 ref02_Cmp_l2 n n a0 b1 (IntKind.wrap .i64 (((yy1.getD 0 D.nil).toInt) - 1)) := by kernel_rfl

end Go.Proofs.YtcdjifdllibolaaGreat

namespace Go.Proofs.YtcdjifdllibolaaGreat

def B : Nat := 4294967296
theorem B_eq : B = 4294967296 := rfl
theorem B_pos : 0 < B := by decide
theorem Bp (i : Nat) : 0 < B ^ i := Nat.pow_pos B_pos
theorem limb_lt (x : Limb) : x.toNat < B := x.isLt
def nv : List Limb → Nat
  | [] => 0
  | x :: l => x.toNat + B * nv l
@[simp] theorem nv_nil : nv [] = 0 := rfl
theorem nv_append (l m : List Limb) : nv (l ++ m) = nv l + B ^ l.length * nv m := by
  induction l with
  | nil => simp
  | cons x l ih =>
    simp only [List.cons_append, nv, ih, List.length_cons, Nat.pow_succ, Nat.mul_add]
    rw [Nat.mul_comm (B ^ l.length) B, Nat.mul_assoc]; omega
theorem nv_snoc (l : List Limb) (x : Limb) : nv (l ++ [x]) = nv l + B ^ l.length * x.toNat := by rw [nv_append]; simp [nv]
theorem nv_lt (l : List Limb) : nv l < B ^ l.length := by
  induction l with
  | nil => simp
  | cons x l ih =>
    simp only [nv, List.length_cons, Nat.pow_succ]
    have hx := limb_lt x
    have : B * (nv l + 1) ≤ B * B ^ l.length := Nat.mul_le_mul_left _ ih
    rw [Nat.mul_comm (B ^ l.length) B]
    rw [Nat.mul_add] at this
    omega
theorem nv_drop (l : List Limb) (i : Nat) : nv (l.drop i) = nv l / B ^ i := by
  induction i generalizing l with
  | zero => simp
  | succ i ih =>
    cases l with
    | nil => simp
    | cons x l =>
      rw [List.drop_succ_cons, ih, Nat.pow_succ, Nat.mul_comm, ← Nat.div_div_eq_div_mul]
      simp only [nv]
      rw [Nat.add_mul_div_left _ _ B_pos, Nat.div_eq_of_lt (limb_lt x), Nat.zero_add]
/-- A limb. -/
theorem nv_limb (l : List Limb) (i : Nat) (hi : i < l.length) : (l[i]).toNat = nv l / B ^ i % B := by
  rw [← nv_drop, List.drop_eq_getElem_cons hi, nv, Nat.add_mul_mod_self_left, Nat.mod_eq_of_lt (limb_lt _)]
theorem nv_limb' (l : List Limb) (i : Nat) (hi : l.length ≤ i) : nv l / B ^ i % B = 0 := by
  rw [← nv_drop, List.drop_eq_nil_of_le hi]; rfl
theorem nv_zeros (k : Nat) : nv (List.replicate k 0) = 0 := by
  induction k with
  | zero => rfl
  | succ k ih => rw [List.replicate_succ, nv, ih]; rfl
/-- A digit more. -/
theorem nv_step {out : List Limb} {z i : Nat} {d : Limb} (hl : out.length = i) (h : nv out = z % B ^ i) (hd : d.toNat = z / B ^ i % B) : nv (out ++ [d]) = z % B ^ (i + 1) := by
  rw [nv_snoc, hl, h, hd, Nat.mod_pow_succ]

/-- The limbs of a number. -/
def lb (n : Nat) : List Limb := if h : n = 0 then [] else BitVec.ofNat 32 n :: lb (n / B)
termination_by n
decreasing_by exact Nat.div_lt_self (Nat.pos_of_ne_zero h) (by decide)
theorem lb_zero : lb 0 = [] := by rw [lb]; simp
theorem lb_pos {n : Nat} (h : n ≠ 0) : lb n = BitVec.ofNat 32 n :: lb (n / B) := by rw [lb, dif_neg h]
theorem nv_lb (n : Nat) : nv (lb n) = n := by
  induction n using Nat.strongRecOn with
  | _ n ih =>
    by_cases h : n = 0
    · subst h; rw [lb_zero]; rfl
    · rw [lb_pos h, nv, ih _ (Nat.div_lt_self (Nat.pos_of_ne_zero h) (by decide)), BitVec.toNat_ofNat]
      exact Nat.mod_add_div n B
theorem lb_len {n k : Nat} : (lb n).length ≤ k ↔ n < B ^ k := by
  induction k generalizing n with
  | zero =>
    by_cases h : n = 0
    · subst h; simp [lb_zero]
    · rw [lb_pos h]; simp; omega
  | succ k ih =>
    by_cases h : n = 0
    · subst h; simp [lb_zero, Bp]
    · rw [lb_pos h, List.length_cons, Nat.succ_le_succ_iff, ih, Nat.div_lt_iff_lt_mul B_pos, Nat.pow_succ]
theorem lb_eq_nil {n : Nat} : lb n = [] ↔ n = 0 := by
  constructor
  · intro h; have := nv_lb n; rw [h] at this; simpa using this.symm
  · rintro rfl; exact lb_zero
theorem lb_len0 {n : Nat} : (lb n).length = 0 ↔ n = 0 := by rw [List.length_eq_zero_iff, lb_eq_nil]
/-- No 0 on top. -/
theorem lb_can {l : List Limb} (h : ∀ hne : l ≠ [], l.getLast hne ≠ 0) : lb (nv l) = l := by
  induction l with
  | nil => simp [lb_zero]
  | cons x l ih =>
    have ihl := ih (fun hne => by have := h (by simp); rwa [List.getLast_cons hne] at this)
    have hpos : nv (x :: l) ≠ 0 := by
      intro h0
      simp only [nv] at h0
      cases l with
      | nil =>
        have := h (by simp)
        simp only [List.getLast_singleton] at this
        exact this (BitVec.eq_of_toNat_eq (by simp; omega))
      | cons y m =>
        have hv : nv (y :: m) = 0 := by
          rcases Nat.eq_zero_or_pos (nv (y :: m)) with h | h
          · exact h
          · have := Nat.mul_le_mul_left B h; rw [B_eq] at this h0; omega
        rw [hv, lb_zero] at ihl
        cases ihl
    rw [lb_pos hpos]
    have e2 : nv (x :: l) / B = nv l := by simp only [nv]; rw [Nat.add_mul_div_left _ _ B_pos, Nat.div_eq_of_lt (limb_lt x), Nat.zero_add]
    rw [e2, ihl]
    congr 1
    apply BitVec.eq_of_toNat_eq
    simp only [nv, BitVec.toNat_ofNat]
    show (x.toNat + B * nv l) % B = x.toNat
    rw [Nat.add_mul_mod_self_left, Nat.mod_eq_of_lt (limb_lt x)]
theorem lb_last {n : Nat} (hne : lb n ≠ []) : (lb n).getLast hne ≠ 0 := by
  induction n using Nat.strongRecOn with
  | _ n ih =>
    have h : n ≠ 0 := fun h => hne (lb_eq_nil.2 h)
    have he := lb_pos h
    by_cases h2 : n / B = 0
    · rw [h2, lb_zero] at he
      simp only [he, List.getLast_singleton]
      intro h0
      have := congrArg BitVec.toNat h0
      simp only [BitVec.toNat_ofNat] at this
      have hlt : n < B := (Nat.div_eq_zero_iff.1 h2).resolve_left (by decide)
      rw [B_eq] at hlt
      simp at this
      omega
    · have hne2 : lb (n / B) ≠ [] := fun hh => h2 (lb_eq_nil.1 hh)
      have := ih (n / B) (Nat.div_lt_self (Nat.pos_of_ne_zero h) (by decide)) hne2
      simp only [he, List.getLast_cons hne2]
      exact this
/-- Noughts on top taken off. -/
theorem lb_take {l : List Limb} {k : Nat} (hk : k ≤ l.length) (hz : ∀ i, k ≤ i → (hi : i < l.length) → l[i] = 0) (ht : ∀ (hi : k - 1 < l.length), 0 < k → l[k - 1] ≠ 0) : lb (nv l) = l.take k := by
  have e : nv l = nv (l.take k) := by
    have := nv_append (l.take k) (l.drop k)
    rw [List.take_append_drop] at this
    have hd : l.drop k = List.replicate (l.length - k) 0 := by
      apply List.ext_getElem
      · simp
      · intro i h1 h2
        simp only [List.getElem_drop, List.getElem_replicate]
        exact hz _ (by omega) _
    rw [this, hd, nv_zeros]; simp
  rw [e]
  apply lb_can
  intro hne
  have hk0 : 0 < k := by
    rcases Nat.eq_zero_or_pos k with h | h
    · subst h; simp at hne
    · exact h
  rw [List.getLast_eq_getElem]
  simp only [List.getElem_take, List.length_take]
  have := ht (by omega) hk0
  have he : min k l.length - 1 = k - 1 := by omega
  simp only [he]
  exact this
theorem add_digit (x y i : Nat) : (x + y) / B ^ i % B = (x / B ^ i % B + y / B ^ i % B + (x % B ^ i + y % B ^ i) / B ^ i) % B := by
  have h1 : (x + y) / B ^ i = x / B ^ i + y / B ^ i + (x % B ^ i + y % B ^ i) / B ^ i := by
    have hx := Nat.div_add_mod x (B ^ i)
    have hy := Nat.div_add_mod y (B ^ i)
    conv => lhs; rw [← hx, ← hy]
    rw [show B ^ i * (x / B ^ i) + x % B ^ i + (B ^ i * (y / B ^ i) + y % B ^ i) = (x % B ^ i + y % B ^ i) + B ^ i * (x / B ^ i + y / B ^ i) by rw [Nat.mul_add]; omega, Nat.add_mul_div_left _ _ (Bp i)]
    omega
  rw [h1]
  simp [Nat.add_mod]
theorem add_carry (x y i : Nat) : (x % B ^ (i + 1) + y % B ^ (i + 1)) / B ^ (i + 1) = (x / B ^ i % B + y / B ^ i % B + (x % B ^ i + y % B ^ i) / B ^ i) / B := by
  rw [Nat.mod_pow_succ, Nat.mod_pow_succ, Nat.pow_succ, ← Nat.div_div_eq_div_mul]
  congr 1
  rw [show x % B ^ i + B ^ i * (x / B ^ i % B) + (y % B ^ i + B ^ i * (y / B ^ i % B)) = (x % B ^ i + y % B ^ i) + B ^ i * (x / B ^ i % B + y / B ^ i % B) by rw [Nat.mul_add]; omega, Nat.add_mul_div_left _ _ (Bp i)]
  omega
theorem lt_of_div {x y b : Nat} (h : x / b < y / b) : x < y := by
  rcases Nat.lt_or_ge x y with h1 | h1
  · exact h1
  · have := Nat.div_le_div_right (c := b) h1; omega
/-- A difference is a sum, from the other end. -/
theorem sub_digit {x y : Nat} (h : y ≤ x) (i : Nat) : ∃ zi c c', zi = (x - y) / B ^ i % B ∧ c = ((x - y) % B ^ i + y % B ^ i) / B ^ i ∧ c' = ((x - y) % B ^ (i + 1) + y % B ^ (i + 1)) / B ^ (i + 1) ∧ c' ≤ 1 ∧ x / B ^ i % B + B * c' = zi + y / B ^ i % B + c := by
  refine ⟨_, _, _, rfl, rfl, rfl, ?_, ?_⟩
  · have h1 := Nat.mod_lt (x - y) (Bp (i + 1))
    have h2 := Nat.mod_lt y (Bp (i + 1))
    have : ((x - y) % B ^ (i + 1) + y % B ^ (i + 1)) / B ^ (i + 1) < 2 := by rw [Nat.div_lt_iff_lt_mul (Bp _)]; omega
    omega
  · have h1 := add_digit (x - y) y i
    rw [Nat.sub_add_cancel h] at h1
    rw [add_carry, h1]
    exact Nat.mod_add_div _ _
theorem two_digit (x b i : Nat) : (2 * x + b) / B ^ i % B = (2 * (x / B ^ i % B) + (2 * (x % B ^ i) + b) / B ^ i) % B := by
  have h1 : (2 * x + b) / B ^ i = 2 * (x / B ^ i) + (2 * (x % B ^ i) + b) / B ^ i := by
    have hx := Nat.div_add_mod x (B ^ i)
    conv => lhs; rw [← hx]
    rw [show 2 * (B ^ i * (x / B ^ i) + x % B ^ i) + b = (2 * (x % B ^ i) + b) + B ^ i * (2 * (x / B ^ i)) by rw [Nat.mul_add, Nat.mul_left_comm]; omega, Nat.add_mul_div_left _ _ (Bp i)]
    omega
  rw [h1]
  simp [Nat.add_mod, Nat.mul_mod]
theorem two_carry (x b i : Nat) : (2 * (x % B ^ (i + 1)) + b) / B ^ (i + 1) = (2 * (x / B ^ i % B) + (2 * (x % B ^ i) + b) / B ^ i) / B := by
  rw [Nat.mod_pow_succ, Nat.pow_succ, ← Nat.div_div_eq_div_mul]
  congr 1
  rw [show 2 * (x % B ^ i + B ^ i * (x / B ^ i % B)) + b = (2 * (x % B ^ i) + b) + B ^ i * (2 * (x / B ^ i % B)) by rw [Nat.mul_add, Nat.mul_left_comm]; omega, Nat.add_mul_div_left _ _ (Bp i)]
  omega
theorem B_two (i : Nat) : B ^ i = 2 ^ (32 * i) := by rw [Nat.pow_mul]; rfl
theorem bit_limb (x i : Nat) : x / B ^ (i / 32) % B / 2 ^ (i % 32) % 2 = x / 2 ^ i % 2 := by
  have h1 := Nat.toNat_testBit (x / B ^ (i / 32) % B) (i % 32)
  have h2 := Nat.toNat_testBit x i
  rw [← h1, ← h2]
  congr 1
  rw [show B = 2 ^ 32 from rfl, Nat.testBit_mod_two_pow, ← Nat.pow_mul, Nat.testBit_div_two_pow]
  have : i % 32 < 32 := Nat.mod_lt _ (by decide)
  simp only [this, decide_true, Bool.true_and]
  congr 1
  omega
theorem mod_half {x y : Nat} (h : y ≠ 0) (h2 : x % y ≠ 0) : 2 * (y % (x % y)) < y := by
  have h1 := Nat.mod_lt x (Nat.pos_of_ne_zero h)
  rcases Nat.lt_or_ge y (2 * (x % y)) with h3 | h3
  · have : y % (x % y) = y - x % y := by
      rw [Nat.mod_eq_sub_mod (by omega), Nat.mod_eq_of_lt (by omega)]
    omega
  · have := Nat.mod_lt y (Nat.pos_of_ne_zero h2)
    omega
end Go.Proofs.YtcdjifdllibolaaGreat

set_option maxRecDepth 100000
namespace Go.Proofs.YtcdjifdllibolaaGreat

theorem dB_ofNat {t : Nat} (h : t < B) : D.int (t : Int) = dB (BitVec.ofNat 32 t) := by
  show _ = D.int ((BitVec.ofNat 32 t).toNat : Int)
  rw [show (BitVec.ofNat 32 t).toNat = t by rw [BitVec.toNat_ofNat]; exact Nat.mod_eq_of_lt h]
theorem ofNat_lt {t : Nat} (h : t < B) : (BitVec.ofNat 32 t).toNat = t := by rw [BitVec.toNat_ofNat]; exact Nat.mod_eq_of_lt h
theorem wrap_pred (k : Nat) (h : k < 9223372036854775807) : IntKind.wrap .i64 (((k + 1 : Nat) : Int) - 1) = (k : Int) := by rw [wrap64 (by omega) (by omega)]; omega
theorem dL_take (l : List Limb) (k : Nat) : D.sl ((l.map dB).take k) = dL (l.take k) := by rw [dL, List.map_take]
theorem ref02_Norm_sp (l : List Limb) (hl : l.length ≤ 1000000) : Sp 50 [dL l] [dL (lb (nv l))] := by
  refine sound_ (l.length + 1) (ref02_Norm_tree _ _) ?_
  have := loop_down (P := Tryz.prog) (md := md) (fun m k (_ : Unit) => ref02_Norm_l2 (l.length + 1) m (dL l) (k : Int)) (fun _ _ => [dL (lb (nv l))]) (fun k _ => k ≤ l.length ∧ ∀ i, k ≤ i → (hi : i < l.length) → l[i] = 0)
    (fun m s ⟨h1, h2⟩ => by
      simp only [ref02_Norm_l2_succ, els_dL, List.length_map, List.length_take]
      refine wp_ndec (by omega) (wp_dec (by omega) (wp_dec (by omega) (wp_dec (by simp [bigN]) (wp_ret ?_))))
      rw [lb_take (k := 0) (by omega) h2 (fun _ h => by omega), dL_take]; rfl)
    (fun m k s ⟨h1, h2⟩ ih => by
      have hk : l[k]? = some l[k] := List.getElem?_eq_getElem _
      simp only [ref02_Norm_l2_succ, els_dL, List.length_map, List.length_take, wrap_pred k (by omega), Int.toNat_natCast, getD_map hk, toInt_dB, int_beq]
      refine wp_dec (by omega) (wp_dec (by omega) (wp_dec (by omega) (wp_decs (fun h => ?_) (fun h => ?_))))
      · refine ih () ⟨by omega, fun i hi hlt => ?_⟩
        by_cases he : i = k
        · subst he; exact BitVec.eq_of_toNat_eq (by simp; omega)
        · exact h2 i (by omega) hlt
      · refine wp_dec (by omega) (wp_dec (by omega) (wp_dec (by unfold bigN; omega) (wp_ret ?_)))
        rw [lb_take (k := k + 1) (by omega) h2 (fun _ _ hc => h (by have hc' : l[k] = 0 := hc; rw [hc']; rfl)), dL_take])
    (l.length + 1) l.length () (by omega) ⟨Nat.le_refl _, fun i h1 h2 => by omega⟩
  simpa using this
theorem ref02_limb_sp (l : List Limb) (i : Nat) (hi : i < 9223372036854775807) : Sp 52 [dL l, .int i] [.int ((nv l / B ^ i % B : Nat) : Int)] := by
  refine sound_ 0 (ref02_limb_tree _ _ _) ?_
  simp only [els_dL, List.length_map, toInt_int, Int.toNat_natCast]
  refine wp_decs (fun h => ?_) (fun h => ?_)
  · have hk : l[i]? = some (l[i]'(by omega)) := List.getElem?_eq_getElem _
    refine wp_dec (by omega) (wp_dec (by omega) (wp_ret ?_))
    have := limb_lt l[i]
    rw [getD_map hk, toInt_dB, wrapU64 (by omega) (by rw [B_eq] at this; omega), nv_limb]
  · refine wp_ret ?_
    rw [nv_limb' _ _ (by omega)]; rfl
theorem ref02_longer_sp (a b : List Limb) : Sp 51 [dL a, dL b] [.int ((max a.length b.length : Nat) : Int)] := by
  refine sound_ 0 (ref02_longer_tree _ _ _) ?_
  simp only [els_dL, List.length_map]
  refine wp_decs (fun h => wp_ret ?_) (fun h => wp_ret ?_)
  · rw [Nat.max_eq_left (by omega)]
  · rw [Nat.max_eq_right (by omega)]
/-- Which one is greater? -/
def cmpN (a b : Nat) : Int := if a < b then -1 else if a = b then 0 else 1
theorem ref02_Cmp_sp (a b : List Limb) (ha : a.length ≤ 1000000) (hb : b.length ≤ 1000000) : Sp 107 [dL a, dL b] [.int (cmpN (nv a) (nv b))] := by
  refine sound_ (max a.length b.length + 1) (ref02_Cmp_tree _ _ _) (wp_call (ref02_longer_sp a b) ?_)
  simp only [getD_c0, toInt_int]
  have key := loop_down (P := Tryz.prog) (md := md) (fun m k (_ : Unit) => ref02_Cmp_l2 (max a.length b.length + 1) m (dL a) (dL b) ((k : Int) - 1)) (fun _ _ => [.int (cmpN (nv a) (nv b))]) (fun k _ => k ≤ 1000000 ∧ nv a / B ^ k = nv b / B ^ k)
    (fun m s ⟨_, h⟩ => by
      simp only [ref02_Cmp_l2_succ]
      refine wp_ndec (by omega) (wp_ret ?_)
      simp at h
      simp [cmpN, h])
    (fun m k s ⟨h0, h⟩ ih => by
      simp only [ref02_Cmp_l2_succ, show ((k + 1 : Nat) : Int) - 1 = (k : Int) by omega]
      have ea := Nat.div_add_mod (nv a / B ^ k) B
      have eb := Nat.div_add_mod (nv b / B ^ k) B
      rw [Nat.div_div_eq_div_mul, ← Nat.pow_succ] at ea eb
      rw [h] at ea
      generalize B * (nv b / B ^ (k + 1)) = q at ea eb
      refine wp_dec (by omega) (wp_call (ref02_limb_sp a k (by omega)) (wp_call (ref02_limb_sp b k (by omega)) ?_))
      simp only [getD_c0, toInt_int]
      refine wp_decs (fun h' => wp_ret ?_) (fun h' => wp_call (ref02_limb_sp a k (by omega)) (wp_call (ref02_limb_sp b k (by omega)) ?_))
      · have hlt := lt_of_div (show nv a / B ^ k < nv b / B ^ k by omega)
        simp only [cmpN]; rw [if_pos hlt]
      · simp only [getD_c0, toInt_int]
        refine wp_decs (fun h2 => wp_ret ?_) (fun h2 => ?_)
        · have hlt := lt_of_div (show nv b / B ^ k < nv a / B ^ k by omega)
          simp only [cmpN]; rw [if_neg (by omega), if_neg (by omega)]
        · rw [wrap64 (by omega) (by omega)]
          exact ih () ⟨by omega, by omega⟩)
    (max a.length b.length + 1) (max a.length b.length) () (by omega) ⟨by omega, by
      rw [Nat.div_eq_of_lt, Nat.div_eq_of_lt]
      · exact Nat.lt_of_lt_of_le (nv_lt b) (Nat.pow_le_pow_right B_pos (Nat.le_max_right _ _))
      · exact Nat.lt_of_lt_of_le (nv_lt a) (Nat.pow_le_pow_right B_pos (Nat.le_max_left _ _))⟩
  rw [wrap64 (by omega) (by omega)]
  exact key
theorem ref02_Add_sp (a b : List Limb) (ha : a.length ≤ 100000) (hb : b.length ≤ 100000) : Sp 22 [dL a, dL b] [dL (lb (nv a + nv b))] := by
  refine sound_ (max a.length b.length + 3) (ref02_Add_tree _ _ _) ?_
  have hmx : max a.length b.length ≤ 100000 := by omega
  have hlt : nv a + nv b < B ^ (max a.length b.length + 1) := by
    have h1 : nv a < B ^ max a.length b.length := Nat.lt_of_lt_of_le (nv_lt a) (Nat.pow_le_pow_right B_pos (Nat.le_max_left _ _))
    have h2 : nv b < B ^ max a.length b.length := Nat.lt_of_lt_of_le (nv_lt b) (Nat.pow_le_pow_right B_pos (Nat.le_max_right _ _))
    rw [Nat.pow_succ, B_eq]; rw [B_eq] at h1 h2; omega
  have key := loop_up (P := Tryz.prog) (md := md) (max a.length b.length + 1) (fun m k (s : List Limb × Nat) => ref02_Add_l4 (max a.length b.length + 3) m (dL a) (dL b) (s.1.map dB) (s.2 : Int) (k : Int)) (fun _ _ => [dL (lb (nv a + nv b))])
    (fun k s => s.1.length = k ∧ nv s.1 = (nv a + nv b) % B ^ k ∧ s.2 = (nv a % B ^ k + nv b % B ^ k) / B ^ k)
    (fun m s ⟨h1, h2, h3⟩ => by
      simp only [ref02_Add_l4_succ]
      refine wp_call (ref02_longer_sp a b) ?_
      simp only [getD_c0, toInt_int]
      refine wp_ndec (by omega) (wp_call (ref02_Norm_sp s.1 (by omega)) (wp_ret ?_))
      rw [h2, Nat.mod_eq_of_lt hlt]; rfl)
    (fun m k s hk ⟨h1, h2, h3⟩ ih => by
      simp only [ref02_Add_l4_succ]
      refine wp_call (ref02_longer_sp a b) ?_
      simp only [getD_c0, toInt_int]
      refine wp_dec (by omega) (wp_call (ref02_limb_sp a k (by omega)) (wp_call (ref02_limb_sp b k (by omega)) ?_))
      simp only [getD_c0, toInt_int]
      have hd := add_digit (nv a) (nv b) k
      have hc := add_carry (nv a) (nv b) k
      have la := Nat.mod_lt (nv a / B ^ k) B_pos
      have lb' := Nat.mod_lt (nv b / B ^ k) B_pos
      have lc : s.2 ≤ 1 := by
        rw [h3]
        have r1 := Nat.mod_lt (nv a) (Bp k)
        have r2 := Nat.mod_lt (nv b) (Bp k)
        have : (nv a % B ^ k + nv b % B ^ k) / B ^ k < 2 := by rw [Nat.div_lt_iff_lt_mul (Bp k)]; omega
        omega
      rw [← h3] at hd hc
      generalize nv a / B ^ k % B = x at *
      generalize nv b / B ^ k % B = y at *
      have hB := B_eq
      rw [show (x + y + s.2) / B = (x + y + s.2) / 4294967296 from rfl] at hc
      have t1 : IntKind.wrap .u64 (IntKind.wrap .u64 ((x : Int) + (y : Int)) + (s.2 : Int)) = ((x + y + s.2 : Nat) : Int) := by
        rw [wrapU64 (x := (x : Int) + y) (by omega) (by omega), wrapU64 (by omega) (by omega)]; omega
      rw [t1, Int.tmod_eq_emod_of_nonneg (by omega), Int.tdiv_eq_ediv_of_nonneg (by omega), show (((x + y + s.2 : Nat) : Int) % 4294967296) = (((x + y + s.2) % B : Nat) : Int) by rw [B_eq]; omega,
        show (((x + y + s.2 : Nat) : Int) / 4294967296) = (((x + y + s.2) / 4294967296 : Nat) : Int) by omega]
      have hm := Nat.mod_lt (x + y + s.2) B_pos
      rw [wrapU32 (x := (((x + y + s.2) % B : Nat) : Int)) (by omega) (by generalize (x + y + s.2) % B = z at *; omega), wrapU64 (x := (((x + y + s.2) / 4294967296 : Nat) : Int)) (by omega) (by omega), wrap_succ (by omega), dB_ofNat hm]
      simp only [List.length_map, List.length_singleton]
      refine wp_tt (by decide) (wp_dec (by unfold bigN; omega) (wp_tt (by decide) ?_))
      have := ih (s.1 ++ [BitVec.ofNat 32 ((x + y + s.2) % B)], (x + y + s.2) / 4294967296) ⟨by simp [h1], nv_step h1 h2 (by rw [ofNat_lt hm, hd]), by rw [hc]⟩
      simpa using this)
    (max a.length b.length + 3) 0 ([], 0) (by omega) (by omega) ⟨rfl, by simp [Nat.mod_one], by simp [Nat.mod_one]⟩
  exact key
theorem sub_arith {x y zi c c' : Nat} (hx : x < B) (hy : y < B) (hz : zi < B) (hc : c ≤ 1) (hc' : c' ≤ 1) (e : x + B * c' = zi + y + c) :
    IntKind.wrap .u32 (Int.tmod (IntKind.wrap .u64 (IntKind.wrap .u64 (IntKind.wrap .u64 (4294967296 + (x : Int)) - (y : Int)) - (c : Int))) 4294967296) = (zi : Int) ∧
    IntKind.wrap .u64 (1 - IntKind.wrap .u64 (Int.tdiv (IntKind.wrap .u64 (IntKind.wrap .u64 (IntKind.wrap .u64 (4294967296 + (x : Int)) - (y : Int)) - (c : Int))) 4294967296)) = (c' : Int) := by
  rw [B_eq] at hx hy hz e
  have t1 : IntKind.wrap .u64 (IntKind.wrap .u64 (IntKind.wrap .u64 (4294967296 + (x : Int)) - (y : Int)) - (c : Int)) = (zi : Int) + 4294967296 * (1 - (c' : Int)) := by
    rw [wrapU64 (x := 4294967296 + (x : Int)) (by omega) (by omega), wrapU64 (x := 4294967296 + (x : Int) - y) (by omega) (by omega), wrapU64 (by omega) (by omega)]; omega
  rw [t1, Int.tmod_eq_emod_of_nonneg (by omega), Int.tdiv_eq_ediv_of_nonneg (by omega), show ((zi : Int) + 4294967296 * (1 - (c' : Int))) % 4294967296 = (zi : Int) by omega, show ((zi : Int) + 4294967296 * (1 - (c' : Int))) / 4294967296 = 1 - (c' : Int) by omega]
  rw [wrapU32 (x := (zi : Int)) (by omega) (by omega), wrapU64 (x := 1 - (c' : Int)) (by omega) (by omega), show (1 : Int) - (1 - (c' : Int)) = (c' : Int) by omega, wrapU64 (x := (c' : Int)) (by omega) (by omega)]
  exact ⟨rfl, rfl⟩
theorem ref02_Sub_sp (a b : List Limb) (ha : a.length ≤ 100000) (hb : b.length ≤ 100000) : Sp 103 [dL a, dL b] [dL (lb (nv a - nv b)), .bool (decide (nv b ≤ nv a))] := by
  refine sound_ (max a.length b.length + 3) (ref02_Sub_tree _ _ _) (wp_call (ref02_Cmp_sp a b (by omega) (by omega)) ?_)
  have hmx : max a.length b.length ≤ 100000 := by omega
  simp only [getD_c0, toInt_int]
  refine wp_decs (fun h => wp_ret ?_) (fun h => ?_)
  · have hlt : nv a < nv b := by
      unfold cmpN at h
      rcases Nat.lt_or_ge (nv a) (nv b) with h1 | h1
      · exact h1
      · rw [if_neg (by omega)] at h; split at h <;> omega
    rw [Nat.sub_eq_zero_of_le (by omega), lb_zero, decide_eq_false (by omega)]; rfl
  · have hge : nv b ≤ nv a := by
      unfold cmpN at h
      rcases Nat.lt_or_ge (nv a) (nv b) with h1 | h1
      · rw [if_pos h1] at h; omega
      · exact h1
    rw [decide_eq_true hge]
    have hlt : nv a - nv b < B ^ max a.length b.length := by
      have h1 : nv a < B ^ max a.length b.length := Nat.lt_of_lt_of_le (nv_lt a) (Nat.pow_le_pow_right B_pos (Nat.le_max_left _ _))
      omega
    have key := loop_up (P := Tryz.prog) (md := md) (max a.length b.length) (fun m k (s : List Limb × Nat) => ref02_Sub_l6 (max a.length b.length + 3) m (dL a) (dL b) (s.1.map dB) (s.2 : Int) (k : Int)) (fun _ _ => [dL (lb (nv a - nv b)), .bool true])
      (fun k s => s.1.length = k ∧ nv s.1 = (nv a - nv b) % B ^ k ∧ s.2 = ((nv a - nv b) % B ^ k + nv b % B ^ k) / B ^ k)
      (fun m s ⟨h1, h2, h3⟩ => by
        simp only [ref02_Sub_l6_succ]
        refine wp_call (ref02_longer_sp a b) ?_
        simp only [getD_c0, toInt_int]
        refine wp_ndec (by omega) (wp_call (ref02_Norm_sp s.1 (by omega)) (wp_ret ?_))
        rw [h2, Nat.mod_eq_of_lt hlt]; rfl)
      (fun m k s hk ⟨h1, h2, h3⟩ ih => by
        simp only [ref02_Sub_l6_succ]
        refine wp_call (ref02_longer_sp a b) ?_
        simp only [getD_c0, toInt_int]
        refine wp_dec (by omega) (wp_call (ref02_limb_sp a k (by omega)) (wp_call (ref02_limb_sp b k (by omega)) ?_))
        simp only [getD_c0, toInt_int]
        obtain ⟨zi, c, c', e1, e2, e3, e4, e5⟩ := sub_digit hge k
        have la := Nat.mod_lt (nv a / B ^ k) B_pos
        have lb' := Nat.mod_lt (nv b / B ^ k) B_pos
        have lz := Nat.mod_lt ((nv a - nv b) / B ^ k) B_pos
        rw [← e1] at lz
        rw [← e2] at h3
        have hB := B_eq
        have lc : c ≤ 1 := by
          rw [e2]
          have r1 := Nat.mod_lt (nv a - nv b) (Bp k)
          have r2 := Nat.mod_lt (nv b) (Bp k)
          have : ((nv a - nv b) % B ^ k + nv b % B ^ k) / B ^ k < 2 := by rw [Nat.div_lt_iff_lt_mul (Bp k)]; omega
          omega
        rw [h3]
        generalize nv a / B ^ k % B = x at *
        generalize nv b / B ^ k % B = y at *
        obtain ⟨t1, t2⟩ := sub_arith la lb' lz lc e4 e5
        rw [t1, t2, wrap_succ (by omega), dB_ofNat lz]
        simp only [List.length_map, List.length_singleton]
        refine wp_tt (by decide) (wp_dec (by unfold bigN; omega) (wp_tt (by decide) ?_))
        have := ih (s.1 ++ [BitVec.ofNat 32 zi], c') ⟨by simp [h1], nv_step h1 h2 (by rw [ofNat_lt lz, e1]), e3⟩
        simpa using this)
      (max a.length b.length + 3) 0 ([], 0) (by omega) (by omega) ⟨rfl, by simp [Nat.mod_one], by simp [Nat.mod_one]⟩
    exact key
theorem ref02_twice_sp (a : List Limb) (b : Nat) (hb : b ≤ 1) (ha : a.length ≤ 100000) : Sp 101 [dL a, .int b] [dL (lb (2 * nv a + b))] := by
  refine sound_ (a.length + 3) (ref02_twice_tree _ _ _) ?_
  have hlt : 2 * nv a + b < B ^ (a.length + 1) := by
    have := nv_lt a
    rw [Nat.pow_succ, B_eq]; rw [B_eq] at this; omega
  have key := loop_up (P := Tryz.prog) (md := md) (a.length + 1) (fun m k (s : List Limb × Nat) => ref02_twice_l4 (a.length + 3) m (dL a) (s.1.map dB) (s.2 : Int) (k : Int)) (fun _ _ => [dL (lb (2 * nv a + b))])
    (fun k s => s.1.length = k ∧ nv s.1 = (2 * nv a + b) % B ^ k ∧ s.2 = (2 * (nv a % B ^ k) + b) / B ^ k)
    (fun m s ⟨h1, h2, h3⟩ => by
      simp only [ref02_twice_l4_succ, els_dL, List.length_map]
      refine wp_ndec (by omega) (wp_call (ref02_Norm_sp s.1 (by omega)) (wp_ret ?_))
      rw [h2, Nat.mod_eq_of_lt hlt]; rfl)
    (fun m k s hk ⟨h1, h2, h3⟩ ih => by
      simp only [ref02_twice_l4_succ, els_dL, List.length_map]
      refine wp_dec (by omega) (wp_call (ref02_limb_sp a k (by omega)) ?_)
      simp only [getD_c0, toInt_int]
      have hd := two_digit (nv a) b k
      have hc := two_carry (nv a) b k
      have la := Nat.mod_lt (nv a / B ^ k) B_pos
      have hB := B_eq
      have lc : s.2 ≤ 1 := by
        rw [h3]
        have r1 := Nat.mod_lt (nv a) (Bp k)
        have : (2 * (nv a % B ^ k) + b) / B ^ k < 2 := by rw [Nat.div_lt_iff_lt_mul (Bp k)]; omega
        omega
      rw [← h3] at hd hc
      generalize nv a / B ^ k % B = x at *
      rw [show (2 * x + s.2) / B = (2 * x + s.2) / 4294967296 from rfl] at hc
      have t1 : IntKind.wrap .u64 (IntKind.wrap .u64 (2 * (x : Int)) + (s.2 : Int)) = ((2 * x + s.2 : Nat) : Int) := by
        rw [wrapU64 (x := 2 * (x : Int)) (by omega) (by omega), wrapU64 (by omega) (by omega)]; omega
      rw [t1, Int.tmod_eq_emod_of_nonneg (by omega), Int.tdiv_eq_ediv_of_nonneg (by omega), show (((2 * x + s.2 : Nat) : Int) % 4294967296) = (((2 * x + s.2) % B : Nat) : Int) by rw [B_eq]; omega,
        show (((2 * x + s.2 : Nat) : Int) / 4294967296) = (((2 * x + s.2) / 4294967296 : Nat) : Int) by omega]
      have hm := Nat.mod_lt (2 * x + s.2) B_pos
      rw [wrapU32 (x := (((2 * x + s.2) % B : Nat) : Int)) (by omega) (by generalize (2 * x + s.2) % B = z at *; omega), wrapU64 (x := (((2 * x + s.2) / 4294967296 : Nat) : Int)) (by omega) (by omega), wrap_succ (by omega), dB_ofNat hm]
      simp only [List.length_singleton]
      refine wp_tt (by decide) (wp_dec (by unfold bigN; omega) (wp_tt (by decide) ?_))
      have := ih (s.1 ++ [BitVec.ofNat 32 ((2 * x + s.2) % B)], (2 * x + s.2) / 4294967296) ⟨by simp [h1], nv_step h1 h2 (by rw [ofNat_lt hm, hd]), by rw [hc]⟩
      simpa using this)
    (a.length + 3) 0 ([], b) (by omega) (by omega) ⟨rfl, by simp [Nat.mod_one], by simp [Nat.mod_one]⟩
  simp only [toInt_int]
  rw [wrapU64 (by omega) (by omega)]
  exact key
theorem ref02_Bit_sp (a : List Limb) (i : Nat) (hi : i < 9223372036854775807) : Sp 102 [dL a, .int i] [.int ((nv a / 2 ^ i % 2 : Nat) : Int)] := by
  refine sound_ 40 (ref02_Bit_tree _ _ _) (wp_tt (by decide) ?_)
  simp only [toInt_int]
  rw [Int.tdiv_eq_ediv_of_nonneg (by omega), show (i : Int) / 32 = ((i / 32 : Nat) : Int) by omega, wrap64 (by omega) (by omega)]
  refine wp_call (ref02_limb_sp a (i / 32) (by omega)) ?_
  simp only [getD_c0, toInt_int]
  have hm : Int.tmod (i : Int) 32 = ((i % 32 : Nat) : Int) := by rw [Int.tmod_eq_emod_of_nonneg (by omega)]; omega
  have key := loop_up (P := Tryz.prog) (md := md) (i % 32) (fun m k (v : Nat) => ref02_Bit_l3 40 m (i : Int) (v : Int) (k : Int)) (fun k v => [.int ((v / 2 ^ (i % 32 - k) % 2 : Nat) : Int)]) (fun _ v => v < 4294967296)
    (fun m v hv => by
      simp only [ref02_Bit_l3_succ, hm]
      refine wp_tt (by decide) (wp_ndec (by omega) (wp_tt (by decide) (wp_ret ?_)))
      rw [Int.tmod_eq_emod_of_nonneg (by omega), show (v : Int) % 2 = ((v % 2 : Nat) : Int) by omega, wrapU32 (by omega) (by omega)]
      simp)
    (fun m k v hk hv ih => by
      simp only [ref02_Bit_l3_succ, hm]
      refine wp_tt (by decide) (wp_dec (by omega) (wp_tt (by decide) ?_))
      rw [wrap_succ (by omega), Int.tdiv_eq_ediv_of_nonneg (by omega), show (v : Int) / 2 = ((v / 2 : Nat) : Int) by omega, wrapU64 (by omega) (by omega)]
      have := ih (v / 2) (by omega)
      rw [show i % 32 - k = (i % 32 - (k + 1)) + 1 by omega, Nat.pow_succ, Nat.mul_comm, ← Nat.div_div_eq_div_mul]
      exact this)
    40 0 (nv a / B ^ (i / 32) % B) (by omega) (by omega) (Nat.mod_lt _ B_pos)
  rw [Nat.sub_zero, bit_limb] at key
  exact key
theorem ref02_DivMod_sp (a b : List Limb) (ha : a.length ≤ 10000) (hb : b.length ≤ 10000) : Sp 93 [dL a, dL b] [dL (lb (nv a / nv b)), dL (lb (if nv b = 0 then 0 else nv a % nv b)), .bool (decide (nv b ≠ 0))] := by
  refine sound_ (32 * a.length + 1) (ref02_DivMod_tree _ _ _) (wp_call (ref02_Norm_sp b (by omega)) ?_)
  simp only [getD_c0, els_dL, List.length_map, int_beq]
  refine wp_decs (fun h => wp_ret ?_) (fun h => ?_)
  · have h0 : nv b = 0 := lb_len0.1 (by omega)
    simp [h0, lb_zero, dL]
  · have h0 : nv b ≠ 0 := fun hh => h (by rw [hh, lb_zero]; rfl)
    rw [decide_eq_true h0, if_neg h0]
    have key := loop_down (P := Tryz.prog) (md := md) (fun m k (s : Nat × Nat) => ref02_DivMod_l5 (32 * a.length + 1) m (dL a) (dL b) (dL (lb s.1)) (dL (lb s.2)) ((k : Int) - 1)) (fun _ _ => [dL (lb (nv a / nv b)), dL (lb (nv a % nv b)), .bool true])
      (fun k s => k ≤ 320000 ∧ nv a / 2 ^ k = nv b * s.1 + s.2 ∧ s.2 < nv b)
      (fun m s ⟨_, h1, h2⟩ => by
        simp only [ref02_DivMod_l5_succ]
        refine wp_ndec (by omega) (wp_ret ?_)
        simp only [Nat.pow_zero, Nat.div_one] at h1
        rw [h1, Nat.mul_add_div (Nat.pos_of_ne_zero h0), Nat.div_eq_of_lt h2, Nat.mul_add_mod, Nat.mod_eq_of_lt h2]; simp)
      (fun m k s ⟨hk, h1, h2⟩ ih => by
        simp only [ref02_DivMod_l5_succ, show ((k + 1 : Nat) : Int) - 1 = (k : Int) by omega]
        have hr : (lb s.2).length ≤ b.length := lb_len.2 (Nat.lt_trans h2 (nv_lt b))
        have hq : (lb s.1).length ≤ a.length := by
          refine lb_len.2 (Nat.lt_of_le_of_lt ?_ (nv_lt a))
          have h3 : nv a / 2 ^ (k + 1) ≤ nv a := Nat.div_le_self _ _
          have h4 := Nat.le_mul_of_pos_left s.1 (Nat.pos_of_ne_zero h0)
          omega
        have hbit : nv a / 2 ^ k % 2 ≤ 1 := by omega
        have hdec : nv a / 2 ^ k = 2 * (nv a / 2 ^ (k + 1)) + nv a / 2 ^ k % 2 := by
          rw [Nat.pow_succ, ← Nat.div_div_eq_div_mul]; omega
        generalize hbt : nv a / 2 ^ k % 2 = bt at *
        have hlen2 : (lb (2 * s.2 + bt)).length ≤ b.length + 1 := by
          refine lb_len.2 ?_
          have := nv_lt b
          rw [Nat.pow_succ, B_eq]; rw [B_eq] at this; omega
        have sp1 := ref02_Bit_sp a k (by omega)
        rw [hbt] at sp1
        refine wp_dec (by omega) (wp_call sp1 ?_)
        simp only [getD_c0, toInt_int]
        refine wp_call (ref02_twice_sp (lb s.2) bt hbit (by omega)) ?_
        simp only [getD_c0, nv_lb]
        refine wp_call (ref02_Sub_sp (lb (2 * s.2 + bt)) b (by omega) (by omega)) ?_
        simp only [getD_c0, getD_c1, toBool_bool, nv_lb]
        refine wp_decs (fun h3 => ?_) (fun h3 => ?_)
        · refine wp_call (ref02_twice_sp (lb s.1) 1 (by omega) (by omega)) ?_
          simp only [getD_c0, nv_lb]
          rw [wrap64 (by omega) (by omega)]
          refine ih (2 * s.1 + 1, 2 * s.2 + bt - nv b) ⟨by omega, ?_, by simp only; omega⟩
          simp only
          rw [hdec, h1, Nat.mul_add, Nat.mul_add, Nat.mul_left_comm]; omega
        · refine wp_call (ref02_twice_sp (lb s.1) 0 (by omega) (by omega)) ?_
          simp only [getD_c0, nv_lb]
          rw [wrap64 (by omega) (by omega)]
          refine ih (2 * s.1 + 0, 2 * s.2 + bt) ⟨by omega, ?_, by simp only; omega⟩
          simp only
          rw [hdec, h1, Nat.mul_add, Nat.add_zero, Nat.mul_left_comm]; omega)
      (32 * a.length + 1) (32 * a.length) (0, 0) (by omega) ⟨by omega, by
        rw [← B_two, Nat.div_eq_of_lt (nv_lt a)]; rfl, Nat.pos_of_ne_zero h0⟩
    rw [wrap64 (x := 32 * (a.length : Int)) (by omega) (by omega), wrap64 (by omega) (by omega)]
    simp only [lb_zero] at key
    exact key
theorem ref02_Gcd_sp (a b : List Limb) (ha : a.length ≤ 1000) (hb : b.length ≤ 1000) : Sp 92 [dL a, dL b] [dL (lb (Nat.gcd (nv a) (nv b)))] := by
  obtain ⟨K, hK⟩ : ∃ K, K = 1000 := ⟨_, rfl⟩
  obtain ⟨J, hJ⟩ : ∃ J, J = 32000 := ⟨_, rfl⟩
  refine sound_ 100001 (ref02_Gcd_tree _ _ _) (wp_call (ref02_Norm_sp a (by omega)) (wp_call (ref02_Norm_sp b (by omega)) ?_))
  simp only [getD_c0]
  have key : ∀ (j k m x y : Nat), (lb x).length ≤ K → (lb y).length ≤ K → y < 2 ^ j → k + 2 * j + 2 ≤ 99000 → 2 * j + 1 < m → Tw (ref02_Gcd_l3 100001 m (dL (lb x)) (dL (lb y)) (k : Int)) [dL (lb (Nat.gcd x y))] := by
    intro j
    induction j with
    | zero =>
      intro k m x y _ _ hy hk hm
      obtain ⟨m, rfl⟩ : ∃ m', m = m' + 1 := ⟨m - 1, by omega⟩
      have : y = 0 := by simpa using hy
      subst this
      simp only [ref02_Gcd_l3_succ, els_dL, List.length_map, lb_zero, List.length_nil]
      refine wp_dec (by omega) (wp_ndec (by omega) (wp_ret ?_))
      rw [Nat.gcd_zero_right]
    | succ j ih =>
      intro k m x y hx hy hlt hk hm
      have stop : ∀ (k m x : Nat), k < 100000 → 0 < m → Tw (ref02_Gcd_l3 100001 m (dL (lb x)) (dL (lb 0)) (k : Int)) [dL (lb (Nat.gcd x 0))] := by
        intro k m x hk hm
        obtain ⟨m, rfl⟩ : ∃ m', m = m' + 1 := ⟨m - 1, by omega⟩
        simp only [ref02_Gcd_l3_succ, els_dL, List.length_map, lb_zero, List.length_nil]
        refine wp_dec (by omega) (wp_ndec (by omega) (wp_ret ?_))
        rw [Nat.gcd_zero_right]
      have step : ∀ (k m x y : Nat), k < 100000 → (lb x).length ≤ K → (lb y).length ≤ K → y ≠ 0 → Tw (ref02_Gcd_l3 100001 m (dL (lb y)) (dL (lb (x % y))) ((k + 1 : Nat) : Int)) [dL (lb (Nat.gcd y (x % y)))] → Tw (ref02_Gcd_l3 100001 (m + 1) (dL (lb x)) (dL (lb y)) (k : Int)) [dL (lb (Nat.gcd x y))] := by
        intro k m x y hk hx hy h0 hw
        simp only [Tw, ref02_Gcd_l3_succ, els_dL, List.length_map]
        have hne : (lb y).length ≠ 0 := fun hh => h0 (lb_len0.1 hh)
        have sp := ref02_DivMod_sp (lb x) (lb y) (by omega) (by omega)
        rw [nv_lb, nv_lb, if_neg h0] at sp
        refine wp_dec (by omega) (wp_dec (by omega) (wp_call sp ?_))
        simp only [getD_c1]
        rw [wrap_succ (by omega), Nat.gcd_comm x y, Nat.gcd_rec, Nat.gcd_comm]
        exact hw
      by_cases h0 : y = 0
      · subst h0; exact stop k m x (by omega) (by omega)
      · obtain ⟨m, rfl⟩ : ∃ m', m = m' + 2 := ⟨m - 2, by omega⟩
        have hl1 : (lb (x % y)).length ≤ K := lb_len.2 (Nat.lt_of_le_of_lt (Nat.le_of_lt (Nat.mod_lt x (Nat.pos_of_ne_zero h0))) (lb_len.1 hy))
        refine step k (m + 1) x y (by omega) hx hy h0 ?_
        by_cases h1 : x % y = 0
        · rw [h1]; exact stop (k + 1) (m + 1) y (by omega) (by omega)
        · refine step (k + 1) m y (x % y) (by omega) hy hl1 h1 ?_
          have hh := mod_half h0 h1
          refine ih (k + 1 + 1) m (x % y) (y % (x % y)) hl1 (lb_len.2 (Nat.lt_trans (Nat.mod_lt y (Nat.pos_of_ne_zero h1)) (lb_len.1 hl1))) ?_ (by omega) (by omega)
          rw [Nat.pow_succ] at hlt; omega
  have h1 : (lb (nv a)).length ≤ K := Nat.le_trans (lb_len.2 (nv_lt a)) (by omega)
  have h2 : (lb (nv b)).length ≤ K := Nat.le_trans (lb_len.2 (nv_lt b)) (by omega)
  have hlt : nv b < 2 ^ J := by
    refine Nat.lt_of_lt_of_le (nv_lt b) ?_
    rw [B_two]
    exact Nat.pow_le_pow_right (by decide) (by omega)
  exact key J 0 100001 _ _ h1 h2 hlt (by omega) (by omega)
/-- Are two lists the same? -/
theorem eq_loop {α : Type} [DecidableEq α] {P : Program} {md : Nat → FMode} (f : α → D) (hf : ∀ x y, (f x).toInt = (f y).toInt → x = y) (a b : List α) (hlen : a.length = b.length) (hbig : a.length ≤ 9223372036854775807) (L : Nat → Int → Tree)
    (hL : ∀ m i, L (m + 1) i = .br (decide (i < ((a.map f).length : Int))) (.br (decide (0 ≤ i)) (.br (decide (i < ((a.map f).length : Int))) (.br (decide (0 ≤ i)) (.br (decide (i < ((b.map f).length : Int)))
      (.br ((((a.map f).getD (Int.toNat i) D.nil).toInt) != (((b.map f).getD (Int.toNat i) D.nil).toInt)) (.ret [D.bool false]) (L m (IntKind.wrap .i64 (i + 1)))) .fail) .fail) .fail) .fail) (.ret [D.bool true])) :
    (L (a.length + 1) 0).wp P md (fun zs => zs = [.bool (decide (a = b))]) := by
  have key := loop_up (P := P) (md := md) a.length (fun m k (_ : Unit) => L m (k : Int)) (fun _ _ => [.bool (decide (a = b))]) (fun k _ => a.take k = b.take k)
    (fun m s h => by
      simp only [hL, List.length_map]
      refine wp_ndec (by omega) (wp_ret ?_)
      rw [List.take_of_length_le (Nat.le_refl _), List.take_of_length_le (by omega)] at h
      rw [decide_eq_true h])
    (fun m k s hk h ih => by
      have ha : a[k]? = some a[k] := List.getElem?_eq_getElem _
      have hb : b[k]? = some (b[k]'(by omega)) := List.getElem?_eq_getElem _
      simp only [hL, List.length_map, Int.toNat_natCast, getD_map ha, getD_map hb, int_bne]
      refine wp_dec (by omega) (wp_dec (by omega) (wp_dec (by omega) (wp_dec (by omega) (wp_dec (by omega) (wp_decs (fun hne => wp_ret ?_) (fun heq => ?_))))))
      · rw [decide_eq_false]
        rintro rfl
        exact hne rfl
      · rw [wrap_succ (by omega)]
        refine ih () ?_
        have : a[k] = b[k] := hf _ _ (Classical.not_not.1 heq)
        rw [List.take_succ_eq_append_getElem hk, List.take_succ_eq_append_getElem (by omega), h, this])
    (a.length + 1) 0 () (by omega) (by omega) (by simp)
  exact key
theorem dB_inj {k : Nat} (x y : BitVec k) (h : (dB x).toInt = (dB y).toInt) : x = y := BitVec.eq_of_toNat_eq (Int.ofNat.inj h)
theorem ref02_Same_sp (a b : List Limb) (ha : a.length ≤ 9223372036854775807) : Sp 94 [dL a, dL b] [.bool (decide (a = b))] := by
  refine sound_ (a.length + 1) (ref02_Same_tree _ _ _) ?_
  simp only [els_dL, List.length_map, int_bne]
  refine wp_decs (fun h => wp_ret ?_) (fun h => ?_)
  · rw [decide_eq_false]; rintro rfl; exact h rfl
  · exact eq_loop dB dB_inj a b (by omega) ha (fun m i => ref02_Same_l4 (a.length + 1) m (dL a) (dL b) i) (fun m i => ref02_Same_l4_succ _ _ _ _ _)
end Go.Proofs.YtcdjifdllibolaaGreat

set_option maxRecDepth 100000
namespace Go.Proofs.YtcdjifdllibolaaGreat
end Go.Proofs.YtcdjifdllibolaaGreat

set_option maxRecDepth 100000
namespace Go.Proofs.YtcdjifdllibolaaGreat

theorem or_bits (a b : Lab) : bits_ .or .u64 (a.toNat : Int) (b.toNat : Int) = ((a ||| b).toNat : Int) := by
  show IntKind.wrap .u64 ((BitVec.ofInt 64 (a.toNat : Int) ||| BitVec.ofInt 64 (b.toNat : Int)).toNat : Int) = _
  have h := (a ||| b).isLt
  rw [show BitVec.ofInt 64 (a.toNat : Int) = a by simp, show BitVec.ofInt 64 (b.toNat : Int) = b by simp]
  exact wrapU64 (Int.natCast_nonneg _) (Int.ofNat_lt.2 h)
end Go.Proofs.YtcdjifdllibolaaGreat

set_option maxRecDepth 100000
namespace Go.Proofs.YtcdjifdllibolaaGreat

structure Wh where
  neg : Bool
  mag : List Limb
def dW (w : Wh) : D := .agg [.bool w.neg, dL w.mag]
def zv (w : Wh) : Int := if w.neg then -(nv w.mag : Int) else (nv w.mag : Int)
def wz (z : Int) : Wh := ⟨decide (z < 0), lb z.natAbs⟩
@[simp] theorem dW_0 (w : Wh) : (dW w).fld 0 = .bool w.neg := rfl
@[simp] theorem dW_1 (w : Wh) : (dW w).fld 1 = dL w.mag := rfl
theorem zv_abs (w : Wh) : (zv w).natAbs = nv w.mag := by unfold zv; split <;> omega
theorem wz_len (w : Wh) : (lb (zv w).natAbs).length ≤ w.mag.length := by rw [zv_abs]; exact lb_len.2 (nv_lt _)
theorem zv_wz (z : Int) : zv (wz z) = z := by
  unfold zv wz
  simp only [nv_lb, decide_eq_true_eq]
  split <;> omega
theorem zv_lb (b : Bool) (n : Nat) : zv ⟨b, lb n⟩ = if b then -(n : Int) else (n : Int) := by simp only [zv, nv_lb]
theorem wz_zero : wz 0 = ⟨false, []⟩ := by simp [wz, lb_zero]
theorem wz_of (b : Bool) {n : Nat} (h : n ≠ 0) : wz (if b then -(n : Int) else (n : Int)) = ⟨b, lb n⟩ := by
  cases b <;> simp [wz] <;> omega
theorem wz_zv (w : Wh) : wz (zv w) = if nv w.mag = 0 then ⟨false, []⟩ else ⟨w.neg, lb (nv w.mag)⟩ := by
  split
  · rename_i h
    unfold zv; rw [h]; simp [wz_zero]
  · rename_i h
    unfold zv
    exact wz_of _ h
theorem bool_beq (a b : Bool) : (a == b) = decide (a = b) := by cases a <;> cases b <;> rfl
def inR (z : Int) : Prop := -9223372036854775808 ≤ z ∧ z ≤ 9223372036854775807
instance (z : Int) : Decidable (inR z) := by unfold inR; infer_instance
theorem ref03_Norm_sp (w : Wh) (h : w.mag.length ≤ 1000000) : Sp 21 [dW w] [dW (wz (zv w))] := by
  refine sound_ 0 (ref03_Norm_tree _ _) (wp_call (ref02_Norm_sp w.mag h) ?_)
  simp only [getD_c0, els_dL, List.length_map, int_beq, dW_0, toBool_bool]
  refine wp_decs (fun h => wp_ret ?_) (fun h => wp_ret ?_)
  · have h0 : nv w.mag = 0 := lb_len0.1 (by omega)
    rw [wz_zv, if_pos h0]; rfl
  · have h0 : nv w.mag ≠ 0 := fun hh => h (by rw [hh, lb_zero]; rfl)
    rw [wz_zv, if_neg h0]; rfl
theorem two_limbs {n : Nat} (h : n < 18446744073709551616) : nv [BitVec.ofNat 32 (n % 4294967296), BitVec.ofNat 32 (n / 4294967296)] = n := by
  simp only [nv, nv_nil]
  rw [ofNat_lt (by rw [B_eq]; omega), ofNat_lt (by rw [B_eq]; omega), B_eq]; omega
theorem ref03_Of_sp (z : Int) (h : inR z) : Sp 17 [.int z] [dW (wz z)] := by
  unfold inR at h
  refine sound_ 0 (ref03_Of_tree _ _) ?_
  simp only [toInt_int]
  refine wp_decs (fun h0 => ?_) (fun h0 => ?_)
  · obtain ⟨n, rfl⟩ : ∃ n : Nat, z = n := ⟨z.toNat, by omega⟩
    have e : [D.int (IntKind.wrap .u32 (Int.tmod (n : Int) 4294967296)), D.int (IntKind.wrap .u32 (IntKind.wrap .i64 (Int.tdiv (n : Int) 4294967296)))] = [BitVec.ofNat 32 (n % 4294967296), BitVec.ofNat 32 (n / 4294967296)].map dB := by
      rw [Int.tmod_eq_emod_of_nonneg (by omega), Int.tdiv_eq_ediv_of_nonneg (by omega), show (n : Int) % 4294967296 = ((n % 4294967296 : Nat) : Int) by omega, show (n : Int) / 4294967296 = ((n / 4294967296 : Nat) : Int) by omega,
        wrap64 (by omega) (by omega), wrapU32 (by omega) (by omega), wrapU32 (by omega) (by omega), dB_ofNat (by rw [B_eq]; omega), dB_ofNat (by rw [B_eq]; omega)]; rfl
    rw [e]
    have hv := two_limbs (n := n) (by omega)
    refine wp_tt (by decide) (wp_tt (by decide) (wp_call (ref03_Norm_sp ⟨false, [BitVec.ofNat 32 (n % 4294967296), BitVec.ofNat 32 (n / 4294967296)]⟩ (by simp)) (wp_ret ?_)))
    simp only [getD_c0, zv, hv]; rfl
  · obtain ⟨n, rfl⟩ : ∃ n : Nat, z = -1 - (n : Int) := ⟨(-1 - z).toNat, by omega⟩
    have e : [D.int (IntKind.wrap .u32 (Int.tmod (IntKind.wrap .i64 (-1 - (-1 - (n : Int)))) 4294967296)), D.int (IntKind.wrap .u32 (IntKind.wrap .i64 (Int.tdiv (IntKind.wrap .i64 (-1 - (-1 - (n : Int)))) 4294967296)))] = [BitVec.ofNat 32 (n % 4294967296), BitVec.ofNat 32 (n / 4294967296)].map dB := by
      rw [show (-1 : Int) - (-1 - (n : Int)) = (n : Int) by omega, wrap64 (x := (n : Int)) (by omega) (by omega), Int.tmod_eq_emod_of_nonneg (by omega), Int.tdiv_eq_ediv_of_nonneg (by omega), show (n : Int) % 4294967296 = ((n % 4294967296 : Nat) : Int) by omega, show (n : Int) / 4294967296 = ((n / 4294967296 : Nat) : Int) by omega,
        wrap64 (by omega) (by omega), wrapU32 (by omega) (by omega), wrapU32 (by omega) (by omega), dB_ofNat (by rw [B_eq]; omega), dB_ofNat (by rw [B_eq]; omega)]; rfl
    rw [e]
    have hv := two_limbs (n := n) (by omega)
    have sp := ref02_Add_sp [BitVec.ofNat 32 (n % 4294967296), BitVec.ofNat 32 (n / 4294967296)] [1] (by simp) (by simp)
    rw [hv, show nv [1] = 1 from rfl] at sp
    refine wp_tt (by decide) (wp_tt (by decide) (wp_call sp ?_))
    simp only [getD_c0]
    have hl : (lb (n + 1)).length ≤ 3 := lb_len.2 (by show n + 1 < 79228162514264337593543950336; omega)
    refine wp_call (ref03_Norm_sp ⟨true, lb (n + 1)⟩ (by simp only; omega)) (wp_ret ?_)
    simp only [getD_c0, zv_lb, if_true]
    rw [show -((n + 1 : Nat) : Int) = -1 - (n : Int) by omega]
theorem nat_trim_sp (l : List Limb) (hl : l.length < 9223372036854775807) : Sp 74 [dL l] [dL (lb (nv l))] := by
  refine sound_ (l.length + 1) (nat_trim_tree _ _) ?_
  have := loop_down (P := Tryz.prog) (md := md) (fun m k (_ : Unit) => nat_trim_l2 (l.length + 1) m (dL l) (k : Int)) (fun _ _ => [dL (lb (nv l))]) (fun k _ => k ≤ l.length ∧ ∀ i, k ≤ i → (hi : i < l.length) → l[i] = 0)
    (fun m s ⟨h1, h2⟩ => by
      simp only [nat_trim_l2_succ, els_dL, List.length_map, List.length_take]
      refine wp_ndec (by omega) (wp_dec (by omega) (wp_dec (by omega) (wp_dec (by omega) (wp_ret ?_))))
      rw [lb_take (k := 0) (by omega) h2 (fun _ h => by omega), dL_take]; rfl)
    (fun m k s ⟨h1, h2⟩ ih => by
      have hk : l[k]? = some l[k] := List.getElem?_eq_getElem _
      simp only [nat_trim_l2_succ, els_dL, List.length_map, List.length_take, wrap_pred k (by omega), Int.toNat_natCast, getD_map hk, toInt_dB, int_beq]
      refine wp_dec (by omega) (wp_dec (by omega) (wp_dec (by omega) (wp_decs (fun h => ?_) (fun h => ?_))))
      · refine ih () ⟨by omega, fun i hi hlt => ?_⟩
        by_cases he : i = k
        · subst he; exact BitVec.eq_of_toNat_eq (by simp; omega)
        · exact h2 i (by omega) hlt
      · refine wp_dec (by omega) (wp_dec (by omega) (wp_dec (by omega) (wp_ret ?_)))
        rw [lb_take (k := k + 1) (by omega) h2 (fun _ _ hc => h (by have hc' : l[k] = 0 := hc; rw [hc']; rfl)), dL_take])
    (l.length + 1) l.length () (by omega) ⟨Nat.le_refl _, fun i h1 h2 => by omega⟩
  simpa using this
theorem nat_Norm_sp (l : List Limb) (hl : l.length ≤ 1000000) : Sp 78 [dL l] [dL (lb (nv l))] := by
  refine sound_ 0 (nat_Norm_tree _ _) (wp_call (nat_trim_sp l (by omega)) ?_)
  have h1 : (lb (nv l)).length ≤ l.length := lb_len.2 (nv_lt l)
  simp only [getD_c0, els_dL, List.length_map, List.length_replicate, Int.toNat_natCast]
  refine wp_dec (by omega) (wp_dec (by omega) (wp_dec (by unfold bigN; omega) (wp_ret ?_)))
  rw [List.take_of_length_le (by simp), List.drop_eq_nil_of_le (by simp), List.append_nil]; rfl
theorem fdiv32 (x : Nat) : Int.fdiv (x : Int) (2 ^ (min (Int.toNat 32) (IntKind.bits .u64))) = ((x / 4294967296 : Nat) : Int) := by
  show Int.fdiv (x : Int) 4294967296 = _
  rw [Int.fdiv_eq_ediv_of_nonneg _ (by omega)]; omega
theorem or_limb {x d : Nat} (hx : x < 4294967296) (hd : d < 4294967296) : bits_ .or .u64 (x : Int) ((d * 4294967296 : Nat) : Int) = ((x + d * 4294967296 : Nat) : Int) := by
  have h := or_bits (BitVec.ofNat 64 x) (BitVec.ofNat 64 (d * 4294967296))
  rw [BitVec.toNat_or, BitVec.toNat_ofNat, BitVec.toNat_ofNat, Nat.mod_eq_of_lt (a := x) (by omega), Nat.mod_eq_of_lt (a := d * 4294967296) (by omega)] at h
  rw [h]
  congr 1
  have := Nat.two_pow_add_eq_or_of_lt (i := 32) (b := x) (by omega) d
  rw [show 2 ^ 32 * d = d * 4294967296 by omega] at this
  rw [Nat.or_comm, ← this]; omega
end Go.Proofs.YtcdjifdllibolaaGreat

set_option maxRecDepth 100000
namespace Go.Proofs.YtcdjifdllibolaaGreat
open Go.ChangeShapes Go.WideShapes Go.ChangeAt Go.RowKit

theorem wtypes_at {fs : List Field} {ts : List Nat} (h : fs.map (·.type) = ts) {i t : Nat} (ht : ts[i]? = some t) : ∃ f, fs[i]? = some f ∧ f.type = t := by
  subst h
  simpa [List.getElem?_map, Option.map_eq_some_iff] using ht
section
variable {H : Type} {enc : TypeId × Value → H} {W : World} {sp : Nat → Bool} {held : Bool} {r : Reach} {b0 : Nat} {v : Value} {d : DataW H} {ps : List MemPlace}
end
end Go.Proofs.YtcdjifdllibolaaGreat

set_option maxRecDepth 100000
namespace Go.Proofs.YtcdjifdllibolaaGreat
open Go.ChangeShapes Go.WideShapes Go.ChangeAt Go.RowKit

theorem nlen3 {α : Type} {l : List α} (h : l.length = 3) : ∃ a b c, l = [a, b, c] := by
  match l, h with
  | [a, b, c], _ => exact ⟨a, b, c, rfl⟩
theorem nfields_Num : (fieldsOf Tryz.prog 24).map (fun fs => fs.map (·.type)) = some [4, 22, 22] := by kernel_rfl
theorem nrd_num {w : World} {M : Nat → Prop} {y : D} {c : Nat → Option Value} (h : RdC Tryz.prog md w M (.ty 24) y c) : ∃ n : Num, y = dN n ∧ n.top.length ≤ maxLen ∧ n.bot.length ≤ maxLen := by
  obtain ⟨fs, hf, ht⟩ := Option.map_eq_some_iff.1 nfields_Num
  obtain ⟨ds, rfl, hl, hh⟩ := rd_struct h hf
  have : fs.length = 3 := by rw [← List.length_map (f := (·.type)), ht]; rfl
  obtain ⟨a, b, c, rfl⟩ := nlen3 (by rw [hl, this])
  obtain ⟨f0, hf0, e0⟩ := wtypes_at ht (i := 0) rfl
  obtain ⟨f1, hf1, e1⟩ := wtypes_at ht (i := 1) rfl
  obtain ⟨f2, hf2, e2⟩ := wtypes_at ht (i := 2) rfl
  obtain ⟨_, h0⟩ := hh 0 f0 a hf0 rfl
  obtain ⟨_, h1⟩ := hh 1 f1 b hf1 rfl
  obtain ⟨_, h2⟩ := hh 2 f2 c hf2 rfl
  rw [e0] at h0; rw [e1] at h1; rw [e2] at h2
  obtain ⟨n, rfl⟩ := rd_bool h0 (by kernel_rfl)
  obtain ⟨t, rfl, l1⟩ := rd_limbs h1 (e := 41) (by kernel_rfl) (by kernel_rfl)
  obtain ⟨t', rfl, l2⟩ := rd_limbs h2 (e := 41) (by kernel_rfl) (by kernel_rfl)
  exact ⟨⟨n, t, t'⟩, rfl, l1, l2⟩
section
variable {H : Type} {enc : TypeId × Value → H} {W : World} {sp : Nat → Bool} {held : Bool} {r : Reach} {b0 : Nat} {v : Value} {d : DataW H} {ps : List MemPlace}
end
end Go.Proofs.YtcdjifdllibolaaGreat

set_option maxRecDepth 100000
namespace Go.Proofs.YtcdjifdllibolaaGreat
/-! scrim/scrimref04.Of -/
def ref04_Of_orc : List (Nat × Orc) := []
theorem ref04_Of_tree (n : Nat) (nn0 : D) : evFun Tryz.prog md ref04_Of_orc n 13 [] [nn0] =
 .call 17 [] [D.int nn0.toInt] fun yy1 =>
 .call 16 [] [yy1.getD 0 D.nil] fun yy2 =>
 .ret [yy2.getD 0 D.nil] := by kernel_rfl

/-! scrim/scrimref04.Whole -/
def ref04_Whole_orc : List (Nat × Orc) := []
theorem ref04_Whole_tree (n : Nat) (nn0 : D) : evFun Tryz.prog md ref04_Whole_orc n 16 [] [nn0] =
 .call 21 [] [nn0] fun yy1 =>
 .ret [D.agg [D.bool (((yy1.getD 0 D.nil).fld 0).toBool), (yy1.getD 0 D.nil).fld 1, D.sl [D.int 1]]] := by kernel_rfl

/-! scrim/ratio.Same -/
def ratio_Same_orc : List (Nat × Orc) := []
theorem ratio_Same_tree (n : Nat) (a0 : D) (b1 : D) : evFun Tryz.prog md ratio_Same_orc n 23 [] [a0, b1] =
 .br (((a0.fld 0).toBool) == ((b1.fld 0).toBool)) (.call 53 [] [a0.fld 1, b1.fld 1] fun yy1 =>
 .br ((yy1.getD 0 D.nil).toBool) (.call 53 [] [a0.fld 2, b1.fld 2] fun yy2 =>
 .ret [D.bool ((yy2.getD 0 D.nil).toBool)])
 (.ret [D.bool false]))
 (.ret [D.bool false]) := by kernel_rfl

/-! scrim/ratio.Right -/
def ratio_Right_orc : List (Nat × Orc) := []
theorem ratio_Right_tree (n : Nat) (a0 : D) : evFun Tryz.prog md ratio_Right_orc n 24 [] [a0] =
 .call 54 [] [a0.fld 1] fun yy1 =>
 .br (!((yy1.getD 0 D.nil).toBool)) (.ret [D.bool false])
 (.call 54 [] [a0.fld 2] fun yy2 =>
 .br (!((yy2.getD 0 D.nil).toBool)) (.ret [D.bool false])
 (.br ((((a0.fld 2).els).length : Int) == 0) (.ret [D.bool false])
 (.br ((((a0.fld 1).els).length : Int) == 0) (.br ((a0.fld 0).toBool) (.ret [D.bool false])
 (.call 55 [] [a0.fld 2] fun yy3 =>
 .br ((yy3.getD 0 D.nil).toBool) (.ret [D.bool true])
 (.call 56 [] [a0.fld 1, a0.fld 2] fun yy4 =>
 .call 55 [] [yy4.getD 0 D.nil] fun yy5 =>
 .ret [D.bool ((yy5.getD 0 D.nil).toBool)])))
 (.call 55 [] [a0.fld 2] fun yy6 =>
 .br ((yy6.getD 0 D.nil).toBool) (.ret [D.bool true])
 (.call 56 [] [a0.fld 1, a0.fld 2] fun yy7 =>
 .call 55 [] [yy7.getD 0 D.nil] fun yy8 =>
 .ret [D.bool ((yy8.getD 0 D.nil).toBool)]))))) := by kernel_rfl

/-! scrim/ratio.trimmed -/
def ratio_trimmed_orc : List (Nat × Orc) := []
theorem ratio_trimmed_tree (n : Nat) (a0 : D) : evFun Tryz.prog md ratio_trimmed_orc n 54 [] [a0] =
 .br (decide ((a0.els.length : Int) ≤ 32)) (.br ((a0.els.length : Int) == 0) (.ret [D.bool true])
 (.br (decide (0 ≤ IntKind.wrap .i64 ((a0.els.length : Int) - 1))) (.br (decide (IntKind.wrap .i64 ((a0.els.length : Int) - 1) < (a0.els.length : Int))) (.ret [D.bool (((a0.els.getD (Int.toNat (IntKind.wrap .i64 ((a0.els.length : Int) - 1))) D.nil).toInt) != 0)]) .fail) .fail))
 (.ret [D.bool false]) := by kernel_rfl

/-! scrim/ratio.isOne -/
def ratio_isOne_orc : List (Nat × Orc) := []
theorem ratio_isOne_tree (n : Nat) (a0 : D) : evFun Tryz.prog md ratio_isOne_orc n 55 [] [a0] =
 .br ((a0.els.length : Int) == 1) (.br (decide (0 ≤ 0)) (.br (decide (0 < (a0.els.length : Int))) (.ret [D.bool (((a0.els.getD (Int.toNat 0) D.nil).toInt) == 1)]) .fail) .fail)
 (.ret [D.bool false]) := by kernel_rfl

/-! scrim/scrimref04.Right -/
def ref04_Right_orc : List (Nat × Orc) := []
theorem ref04_Right_tree (n : Nat) (a0 : D) : evFun Tryz.prog md ref04_Right_orc n 71 [] [a0] =
 .br (decide (32 < (((a0.fld 1).els).length : Int))) (.ret [D.bool false])
 (.br (decide (32 < (((a0.fld 2).els).length : Int))) (.ret [D.bool false])
 (.call 85 [] [a0] fun yy1 =>
 .call 86 [] [a0] fun yy2 =>
 .call 84 [] [yy1.getD 0 D.nil, yy2.getD 0 D.nil] fun yy3 =>
 .br (((yy3.getD 1 D.nil).toInt) == 0) (.call 87 [] [a0, yy3.getD 0 D.nil] fun yy4 =>
 .ret [D.bool ((yy4.getD 0 D.nil).toBool)])
 (.ret [D.bool false]))) := by kernel_rfl

/-! scrim/scrimref04.Make -/
def ref04_Make_orc : List (Nat × Orc) := []
theorem ref04_Make_tree (n : Nat) (p0 : D) (q1 : D) : evFun Tryz.prog md ref04_Make_orc n 84 [] [p0, q1] =
 .call 21 [] [p0] fun yy1 =>
 .call 21 [] [q1] fun yy2 =>
 .br (((((yy2.getD 0 D.nil).fld 1).els).length : Int) == 0) (.ret [D.agg [D.bool false, D.sl [], D.sl []], D.int 3])
 (.call 92 [] [(yy1.getD 0 D.nil).fld 1, (yy2.getD 0 D.nil).fld 1] fun yy3 =>
 .call 93 [] [(yy1.getD 0 D.nil).fld 1, yy3.getD 0 D.nil] fun yy4 =>
 .call 93 [] [(yy2.getD 0 D.nil).fld 1, yy3.getD 0 D.nil] fun yy5 =>
 .br (decide (32 < (((yy4.getD 0 D.nil).els).length : Int))) (.ret [D.agg [D.bool false, D.sl [], D.sl []], D.int 7])
 (.br (decide (32 < (((yy5.getD 0 D.nil).els).length : Int))) (.ret [D.agg [D.bool false, D.sl [], D.sl []], D.int 7])
 (.br (decide (0 < (((yy4.getD 0 D.nil).els).length : Int))) (.ret [D.agg [D.bool (!((((yy1.getD 0 D.nil).fld 0).toBool) == (((yy2.getD 0 D.nil).fld 0).toBool))), yy4.getD 0 D.nil, yy5.getD 0 D.nil], D.int 0])
 (.ret [D.agg [D.bool false, yy4.getD 0 D.nil, yy5.getD 0 D.nil], D.int 0])))) := by kernel_rfl

/-! scrim/scrimref04.Top -/
def ref04_Top_orc : List (Nat × Orc) := []
theorem ref04_Top_tree (n : Nat) (a0 : D) : evFun Tryz.prog md ref04_Top_orc n 85 [] [a0] =
 .call 21 [] [D.agg [D.bool ((a0.fld 0).toBool), a0.fld 1]] fun yy1 =>
 .ret [yy1.getD 0 D.nil] := by kernel_rfl

/-! scrim/scrimref04.Bot -/
def ref04_Bot_orc : List (Nat × Orc) := []
theorem ref04_Bot_tree (n : Nat) (a0 : D) : evFun Tryz.prog md ref04_Bot_orc n 86 [] [a0] =
 .call 21 [] [D.agg [D.bool false, a0.fld 2]] fun yy1 =>
 .ret [yy1.getD 0 D.nil] := by kernel_rfl

/-! scrim/scrimref04.Same -/
def ref04_Same_orc : List (Nat × Orc) := []
theorem ref04_Same_tree (n : Nat) (a0 : D) (b1 : D) : evFun Tryz.prog md ref04_Same_orc n 87 [] [a0, b1] =
 .br (((a0.fld 0).toBool) == ((b1.fld 0).toBool)) (.call 94 [] [a0.fld 1, b1.fld 1] fun yy1 =>
 .br ((yy1.getD 0 D.nil).toBool) (.call 94 [] [a0.fld 2, b1.fld 2] fun yy2 =>
 .ret [D.bool ((yy2.getD 0 D.nil).toBool)])
 (.ret [D.bool false]))
 (.ret [D.bool false]) := by kernel_rfl

end Go.Proofs.YtcdjifdllibolaaGreat

set_option maxRecDepth 100000
namespace Go.Proofs.YtcdjifdllibolaaGreat
/-! slices.ContainsFunc[[]int,int] -/
def slices_ContainsFunc_int_int_orc : List (Nat × Orc) := []
theorem slices_ContainsFunc_int_int_tree_tree_held_1 (n : Nat) (s0 : D)  : evFun Tryz.prog md slices_ContainsFunc_int_int_orc n 25 [] [s0, (D.fn 26 [] [])] =
 .call 57 [] [s0, (D.fn 26 [] [])] fun yy1 =>
 .ret [D.bool (decide (0 ≤ ((yy1.getD 0 D.nil).toInt)))] := by kernel_rfl

/-! slices.Contains[[]int,int] -/
def slices_Contains_int_int_orc : List (Nat × Orc) := []
theorem slices_Contains_int_int_tree (n : Nat) (s0 : D) (v1 : D) : evFun Tryz.prog md slices_Contains_int_int_orc n 30 [] [s0, v1] =
 .call 59 [] [s0, D.int v1.toInt] fun yy1 =>
 .ret [D.bool (decide (0 ≤ ((yy1.getD 0 D.nil).toInt)))] := by kernel_rfl

/-! slices.Equal[[]uint32,uint32] -/
def slices_Equal_uint32_uint32_orc : List (Nat × Orc) := [(4, ⟨[(0, some 22), (1, some 22), (12, none), (13, none)], [], []⟩)]
def slices_Equal_uint32_uint32_ps : List Nat := [22, 22]
def slices_Equal_uint32_uint32_rs : List ResultVar := [.tmp 4]
def slices_Equal_uint32_uint32_ts : List Nat := [4]
noncomputable def slices_Equal_uint32_uint32_l4 (n m4 : Nat) (s10 : D) (s21 : D) (t12 : Int) (t13 : Int) : Tree :=
  evLoop Tryz.prog md (ev Tryz.prog md n slices_Equal_uint32_uint32_orc (cAt (bodyOf Tryz.prog 53) [1, 1, 0, 1, 0, 0])) (orcAt slices_Equal_uint32_uint32_orc 4) m4 ⟨[.d 22 s10, .d 22 s21, .undef, .undef, .undef, .undef, .undef, .undef, .undef, .undef, .undef, .undef, .i .i64 t12, .i .i64 t13, .undef, .undef, .undef, .undef, .undef, .undef, .undef, .undef, .undef, .undef, .undef, .undef], [], [], [], []⟩
   (blockK 0 (seqK (joinE Tryz.prog md (joinAt slices_Equal_uint32_uint32_orc (cAt (bodyOf Tryz.prog 53) [1, 1, 1])) (ev Tryz.prog md n slices_Equal_uint32_uint32_orc (cAt (bodyOf Tryz.prog 53) [1, 1, 1]))) (retK Tryz.prog md (md 53) slices_Equal_uint32_uint32_ps slices_Equal_uint32_uint32_rs slices_Equal_uint32_uint32_ts)))
theorem slices_Equal_uint32_uint32_l4_succ (n m4 : Nat) (s10 : D) (s21 : D) (t12 : Int) (t13 : Int) : slices_Equal_uint32_uint32_l4 n (m4 + 1) s10 s21 t12 t13 =
 .br (decide (t13 < t12)) (.br (decide (0 ≤ t13)) (.br (decide (t13 < (s10.els.length : Int))) (.br (decide (0 ≤ t13)) (.br (decide (t13 < (s21.els.length : Int))) (.br (((s10.els.getD (Int.toNat t13) D.nil).toInt) != ((s21.els.getD (Int.toNat t13) D.nil).toInt)) (.ret [D.bool false])
 (slices_Equal_uint32_uint32_l4 n m4 s10 s21 t12 (IntKind.wrap .i64 (t13 + 1)))) .fail) .fail) .fail) .fail)
 (.ret [D.bool true]) := by kernel_rfl
theorem slices_Equal_uint32_uint32_tree (n : Nat) (s10 : D) (s21 : D) : evFun Tryz.prog md slices_Equal_uint32_uint32_orc n 53 [] [s10, s21] =
 .br ((s10.els.length : Int) != (s21.els.length : Int)) (.ret [D.bool false])
 (slices_Equal_uint32_uint32_l4 n n s10 s21 (s10.els.length : Int) 0) := by kernel_rfl

/-! slices.IndexFunc[[]int,int] -/
def slices_IndexFunc_int_int_orc : List (Nat × Orc) := [(2, ⟨[(0, some 25), (1, some 46), (7, none), (8, none)], [], []⟩)]
def slices_IndexFunc_int_int_ps : List Nat := [25, 46]
def slices_IndexFunc_int_int_rs : List ResultVar := [.tmp 4]
def slices_IndexFunc_int_int_ts : List Nat := [3]
noncomputable def slices_IndexFunc_int_int_l2 (n m2 : Nat) (s0 : D) (f1 : D) (t7 : Int) (t8 : Int) : Tree :=
  evLoop Tryz.prog md (ev Tryz.prog md n slices_IndexFunc_int_int_orc (cAt (bodyOf Tryz.prog 57) [1, 0, 1, 0, 0])) (orcAt slices_IndexFunc_int_int_orc 2) m2 ⟨[.d 25 s0, .d 46 f1, .undef, .undef, .undef, .undef, .undef, .i .i64 t7, .i .i64 t8, .undef, .undef, .undef, .undef, .undef, .undef, .undef, .undef, .undef, .undef], [], [], [], []⟩
   (blockK 0 (seqK (joinE Tryz.prog md (joinAt slices_IndexFunc_int_int_orc (cAt (bodyOf Tryz.prog 57) [1, 1])) (ev Tryz.prog md n slices_IndexFunc_int_int_orc (cAt (bodyOf Tryz.prog 57) [1, 1]))) (retK Tryz.prog md (md 57) slices_IndexFunc_int_int_ps slices_IndexFunc_int_int_rs slices_IndexFunc_int_int_ts)))
theorem slices_IndexFunc_int_int_l2_succ_tree_held_1 (n m2 : Nat) (s0 : D)  (t7 : Int) (t8 : Int) : slices_IndexFunc_int_int_l2 n (m2 + 1) s0 (D.fn 26 [] []) t7 t8 =
 .br (decide (t8 < t7)) (.br (decide (0 ≤ t8)) (.br (decide (t8 < (s0.els.length : Int))) (.call (D.fn 26 [] []).fnId (D.fn 26 [] []).fnCts ([D.int ((s0.els.getD (Int.toNat t8) D.nil).toInt)] ++ (D.fn 26 [] []).fnDs) fun yy1 =>
 .br ((yy1.getD 0 D.nil).toBool) (.ret [D.int t8])
 (slices_IndexFunc_int_int_l2 n m2 s0 (D.fn 26 [] []) t7 (IntKind.wrap .i64 (t8 + 1)))) .fail) .fail)
 (.ret [D.int (-1)]) := by kernel_rfl
theorem slices_IndexFunc_int_int_tree_tree_held_1 (n : Nat) (s0 : D)  : evFun Tryz.prog md slices_IndexFunc_int_int_orc n 57 [] [s0, (D.fn 26 [] [])] =
 slices_IndexFunc_int_int_l2 n n s0 (D.fn 26 [] []) (s0.els.length : Int) 0 := by kernel_rfl

/-! slices.Index[[]int,int] -/
def slices_Index_int_int_orc : List (Nat × Orc) := [(2, ⟨[(0, some 25), (1, none), (7, none), (8, none)], [], []⟩)]
def slices_Index_int_int_ps : List Nat := [25, 3]
def slices_Index_int_int_rs : List ResultVar := [.tmp 4]
def slices_Index_int_int_ts : List Nat := [3]
noncomputable def slices_Index_int_int_l2 (n m2 : Nat) (s0 : D) (v1 : Int) (t7 : Int) (t8 : Int) : Tree :=
  evLoop Tryz.prog md (ev Tryz.prog md n slices_Index_int_int_orc (cAt (bodyOf Tryz.prog 59) [1, 0, 1, 0, 0])) (orcAt slices_Index_int_int_orc 2) m2 ⟨[.d 25 s0, .i .i64 v1, .undef, .undef, .undef, .undef, .undef, .i .i64 t7, .i .i64 t8, .undef, .undef, .undef, .undef, .undef, .undef, .undef, .undef, .undef, .undef], [], [], [], []⟩
   (blockK 0 (seqK (joinE Tryz.prog md (joinAt slices_Index_int_int_orc (cAt (bodyOf Tryz.prog 59) [1, 1])) (ev Tryz.prog md n slices_Index_int_int_orc (cAt (bodyOf Tryz.prog 59) [1, 1]))) (retK Tryz.prog md (md 59) slices_Index_int_int_ps slices_Index_int_int_rs slices_Index_int_int_ts)))
theorem slices_Index_int_int_l2_succ (n m2 : Nat) (s0 : D) (v1 : Int) (t7 : Int) (t8 : Int) : slices_Index_int_int_l2 n (m2 + 1) s0 v1 t7 t8 =
 .br (decide (t8 < t7)) (.br (decide (0 ≤ t8)) (.br (decide (t8 < (s0.els.length : Int))) (.br (v1 == ((s0.els.getD (Int.toNat t8) D.nil).toInt)) (.ret [D.int t8])
 (slices_Index_int_int_l2 n m2 s0 v1 t7 (IntKind.wrap .i64 (t8 + 1)))) .fail) .fail)
 (.ret [D.int (-1)]) := by kernel_rfl
theorem slices_Index_int_int_tree (n : Nat) (s0 : D) (v1 : D) : evFun Tryz.prog md slices_Index_int_int_orc n 59 [] [s0, v1] =
 slices_Index_int_int_l2 n n s0 v1.toInt (s0.els.length : Int) 0 := by kernel_rfl

/-! slices.ContainsFunc[[]scrim/api.Expr,scrim/api.Expr] -/
def slices_ContainsFunc_api_Expr_api_Expr_orc : List (Nat × Orc) := []
theorem slices_ContainsFunc_api_Expr_api_Expr_tree_tree_each_1 (n : Nat) (s0 : D) (f1_c0 : D) : evFun Tryz.prog md slices_ContainsFunc_api_Expr_api_Expr_orc n 60 [] [s0, (D.fn 61 [.ref 29] [f1_c0])] =
 .call 80 [] [s0, (D.fn 61 [.ref 29] [f1_c0])] fun yy1 =>
 .ret [D.bool (decide (0 ≤ ((yy1.getD 0 D.nil).toInt)))] := by kernel_rfl

/-! slices.IndexFunc[[]scrim/api.Expr,scrim/api.Expr] -/
def slices_IndexFunc_api_Expr_api_Expr_orc : List (Nat × Orc) := [(2, ⟨[(0, some 26), (1, some 29), (7, none), (8, none)], [], []⟩)]
def slices_IndexFunc_api_Expr_api_Expr_ps : List Nat := [26, 29]
def slices_IndexFunc_api_Expr_api_Expr_rs : List ResultVar := [.tmp 4]
def slices_IndexFunc_api_Expr_api_Expr_ts : List Nat := [3]
noncomputable def slices_IndexFunc_api_Expr_api_Expr_l2 (n m2 : Nat) (s0 : D) (f1 : D) (t7 : Int) (t8 : Int) : Tree :=
  evLoop Tryz.prog md (ev Tryz.prog md n slices_IndexFunc_api_Expr_api_Expr_orc (cAt (bodyOf Tryz.prog 80) [1, 0, 1, 0, 0])) (orcAt slices_IndexFunc_api_Expr_api_Expr_orc 2) m2 ⟨[.d 26 s0, .d 29 f1, .undef, .undef, .undef, .undef, .undef, .i .i64 t7, .i .i64 t8, .undef, .undef, .undef, .undef, .undef, .undef, .undef, .undef, .undef, .undef], [], [], [], []⟩
   (blockK 0 (seqK (joinE Tryz.prog md (joinAt slices_IndexFunc_api_Expr_api_Expr_orc (cAt (bodyOf Tryz.prog 80) [1, 1])) (ev Tryz.prog md n slices_IndexFunc_api_Expr_api_Expr_orc (cAt (bodyOf Tryz.prog 80) [1, 1]))) (retK Tryz.prog md (md 80) slices_IndexFunc_api_Expr_api_Expr_ps slices_IndexFunc_api_Expr_api_Expr_rs slices_IndexFunc_api_Expr_api_Expr_ts)))
theorem slices_IndexFunc_api_Expr_api_Expr_l2_succ_tree_each_1 (n m2 : Nat) (s0 : D) (f1_c0 : D) (t7 : Int) (t8 : Int) : slices_IndexFunc_api_Expr_api_Expr_l2 n (m2 + 1) s0 (D.fn 61 [.ref 29] [f1_c0]) t7 t8 =
 .br (decide (t8 < t7)) (.br (decide (0 ≤ t8)) (.br (decide (t8 < (s0.els.length : Int))) (.call (D.fn 61 [.ref 29] [f1_c0]).fnId (D.fn 61 [.ref 29] [f1_c0]).fnCts ([s0.els.getD (Int.toNat t8) D.nil] ++ (D.fn 61 [.ref 29] [f1_c0]).fnDs) fun yy1 =>
 .br ((yy1.getD 0 D.nil).toBool) (.ret [D.int t8])
 (slices_IndexFunc_api_Expr_api_Expr_l2 n m2 s0 (D.fn 61 [.ref 29] [f1_c0]) t7 (IntKind.wrap .i64 (t8 + 1)))) .fail) .fail)
 (.ret [D.int (-1)]) := by kernel_rfl
theorem slices_IndexFunc_api_Expr_api_Expr_tree_tree_each_1 (n : Nat) (s0 : D) (f1_c0 : D) : evFun Tryz.prog md slices_IndexFunc_api_Expr_api_Expr_orc n 80 [] [s0, (D.fn 61 [.ref 29] [f1_c0])] =
 slices_IndexFunc_api_Expr_api_Expr_l2 n n s0 (D.fn 61 [.ref 29] [f1_c0]) (s0.els.length : Int) 0 := by kernel_rfl

end Go.Proofs.YtcdjifdllibolaaGreat

set_option maxRecDepth 100000
namespace Go.Proofs.YtcdjifdllibolaaGreat

def numT (n : Num) : Int := zv ⟨n.neg, n.top⟩
def numB (n : Num) : Int := (nv n.bot : Int)
def ofZ (z : Int) : Num := ⟨decide (z < 0), lb z.natAbs, [1]⟩
/-- In lowest terms; an error. -/
def mkR (p q : Int) : Num × Int :=
  if q = 0 then (.zero, 3)
  else if 32 < (lb (p.natAbs / Nat.gcd p.natAbs q.natAbs)).length ∨ 32 < (lb (q.natAbs / Nat.gcd p.natAbs q.natAbs)).length then (.zero, 7)
  else (⟨decide (0 < (lb (p.natAbs / Nat.gcd p.natAbs q.natAbs)).length) && !(decide (p < 0) == decide (q < 0)), lb (p.natAbs / Nat.gcd p.natAbs q.natAbs), lb (q.natAbs / Nat.gcd p.natAbs q.natAbs)⟩, 0)
def rightN (n : Num) : Bool := decide (n.top.length ≤ 32 ∧ n.bot.length ≤ 32 ∧ mkR (numT n) (numB n) = (n, 0))
theorem one_iff (l : List Limb) : (l = [1]) ↔ (l.length = 1 ∧ ∀ h : 0 < l.length, l[0].toNat = 1) := by
  constructor
  · rintro rfl; exact ⟨rfl, fun _ => rfl⟩
  · rintro ⟨h1, h2⟩
    match l, h1 with
    | [x], _ => have := h2 (by simp); simp at this; exact congrArg (· :: []) (BitVec.eq_of_toNat_eq (by simpa using this))
theorem one_tree {P : Program} {md : Nat → FMode} (l : List Limb) : (Tree.br (((l.map dB).length : Int) == 1) (.br (decide (0 ≤ (0 : Int))) (.br (decide (0 < ((l.map dB).length : Int))) (.ret [D.bool ((((l.map dB).getD (Int.toNat 0) D.nil).toInt) == 1)]) .fail) .fail) (.ret [D.bool false])).wp P md (fun zs => zs = [.bool (decide (l = [1]))]) := by
  simp only [List.length_map, int_beq]
  refine wp_decs (fun h => wp_dec (by omega) (wp_dec (by omega) (wp_ret ?_))) (fun h => wp_ret ?_)
  · have hg : l[0]? = some (l[0]'(by omega)) := List.getElem?_eq_getElem _
    rw [show Int.toNat 0 = 0 from rfl, getD_map hg, toInt_dB]
    congr 2
    rw [decide_eq_decide, one_iff]
    refine ⟨fun hh => ⟨by omega, fun _ => by omega⟩, fun hh => by have := hh.2 (by omega); omega⟩
  · rw [decide_eq_false]; rintro rfl; exact h rfl
theorem ratio_isOne_sp (l : List Limb) : Sp 55 [dL l] [.bool (decide (l = [1]))] := by
  refine sound_ 0 (ratio_isOne_tree _ _) ?_
  simp only [els_dL]
  exact one_tree l
theorem ref04_Top_sp (n : Num) (h : n.top.length ≤ 1000000) : Sp 85 [dN n] [dW (wz (numT n))] := by
  refine sound_ 0 (ref04_Top_tree _ _) ?_
  simp only [dN_0, dN_1, toBool_bool]
  exact wp_call (ref03_Norm_sp ⟨n.neg, n.top⟩ h) (wp_ret rfl)
theorem ref04_Bot_sp (n : Num) (h : n.bot.length ≤ 1000000) : Sp 86 [dN n] [dW (wz (numB n))] := by
  refine sound_ 0 (ref04_Bot_tree _ _) ?_
  simp only [dN_2]
  exact wp_call (ref03_Norm_sp ⟨false, n.bot⟩ h) (wp_ret rfl)
theorem ref04_Whole_sp (w : Wh) (h : w.mag.length ≤ 1000000) : Sp 16 [dW w] [dN (ofZ (zv w))] := by
  refine sound_ 0 (ref04_Whole_tree _ _) (wp_call (ref03_Norm_sp w h) (wp_ret rfl))
theorem ref04_Of_sp (z : Int) (h : inR z) : Sp 13 [.int z] [dN (ofZ z)] := by
  refine sound_ 0 (ref04_Of_tree _ _) (wp_call (ref03_Of_sp z h) ?_)
  have hl : (wz z).mag.length ≤ 2 := lb_len.2 (by unfold inR at h; show z.natAbs < 18446744073709551616; omega)
  refine wp_call (ref04_Whole_sp (wz z) (by omega)) (wp_ret ?_)
  rw [zv_wz]; rfl
theorem num_eq (a b : Num) : (a = b) ↔ (a.neg = b.neg ∧ a.top = b.top ∧ a.bot = b.bot) := by
  cases a; cases b; simp
theorem ref04_Same_sp (a b : Num) (h1 : a.top.length ≤ 9223372036854775807) (h2 : a.bot.length ≤ 9223372036854775807) : Sp 87 [dN a, dN b] [.bool (decide (a = b))] := by
  refine sound_ 0 (ref04_Same_tree _ _ _) ?_
  simp only [dN_0, dN_1, dN_2, toBool_bool, bool_beq]
  refine wp_decs (fun e1 => wp_call (ref02_Same_sp a.top b.top h1) ?_) (fun e1 => wp_ret ?_)
  · simp only [getD_c0, toBool_bool]
    refine wp_decs (fun e2 => wp_call (ref02_Same_sp a.bot b.bot h2) (wp_ret ?_)) (fun e2 => wp_ret ?_)
    · simp only [getD_c0, toBool_bool]
      congr 2
      rw [decide_eq_decide, num_eq]; simp [e1, e2]
    · rw [decide_eq_false]; rintro rfl; exact e2 rfl
  · rw [decide_eq_false]; rintro rfl; exact e1 rfl
theorem slices_EqualU_sp (a b : List Limb) (ha : a.length ≤ 9223372036854775807) : Sp 53 [dL a, dL b] [.bool (decide (a = b))] := by
  refine sound_ (a.length + 1) (slices_Equal_uint32_uint32_tree _ _ _) ?_
  simp only [els_dL, List.length_map, int_bne]
  refine wp_decs (fun h => wp_ret ?_) (fun h => ?_)
  · rw [decide_eq_false]; rintro rfl; exact h rfl
  · refine eq_loop dB dB_inj a b (by omega) ha (fun m i => slices_Equal_uint32_uint32_l4 (a.length + 1) m (dL a) (dL b) (a.length : Int) i) (fun m i => ?_)
    rw [slices_Equal_uint32_uint32_l4_succ]
    simp only [els_dL, List.length_map]
theorem ratio_Same_sp (a b : Num) (h1 : a.top.length ≤ 9223372036854775807) (h2 : a.bot.length ≤ 9223372036854775807) : Sp 23 [dN a, dN b] [.bool (decide (a = b))] := by
  refine sound_ 0 (ratio_Same_tree _ _ _) ?_
  simp only [dN_0, dN_1, dN_2, toBool_bool, bool_beq]
  refine wp_decs (fun e1 => wp_call (slices_EqualU_sp a.top b.top h1) ?_) (fun e1 => wp_ret ?_)
  · simp only [getD_c0, toBool_bool]
    refine wp_decs (fun e2 => wp_call (slices_EqualU_sp a.bot b.bot h2) (wp_ret ?_)) (fun e2 => wp_ret ?_)
    · simp only [getD_c0, toBool_bool]
      congr 2
      rw [decide_eq_decide, num_eq]; simp [e1, e2]
    · rw [decide_eq_false]; rintro rfl; exact e2 rfl
  · rw [decide_eq_false]; rintro rfl; exact e1 rfl
theorem ref04_Make_sp (p q : Wh) (hp : p.mag.length ≤ 1000) (hq : q.mag.length ≤ 1000) : Sp 84 [dW p, dW q] [dN (mkR (zv p) (zv q)).1, .int (mkR (zv p) (zv q)).2] := by
  refine sound_ 0 (ref04_Make_tree _ _ _) (wp_call (ref03_Norm_sp p (by omega)) (wp_call (ref03_Norm_sp q (by omega)) ?_))
  have lp := wz_len p
  have lq := wz_len q
  generalize zv p = x at *
  generalize zv q = y at *
  simp only [getD_c0, dW_0, dW_1, els_dL, List.length_map, toBool_bool, int_beq, wz]
  refine wp_decs (fun h => wp_ret ?_) (fun h => ?_)
  · have : y = 0 := by have := lb_len0.1 (show (lb y.natAbs).length = 0 by omega); omega
    unfold mkR; rw [if_pos this]; rfl
  · have hy : y ≠ 0 := fun hh => h (by rw [hh]; simp [lb_zero])
    have sp := ref02_Gcd_sp (lb x.natAbs) (lb y.natAbs) (by omega) (by omega)
    rw [nv_lb, nv_lb] at sp
    refine wp_call sp ?_
    simp only [getD_c0]
    have hg : Nat.gcd x.natAbs y.natAbs ≠ 0 := fun hh => hy (by have := (Nat.gcd_eq_zero_iff.1 hh).2; omega)
    have hgl : (lb (Nat.gcd x.natAbs y.natAbs)).length ≤ 1000 := by
      refine Nat.le_trans ?_ (Nat.le_trans lq hq)
      refine lb_len.2 (Nat.lt_of_le_of_lt (Nat.gcd_le_right _ (by omega)) (lb_len.1 (Nat.le_refl _)))
    have sp1 := ref02_DivMod_sp (lb x.natAbs) (lb (Nat.gcd x.natAbs y.natAbs)) (by omega) (by omega)
    have sp2 := ref02_DivMod_sp (lb y.natAbs) (lb (Nat.gcd x.natAbs y.natAbs)) (by omega) (by omega)
    rw [nv_lb, nv_lb] at sp1 sp2
    refine wp_call sp1 (wp_call sp2 ?_)
    simp only [getD_c0, els_dL, List.length_map]
    unfold mkR
    rw [if_neg hy]
    refine wp_decs (fun h1 => wp_ret ?_) (fun h1 => wp_decs (fun h2 => wp_ret ?_) (fun h2 => wp_decs (fun h3 => wp_ret ?_) (fun h3 => wp_ret ?_)))
    · rw [if_pos (by omega)]; rfl
    · rw [if_pos (by omega)]; rfl
    · rw [if_neg (by omega), decide_eq_true (p := 0 < (lb (x.natAbs / Nat.gcd x.natAbs y.natAbs)).length) (by omega), Bool.true_and]; rfl
    · rw [if_neg (by omega), decide_eq_false (p := 0 < (lb (x.natAbs / Nat.gcd x.natAbs y.natAbs)).length) (by omega), Bool.false_and]; rfl
theorem ref04_Right_sp (n : Num) : Sp 71 [dN n] [.bool (rightN n)] := by
  refine sound_ 0 (ref04_Right_tree _ _) ?_
  simp only [dN_1, dN_2, els_dL, List.length_map]
  unfold rightN
  refine wp_decs (fun h => wp_ret ?_) (fun h => wp_decs (fun h' => wp_ret ?_) (fun h' => ?_))
  · rw [decide_eq_false (by omega)]
  · rw [decide_eq_false (by omega)]
  · refine wp_call (ref04_Top_sp n (by omega)) (wp_call (ref04_Bot_sp n (by omega)) ?_)
    have l1 : (wz (numT n)).mag.length ≤ n.top.length := wz_len ⟨n.neg, n.top⟩
    have l2 : (wz (numB n)).mag.length ≤ n.bot.length := wz_len ⟨false, n.bot⟩
    refine wp_call (ref04_Make_sp (wz (numT n)) (wz (numB n)) (by omega) (by omega)) ?_
    simp only [getD_c0, getD_c1, toInt_int, int_beq, zv_wz]
    generalize mkR (numT n) (numB n) = r
    refine wp_decs (fun h3 => wp_call (ref04_Same_sp n r.1 (by omega) (by omega)) (wp_ret ?_)) (fun h3 => wp_ret ?_)
    · simp only [getD_c0, toBool_bool]
      congr 2
      rw [decide_eq_decide]
      refine ⟨fun hh => ⟨by omega, by omega, by rw [hh]; exact Prod.ext rfl h3⟩, fun hh => by rw [hh.2.2]⟩
    · rw [decide_eq_false]
      rintro ⟨_, _, hh⟩
      exact h3 (by rw [hh])
end Go.Proofs.YtcdjifdllibolaaGreat

set_option maxRecDepth 100000
namespace Go.Proofs.YtcdjifdllibolaaGreat
open Go.ChangeShapes Go.WideShapes Go.ChangeAt Go.RowKit
/-- An expression. -/
inductive Ex1 where
  | mk (kind op : Int) (name : ByteArray) (n : Num) (text : List Int) (kids : List Ex1)
namespace Ex1
def kind : Ex1 → Int | .mk k _ _ _ _ _ => k
def op : Ex1 → Int | .mk _ o _ _ _ _ => o
def name : Ex1 → ByteArray | .mk _ _ s _ _ _ => s
def n : Ex1 → Num | .mk _ _ _ n _ _ => n
def text : Ex1 → List Int | .mk _ _ _ _ t _ => t
def kids : Ex1 → List Ex1 | .mk _ _ _ _ _ k => k
theorem ind {p : Ex1 → Prop} (h : ∀ k o s n t ks, (∀ x ∈ ks, p x) → p (.mk k o s n t ks)) (e : Ex1) : p e :=
  Ex1.rec (motive_1 := p) (motive_2 := fun ks => ∀ x ∈ ks, p x) (fun k o s n t ks ih => h k o s n t ks ih) (fun x hx => by cases hx)
    (fun a as_ h1 h2 x hx => by rcases List.mem_cons.1 hx with rfl | hx; exact h1; exact h2 x hx) e
end Ex1
mutual
def dE : Ex1 → D
  | .mk k o s n t ks => .agg [.int k, .int o, .str s, dN n, dI t, .sl (dEs ks)]
def dEs : List Ex1 → List D
  | [] => []
  | e :: es => dE e :: dEs es
end
theorem dEs_map : ∀ es, dEs es = es.map dE
  | [] => by simp [dEs]
  | e :: es => by simp [dEs, dEs_map es]
theorem dE_eq (e : Ex1) : dE e = .agg [.int e.kind, .int e.op, .str e.name, dN e.n, dI e.text, .sl (e.kids.map dE)] := by cases e; simp [dE, dEs_map]; exact ⟨rfl, rfl, rfl, rfl, rfl, rfl⟩
@[simp] theorem dE_0 (e : Ex1) : (dE e).fld 0 = .int e.kind := by rw [dE_eq]; rfl
@[simp] theorem dE_1 (e : Ex1) : (dE e).fld 1 = .int e.op := by rw [dE_eq]; rfl
@[simp] theorem dE_2 (e : Ex1) : (dE e).fld 2 = .str e.name := by rw [dE_eq]; rfl
@[simp] theorem dE_3 (e : Ex1) : (dE e).fld 3 = dN e.n := by rw [dE_eq]; rfl
@[simp] theorem dE_4 (e : Ex1) : (dE e).fld 4 = dI e.text := by rw [dE_eq]; rfl
@[simp] theorem dE_5 (e : Ex1) : (dE e).fld 5 = .sl (e.kids.map dE) := by rw [dE_eq]; rfl
/-- No list is longer than memory has room for. -/
inductive FitsE : Ex1 → Prop where
  | mk {k o : Int} {s : ByteArray} {n : Num} {t : List Int} {ks : List Ex1} (h1 : s.size ≤ 140737488351232) (h2 : n.top.length ≤ 140737488351232 ∧ n.bot.length ≤ 140737488351232) (h3 : t.length ≤ 140737488351232) (h4 : ks.length ≤ 140737488351232)
      (h5 : (-9223372036854775808 ≤ k ∧ k ≤ 9223372036854775807) ∧ -9223372036854775808 ≤ o ∧ o ≤ 9223372036854775807) (h : ∀ x ∈ ks, FitsE x) : FitsE (.mk k o s n t ks)
theorem FitsE.name {e : Ex1} (h : FitsE e) : e.name.size ≤ 140737488351232 := by cases h; assumption
theorem FitsE.num {e : Ex1} (h : FitsE e) : e.n.top.length ≤ 140737488351232 ∧ e.n.bot.length ≤ 140737488351232 := by cases h; assumption
theorem FitsE.text {e : Ex1} (h : FitsE e) : e.text.length ≤ 140737488351232 := by cases h; assumption
theorem FitsE.len {e : Ex1} (h : FitsE e) : e.kids.length ≤ 140737488351232 := by cases h; assumption
theorem FitsE.kids {e : Ex1} (h : FitsE e) : ∀ x ∈ e.kids, FitsE x := by cases h; assumption
theorem fields_Expr : (fieldsOf Tryz.prog 28).map (fun fs => fs.map (·.type)) = some [3, 3, 9, 24, 25, 26] := by kernel_rfl
theorem len6 {α : Type} {l : List α} (h : l.length = 6) : ∃ a b c d e f, l = [a, b, c, d, e, f] := by
  match l, h with
  | [a, b, c, d, e, f], _ => exact ⟨a, b, c, d, e, f, rfl⟩
mutual
def D.sz : D → Nat
  | .agg fs => 1 + D.szL fs | .sl es => 1 + D.szL es | _ => 0
def D.szL : List D → Nat
  | [] => 0 | x :: xs => 1 + x.sz + D.szL xs
end
theorem rd_expr : ∀ (k : Nat) {w : World} {M : Nat → Prop} {y : D} {c : Nat → Option Value}, y.sz < k → y.wok → RdC Tryz.prog md w M (.ty 28) y c → ∃ e, y = dE e ∧ FitsE e
  | 0, _, _, _, _, hk, _, _ => by omega
  | k + 1, w, M, y, c, hk, hwk, h => by
    obtain ⟨fs, hf, ht⟩ := Option.map_eq_some_iff.1 fields_Expr
    obtain ⟨ds, rfl, hl, hh⟩ := rd_struct h hf
    have : fs.length = 6 := by rw [← List.length_map (f := (·.type)), ht]; rfl
    obtain ⟨a, b, c, d, e, f, rfl⟩ := len6 (by rw [hl, this])
    obtain ⟨f0, hf0, e0⟩ := wtypes_at ht (i := 0) rfl
    obtain ⟨f1, hf1, e1⟩ := wtypes_at ht (i := 1) rfl
    obtain ⟨f2, hf2, e2⟩ := wtypes_at ht (i := 2) rfl
    obtain ⟨f3, hf3, e3⟩ := wtypes_at ht (i := 3) rfl
    obtain ⟨f4, hf4, e4⟩ := wtypes_at ht (i := 4) rfl
    obtain ⟨f5, hf5, e5⟩ := wtypes_at ht (i := 5) rfl
    obtain ⟨_, h0⟩ := hh 0 f0 a hf0 rfl
    obtain ⟨_, h1⟩ := hh 1 f1 b hf1 rfl
    obtain ⟨_, h2⟩ := hh 2 f2 c hf2 rfl
    obtain ⟨_, h3⟩ := hh 3 f3 d hf3 rfl
    obtain ⟨_, h4⟩ := hh 4 f4 e hf4 rfl
    obtain ⟨_, h5⟩ := hh 5 f5 f hf5 rfl
    rw [e0] at h0; rw [e1] at h1; rw [e2] at h2; rw [e3] at h3; rw [e4] at h4; rw [e5] at h5
    obtain ⟨kd, rfl, i1, i2⟩ := rd_int h0 (k := .i64) (by kernel_rfl)
    obtain ⟨op, rfl, i3, i4⟩ := rd_int h1 (k := .i64) (by kernel_rfl)
    obtain ⟨nm, rfl, _⟩ := rd_str h2 (by kernel_rfl)
    obtain ⟨nn, rfl, _, _⟩ := nrd_num h3
    obtain ⟨tx, rfl, _, _⟩ := rd_ints h4 (e := 3) (by kernel_rfl) (by kernel_rfl)
    obtain ⟨es, rfl, l5, hes⟩ := rd_slc h5 (e := 28) (by kernel_rfl)
    obtain ⟨_, _, w2, w3, w4, w5, _⟩ := hwk
    obtain ⟨w5, w6⟩ := w5
    have w2 : nm.size ≤ 140737488351232 := w2
    have w4 : tx.length ≤ 140737488351232 := by have := w4.1; simpa [dI] using this
    have w3a : nn.top.length ≤ 140737488351232 := by have := w3.2.1.1; simpa [dL] using this
    have w3b : nn.bot.length ≤ 140737488351232 := by have := w3.2.2.1.1; simpa [dL] using this
    have hsz : D.szL es < k := by simp only [D.sz, D.szL] at hk; omega
    have key : ∃ cs : List Ex1, es = cs.map dE ∧ ∀ x ∈ cs, FitsE x := by
      clear h5 w5 l5 hk hh h hl h0 h1 h2 h3 h4 hf0 hf1 hf2 hf3 hf4 hf5
      induction es with
      | nil => exact ⟨[], rfl, (fun _ h => by cases h)⟩
      | cons x es ih =>
        simp only [D.szL] at hsz
        obtain ⟨w7, w8⟩ := w6
        obtain ⟨cs, rfl, g1⟩ := ih (fun y hy => hes y (by simp [hy])) w8 (by omega)
        obtain ⟨_, hx⟩ := hes x (by simp)
        obtain ⟨z, rfl, hz⟩ := rd_expr k (by omega) w7 hx
        exact ⟨z :: cs, rfl, fun y hy => by rcases List.mem_cons.1 hy with rfl | hy; exact hz; exact g1 y hy⟩
    obtain ⟨cs, rfl, g1⟩ := key
    refine ⟨.mk kd op nm nn tx cs, by simp [dE, dEs_map], .mk w2 ⟨w3a, w3b⟩ w4 (by simpa using w5) ⟨⟨i1, i2⟩, i3, i4⟩ g1⟩
def exTs : List Nat := 9 :: 28 :: 26 :: [4, 3, 41, 22, 25, 24]
theorem exTs_plain : plainTs Tryz.prog exTs = true := by kernel_rfl
section
variable {H : Type} {enc : TypeId × Value → H} {W : World} {sp : Nat → Bool} {held : Bool} {r : Reach} {b0 : Nat} {v : Value} {d : DataW H} {ps : List MemPlace}
theorem arg_expr (hval : Value.okWide Tryz.prog W r b0 28 v) (h : DataW.Trod enc Tryz.prog W 0 sp held 28 v d ps) (hw : ∀ z ∈ d.weights Tryz.prog 28, z ≤ reachBytes) : ∃ e, FitsE e ∧ Rd Tryz.prog md W (fun _ => False) (.ty 28) (dE e) v := by
  obtain ⟨y, hy, hyw⟩ := arg_rd (md := md) wfP exTs_plain (by decide) hval h
  obtain ⟨e, rfl, he⟩ := rd_expr _ (Nat.lt_succ_self _) (hyw hw) hy.rd
  exact ⟨e, he, hy⟩
end
end Go.Proofs.YtcdjifdllibolaaGreat

set_option maxRecDepth 100000
namespace Go.Proofs.YtcdjifdllibolaaGreat
/-! scrim/tree.Depth -/
def tree_Depth_orc : List (Nat × Orc) := [(3, ⟨[(3, none), (7, some 26), (8, none), (9, none)], [], []⟩)]
def tree_Depth_ps : List Nat := [28]
def tree_Depth_rs : List ResultVar := [.tmp 2]
def tree_Depth_ts : List Nat := [3]
noncomputable def tree_Depth_l3 (n m3 : Nat) (most3 : Int) (t7 : D) (t8 : Int) (t9 : Int) : Tree :=
  evLoop Tryz.prog md (ev Tryz.prog md n tree_Depth_orc (cAt (bodyOf Tryz.prog 8) [1, 1, 0, 1, 0, 0])) (orcAt tree_Depth_orc 3) m3 ⟨[.undef, .undef, .undef, .i .i64 most3, .undef, .undef, .undef, .d 26 t7, .i .i64 t8, .i .i64 t9, .undef, .undef, .undef, .undef, .undef, .undef, .undef, .undef, .undef, .undef], [], [], [], []⟩
   (blockK 0 (seqK (joinE Tryz.prog md (joinAt tree_Depth_orc (cAt (bodyOf Tryz.prog 8) [1, 1, 1])) (ev Tryz.prog md n tree_Depth_orc (cAt (bodyOf Tryz.prog 8) [1, 1, 1]))) (retK Tryz.prog md (md 8) tree_Depth_ps tree_Depth_rs tree_Depth_ts)))
theorem tree_Depth_l3_succ (n m3 : Nat) (most3 : Int) (t7 : D) (t8 : Int) (t9 : Int) : tree_Depth_l3 n (m3 + 1) most3 t7 t8 t9 =
 .br (decide (t9 < t8)) (.br (decide (0 ≤ t9)) (.br (decide (t9 < (t7.els.length : Int))) (.call 8 [] [t7.els.getD (Int.toNat t9) D.nil] fun yy1 =>
 tree_Depth_l3 n m3 (if most3 < ((yy1.getD 0 D.nil).toInt) then ((yy1.getD 0 D.nil).toInt) else most3) t7 t8 (IntKind.wrap .i64 (t9 + 1))) .fail) .fail)
 (.ret [D.int (IntKind.wrap .i64 (most3 + 1))]) := by kernel_rfl
theorem tree_Depth_tree (n : Nat) (e0 : D) : evFun Tryz.prog md tree_Depth_orc n 8 [] [e0] =
 tree_Depth_l3 n n 0 (e0.fld 5) (((e0.fld 5).els).length : Int) 0 := by kernel_rfl

/-! scrim/tree.Count -/
def tree_Count_orc : List (Nat × Orc) := [(3, ⟨[(3, none), (7, some 26), (8, none), (9, none)], [], []⟩)]
def tree_Count_ps : List Nat := [28]
def tree_Count_rs : List ResultVar := [.tmp 2]
def tree_Count_ts : List Nat := [3]
noncomputable def tree_Count_l3 (n m3 : Nat) (all3 : Int) (t7 : D) (t8 : Int) (t9 : Int) : Tree :=
  evLoop Tryz.prog md (ev Tryz.prog md n tree_Count_orc (cAt (bodyOf Tryz.prog 10) [1, 1, 0, 1, 0, 0])) (orcAt tree_Count_orc 3) m3 ⟨[.undef, .undef, .undef, .i .i64 all3, .undef, .undef, .undef, .d 26 t7, .i .i64 t8, .i .i64 t9, .undef, .undef, .undef, .undef, .undef, .undef, .undef, .undef, .undef], [], [], [], []⟩
   (blockK 0 (seqK (joinE Tryz.prog md (joinAt tree_Count_orc (cAt (bodyOf Tryz.prog 10) [1, 1, 1])) (ev Tryz.prog md n tree_Count_orc (cAt (bodyOf Tryz.prog 10) [1, 1, 1]))) (retK Tryz.prog md (md 10) tree_Count_ps tree_Count_rs tree_Count_ts)))
theorem tree_Count_l3_succ (n m3 : Nat) (all3 : Int) (t7 : D) (t8 : Int) (t9 : Int) : tree_Count_l3 n (m3 + 1) all3 t7 t8 t9 =
 .br (decide (t9 < t8)) (.br (decide (0 ≤ t9)) (.br (decide (t9 < (t7.els.length : Int))) (.call 10 [] [t7.els.getD (Int.toNat t9) D.nil] fun yy1 =>
 tree_Count_l3 n m3 (IntKind.wrap .i64 (all3 + ((yy1.getD 0 D.nil).toInt))) t7 t8 (IntKind.wrap .i64 (t9 + 1))) .fail) .fail)
 (.ret [D.int all3]) := by kernel_rfl
theorem tree_Count_tree (n : Nat) (e0 : D) : evFun Tryz.prog md tree_Count_orc n 10 [] [e0] =
 tree_Count_l3 n n 1 (e0.fld 5) (((e0.fld 5).els).length : Int) 0 := by kernel_rfl

/-! scrim/tree.held -/
def tree_held_orc : List (Nat × Orc) := [(2000000, ⟨[], [], []⟩)]
theorem tree_held_tree (n : Nat) (e0 : D) : evFun Tryz.prog md tree_held_orc n 18 [] [e0] =
 .call 23 [] [e0.fld 3, D.agg [D.bool false, D.sl [], D.sl []]] fun yy1 =>
 .br (((e0.fld 0).toInt) == 1) (.call 24 [] [e0.fld 3] fun yy2 =>
 .br ((yy2.getD 0 D.nil).toBool) (.br ((((e0.fld 4).els).length : Int) == 0) (.br (((e0.fld 2).toStr).toList == ByteArray.empty.toList) (.ret [D.bool (((e0.fld 1).toInt) == 0)])
 (.ret [D.bool false]))
 (.ret [D.bool false]))
 (.ret [D.bool false]))
 (.br (((e0.fld 0).toInt) == 2) (.br (decide ((((e0.fld 4).els).length : Int) ≤ 2048)) (.call 25 [] [e0.fld 4, D.fn 26 [] []] fun yy3 =>
 .br ((yy1.getD 0 D.nil).toBool) (.br (!((yy3.getD 0 D.nil).toBool)) (.br (((e0.fld 2).toStr).toList == ByteArray.empty.toList) (.ret [D.bool (((e0.fld 1).toInt) == 0)])
 (.ret [D.bool false]))
 (.ret [D.bool false]))
 (.ret [D.bool false]))
 (.br ((yy1.getD 0 D.nil).toBool) (.ret [D.bool false])
 (.ret [D.bool false])))
 (.br (((e0.fld 0).toInt) == 3) (.call 28 [] [D.str (e0.fld 2).toStr, D.bool false] fun yy4 =>
 .br ((yy1.getD 0 D.nil).toBool) (.br ((((e0.fld 4).els).length : Int) == 0) (.br ((yy4.getD 0 D.nil).toBool) (.ret [D.bool (((e0.fld 1).toInt) == 0)])
 (.ret [D.bool false]))
 (.ret [D.bool false]))
 (.ret [D.bool false]))
 (.br (((e0.fld 0).toInt) == 13) (.call 28 [] [D.str (e0.fld 2).toStr, D.bool false] fun yy5 =>
 .br ((yy1.getD 0 D.nil).toBool) (.br ((((e0.fld 4).els).length : Int) == 0) (.br ((yy5.getD 0 D.nil).toBool) (.ret [D.bool (((e0.fld 1).toInt) == 0)])
 (.ret [D.bool false]))
 (.ret [D.bool false]))
 (.ret [D.bool false]))
 (.br (((e0.fld 0).toInt) == 14) (.call 28 [] [D.str (e0.fld 2).toStr, D.bool false] fun yy6 =>
 .br ((yy1.getD 0 D.nil).toBool) (.br ((((e0.fld 4).els).length : Int) == 0) (.br ((yy6.getD 0 D.nil).toBool) (.ret [D.bool (((e0.fld 1).toInt) == 0)])
 (.ret [D.bool false]))
 (.ret [D.bool false]))
 (.ret [D.bool false]))
 (.br (((e0.fld 0).toInt) == 15) (.call 28 [] [D.str (e0.fld 2).toStr, D.bool false] fun yy7 =>
 .br ((yy1.getD 0 D.nil).toBool) (.br ((((e0.fld 4).els).length : Int) == 0) (.br ((yy7.getD 0 D.nil).toBool) (.ret [D.bool (((e0.fld 1).toInt) == 0)])
 (.ret [D.bool false]))
 (.ret [D.bool false]))
 (.ret [D.bool false]))
 (.br (((e0.fld 0).toInt) == 18) (.call 28 [] [D.str (e0.fld 2).toStr, D.bool true] fun yy8 =>
 .br ((yy1.getD 0 D.nil).toBool) (.br ((((e0.fld 4).els).length : Int) == 0) (.br ((yy8.getD 0 D.nil).toBool) (.ret [D.bool (((e0.fld 1).toInt) == 0)])
 (.ret [D.bool false]))
 (.ret [D.bool false]))
 (.ret [D.bool false]))
 (.br (((e0.fld 0).toInt) == 27) (.call 28 [] [D.str (e0.fld 2).toStr, D.bool true] fun yy9 =>
 .br ((yy1.getD 0 D.nil).toBool) (.br ((((e0.fld 4).els).length : Int) == 0) (.br ((yy9.getD 0 D.nil).toBool) (.ret [D.bool (((e0.fld 1).toInt) == 0)])
 (.ret [D.bool false]))
 (.ret [D.bool false]))
 (.ret [D.bool false]))
 (.br (((e0.fld 0).toInt) == 6) (.br (decide (0 ≤ ((e0.fld 1).toInt))) (.br ((yy1.getD 0 D.nil).toBool) (.br ((((e0.fld 4).els).length : Int) == 0) (.br (((e0.fld 2).toStr).toList == ByteArray.empty.toList) (.ret [D.bool (decide (((e0.fld 1).toInt) < 8))])
 (.ret [D.bool false]))
 (.ret [D.bool false]))
 (.ret [D.bool false]))
 (.br ((yy1.getD 0 D.nil).toBool) (.br ((((e0.fld 4).els).length : Int) == 0) (.br (((e0.fld 2).toStr).toList == ByteArray.empty.toList) (.ret [D.bool false])
 (.ret [D.bool false]))
 (.ret [D.bool false]))
 (.ret [D.bool false])))
 (.br (((e0.fld 0).toInt) == 7) (.br (decide (0 ≤ ((e0.fld 1).toInt))) (.br ((yy1.getD 0 D.nil).toBool) (.br ((((e0.fld 4).els).length : Int) == 0) (.br (((e0.fld 2).toStr).toList == ByteArray.empty.toList) (.ret [D.bool (decide (((e0.fld 1).toInt) < 8))])
 (.ret [D.bool false]))
 (.ret [D.bool false]))
 (.ret [D.bool false]))
 (.br ((yy1.getD 0 D.nil).toBool) (.br ((((e0.fld 4).els).length : Int) == 0) (.br (((e0.fld 2).toStr).toList == ByteArray.empty.toList) (.ret [D.bool false])
 (.ret [D.bool false]))
 (.ret [D.bool false]))
 (.ret [D.bool false])))
 (.br (((e0.fld 0).toInt) == 16) (.br (decide (0 ≤ ((e0.fld 1).toInt))) (.br ((yy1.getD 0 D.nil).toBool) (.br ((((e0.fld 4).els).length : Int) == 0) (.br (((e0.fld 2).toStr).toList == ByteArray.empty.toList) (.ret [D.bool (decide (((e0.fld 1).toInt) < 8))])
 (.ret [D.bool false]))
 (.ret [D.bool false]))
 (.ret [D.bool false]))
 (.br ((yy1.getD 0 D.nil).toBool) (.br ((((e0.fld 4).els).length : Int) == 0) (.br (((e0.fld 2).toStr).toList == ByteArray.empty.toList) (.ret [D.bool false])
 (.ret [D.bool false]))
 (.ret [D.bool false]))
 (.ret [D.bool false])))
 (.br (((e0.fld 0).toInt) == 17) (.call 29 [] [D.int ((e0.fld 1).toInt)] fun yy10 =>
 .br ((yy1.getD 0 D.nil).toBool) (.br ((((e0.fld 4).els).length : Int) == 0) (.br (((e0.fld 2).toStr).toList == ByteArray.empty.toList) (.ret [D.bool ((yy10.getD 0 D.nil).toBool)])
 (.ret [D.bool false]))
 (.ret [D.bool false]))
 (.ret [D.bool false]))
 (.br (((e0.fld 0).toInt) == 21) (.br (((e0.fld 1).toInt) == 0) (.br ((yy1.getD 0 D.nil).toBool) (.br ((((e0.fld 4).els).length : Int) == 0) (.br (((e0.fld 2).toStr).toList == ByteArray.empty.toList) (.ret [D.bool true])
 (.ret [D.bool false]))
 (.ret [D.bool false]))
 (.ret [D.bool false]))
 (.br ((yy1.getD 0 D.nil).toBool) (.br ((((e0.fld 4).els).length : Int) == 0) (.br (((e0.fld 2).toStr).toList == ByteArray.empty.toList) (.ret [D.bool (((e0.fld 1).toInt) == 1)])
 (.ret [D.bool false]))
 (.ret [D.bool false]))
 (.ret [D.bool false])))
 (.br (((e0.fld 0).toInt) == 22) (.call 31 [] [] fun yy11 =>
 .call 30 [] [yy11.getD 0 D.nil, D.int ((e0.fld 1).toInt)] fun yy12 =>
 .br ((yy1.getD 0 D.nil).toBool) (.br ((((e0.fld 4).els).length : Int) == 0) (.br (((e0.fld 2).toStr).toList == ByteArray.empty.toList) (.ret [D.bool ((yy12.getD 0 D.nil).toBool)])
 (.ret [D.bool false]))
 (.ret [D.bool false]))
 (.ret [D.bool false]))
 (.br (((e0.fld 0).toInt) == 23) (.call 32 [] [] fun yy13 =>
 .call 30 [] [yy13.getD 0 D.nil, D.int ((e0.fld 1).toInt)] fun yy14 =>
 .br ((yy1.getD 0 D.nil).toBool) (.br ((((e0.fld 4).els).length : Int) == 0) (.br (((e0.fld 2).toStr).toList == ByteArray.empty.toList) (.ret [D.bool ((yy14.getD 0 D.nil).toBool)])
 (.ret [D.bool false]))
 (.ret [D.bool false]))
 (.ret [D.bool false]))
 (.br ((yy1.getD 0 D.nil).toBool) (.br ((((e0.fld 4).els).length : Int) == 0) (.br (((e0.fld 2).toStr).toList == ByteArray.empty.toList) (.ret [D.bool (((e0.fld 1).toInt) == 0)])
 (.ret [D.bool false]))
 (.ret [D.bool false]))
 (.ret [D.bool false])))))))))))))))) := by kernel_rfl

/-! scrim/tree.made -/
def tree_made_orc : List (Nat × Orc) := [(2000000, ⟨[], [], []⟩)]
theorem tree_made_tree (n : Nat) (e0 : D) : evFun Tryz.prog md tree_made_orc n 19 [] [e0] =
 .br (((e0.fld 0).toInt) == 1) (.call 33 [] [e0.fld 5, D.sl []] fun yy1 =>
 .ret [D.bool ((yy1.getD 0 D.nil).toBool)])
 (.br (((e0.fld 0).toInt) == 2) (.call 33 [] [e0.fld 5, D.sl []] fun yy2 =>
 .ret [D.bool ((yy2.getD 0 D.nil).toBool)])
 (.br (((e0.fld 0).toInt) == 3) (.call 33 [] [e0.fld 5, D.sl []] fun yy3 =>
 .ret [D.bool ((yy3.getD 0 D.nil).toBool)])
 (.br (((e0.fld 0).toInt) == 4) (.call 33 [] [e0.fld 5, D.sl []] fun yy4 =>
 .ret [D.bool ((yy4.getD 0 D.nil).toBool)])
 (.br (((e0.fld 0).toInt) == 5) (.call 33 [] [e0.fld 5, D.sl []] fun yy5 =>
 .ret [D.bool ((yy5.getD 0 D.nil).toBool)])
 (.br (((e0.fld 0).toInt) == 6) (.call 33 [] [e0.fld 5, D.sl []] fun yy6 =>
 .ret [D.bool ((yy6.getD 0 D.nil).toBool)])
 (.br (((e0.fld 0).toInt) == 7) (.call 33 [] [e0.fld 5, D.sl []] fun yy7 =>
 .ret [D.bool ((yy7.getD 0 D.nil).toBool)])
 (.br (((e0.fld 0).toInt) == 10) (.call 33 [] [e0.fld 5, D.sl []] fun yy8 =>
 .ret [D.bool ((yy8.getD 0 D.nil).toBool)])
 (.br (((e0.fld 0).toInt) == 17) (.call 33 [] [e0.fld 5, D.sl []] fun yy9 =>
 .ret [D.bool ((yy9.getD 0 D.nil).toBool)])
 (.br (((e0.fld 0).toInt) == 18) (.call 33 [] [e0.fld 5, D.sl []] fun yy10 =>
 .ret [D.bool ((yy10.getD 0 D.nil).toBool)])
 (.br (((e0.fld 0).toInt) == 19) (.call 33 [] [e0.fld 5, D.sl []] fun yy11 =>
 .ret [D.bool ((yy11.getD 0 D.nil).toBool)])
 (.br (((e0.fld 0).toInt) == 21) (.call 33 [] [e0.fld 5, D.sl []] fun yy12 =>
 .ret [D.bool ((yy12.getD 0 D.nil).toBool)])
 (.br (((e0.fld 0).toInt) == 8) (.br (decide (2 ≤ (((e0.fld 5).els).length : Int))) (.call 34 [] [e0.fld 5, D.fn 35 [] []] fun yy13 =>
 .ret [D.bool ((yy13.getD 0 D.nil).toBool)])
 (.ret [D.bool false]))
 (.br (((e0.fld 0).toInt) == 9) (.br (decide (2 ≤ (((e0.fld 5).els).length : Int))) (.br (decide (0 ≤ 0)) (.br (decide (0 < (((e0.fld 5).els).length : Int))) (.call 35 [] [((e0.fld 5).els).getD (Int.toNat 0) D.nil] fun yy14 =>
 .br ((yy14.getD 0 D.nil).toBool) (.br (decide (0 ≤ 1)) (.br (decide (1 ≤ (((e0.fld 5).els).length : Int))) (.call 34 [] [D.sl (((e0.fld 5).els).drop (Int.toNat 1)), D.fn 36 [] []] fun yy15 =>
 .ret [D.bool ((yy15.getD 0 D.nil).toBool)]) .fail) .fail)
 (.ret [D.bool false])) .fail) .fail)
 (.ret [D.bool false]))
 (.br (((e0.fld 0).toInt) == 14) (.br (decide (2 ≤ (((e0.fld 5).els).length : Int))) (.br (decide (0 ≤ 0)) (.br (decide (0 < (((e0.fld 5).els).length : Int))) (.call 35 [] [((e0.fld 5).els).getD (Int.toNat 0) D.nil] fun yy16 =>
 .br ((yy16.getD 0 D.nil).toBool) (.br (decide (0 ≤ 1)) (.br (decide (1 ≤ (((e0.fld 5).els).length : Int))) (.call 34 [] [D.sl (((e0.fld 5).els).drop (Int.toNat 1)), D.fn 36 [] []] fun yy17 =>
 .ret [D.bool ((yy17.getD 0 D.nil).toBool)]) .fail) .fail)
 (.ret [D.bool false])) .fail) .fail)
 (.ret [D.bool false]))
 (.br (((e0.fld 0).toInt) == 11) (.call 33 [] [e0.fld 5, D.sl [D.fn 37 [] [], D.fn 35 [] []]] fun yy18 =>
 .ret [D.bool ((yy18.getD 0 D.nil).toBool)])
 (.br (((e0.fld 0).toInt) == 15) (.call 33 [] [e0.fld 5, D.sl [D.fn 37 [] [], D.fn 35 [] []]] fun yy19 =>
 .ret [D.bool ((yy19.getD 0 D.nil).toBool)])
 (.br (((e0.fld 0).toInt) == 12) (.call 33 [] [e0.fld 5, D.sl [D.fn 35 [] [], D.fn 37 [] [], D.fn 35 [] []]] fun yy20 =>
 .ret [D.bool ((yy20.getD 0 D.nil).toBool)])
 (.br (((e0.fld 0).toInt) == 13) (.call 33 [] [e0.fld 5, D.sl [D.fn 35 [] []]] fun yy21 =>
 .ret [D.bool ((yy21.getD 0 D.nil).toBool)])
 (.br (((e0.fld 0).toInt) == 16) (.call 33 [] [e0.fld 5, D.sl [D.fn 35 [] []]] fun yy22 =>
 .ret [D.bool ((yy22.getD 0 D.nil).toBool)])
 (.br (((e0.fld 0).toInt) == 22) (.call 33 [] [e0.fld 5, D.sl [D.fn 37 [] []]] fun yy23 =>
 .ret [D.bool ((yy23.getD 0 D.nil).toBool)])
 (.br (((e0.fld 0).toInt) == 27) (.call 33 [] [e0.fld 5, D.sl [D.fn 37 [] []]] fun yy24 =>
 .ret [D.bool ((yy24.getD 0 D.nil).toBool)])
 (.br (((e0.fld 0).toInt) == 23) (.call 33 [] [e0.fld 5, D.sl [D.fn 37 [] [], D.fn 38 [.ref 28] [D.ref e0]]] fun yy25 =>
 .ret [D.bool ((yy25.getD 0 D.nil).toBool)])
 (.br (((e0.fld 0).toInt) == 24) (.call 33 [] [e0.fld 5, D.sl [D.fn 41 [] []]] fun yy26 =>
 .ret [D.bool ((yy26.getD 0 D.nil).toBool)])
 (.br (((e0.fld 0).toInt) == 25) (.call 33 [] [e0.fld 5, D.sl [D.fn 35 [] [], D.fn 35 [] []]] fun yy27 =>
 .ret [D.bool ((yy27.getD 0 D.nil).toBool)])
 (.br (((e0.fld 0).toInt) == 26) (.call 33 [] [e0.fld 5, D.sl [D.fn 35 [] [], D.fn 35 [] []]] fun yy28 =>
 .ret [D.bool ((yy28.getD 0 D.nil).toBool)])
 (.br (((e0.fld 0).toInt) == 20) (.br (decide (0 < (((e0.fld 5).els).length : Int))) (.call 34 [] [e0.fld 5, D.fn 42 [.ref 28] [D.ref e0]] fun yy29 =>
 .ret [D.bool ((yy29.getD 0 D.nil).toBool)])
 (.ret [D.bool false]))
 (.br (((e0.fld 0).toInt) == 28) (.br (decide (0 < (((e0.fld 5).els).length : Int))) (.call 34 [] [e0.fld 5, D.fn 42 [.ref 28] [D.ref e0]] fun yy30 =>
 .ret [D.bool ((yy30.getD 0 D.nil).toBool)])
 (.ret [D.bool false]))
 (.ret [D.bool false])))))))))))))))))))))))))))) := by kernel_rfl

/-! scrim/tree.held$1 -/
def tree_held_1_orc : List (Nat × Orc) := []
theorem tree_held_1_tree (n : Nat) (c0 : D) : evFun Tryz.prog md tree_held_1_orc n 26 [] [c0] =
 .call 27 [] [D.int c0.toInt] fun yy1 =>
 .ret [D.bool (!((yy1.getD 0 D.nil).toBool))] := by kernel_rfl

/-! scrim/tree.named -/
def tree_named_orc : List (Nat × Orc) := [(4, ⟨[(0, none), (1, none), (22, none), (23, none)], [], []⟩)]
def tree_named_ps : List Nat := [9, 4]
def tree_named_rs : List ResultVar := [.tmp 4]
def tree_named_ts : List Nat := [4]
noncomputable def tree_named_l4 (n m4 : Nat) (s0 : ByteArray) (function1 : Bool) (t22 : Int) (t23 : Int) : Tree :=
  evLoop Tryz.prog md (ev Tryz.prog md n tree_named_orc (cAt (bodyOf Tryz.prog 28) [1, 1, 0, 1, 0, 0])) (orcAt tree_named_orc 4) m4 ⟨[.s s0, .b function1, .undef, .undef, .undef, .undef, .undef, .undef, .undef, .undef, .undef, .undef, .undef, .undef, .undef, .undef, .undef, .undef, .undef, .undef, .undef, .undef, .i .i64 t22, .i .i64 t23, .undef, .undef, .undef, .undef, .undef, .undef, .undef, .undef, .undef, .undef, .undef, .undef, .undef, .undef, .undef, .undef, .undef, .undef, .undef, .undef, .undef, .undef, .undef, .undef, .undef, .undef, .undef, .undef], [], [], [], []⟩
   (blockK 0 (seqK (joinE Tryz.prog md (joinAt tree_named_orc (cAt (bodyOf Tryz.prog 28) [1, 1, 1])) (ev Tryz.prog md n tree_named_orc (cAt (bodyOf Tryz.prog 28) [1, 1, 1]))) (retK Tryz.prog md (md 28) tree_named_ps tree_named_rs tree_named_ts)))
theorem tree_named_l4_succ (n m4 : Nat) (s0 : ByteArray) (function1 : Bool) (t22 : Int) (t23 : Int) : tree_named_l4 n (m4 + 1) s0 function1 t22 t23 =
 .br (decide (t23 < t22)) (.br (decide (0 ≤ t23)) (.br (decide (t23 < (s0.size : Int))) (.call 58 [] [D.int (IntKind.wrap .i64 (((s0.data.toList.getD (Int.toNat t23) 0).toNat : Nat) : Int))] fun yy2 =>
 .br (((yy2.getD 0 D.nil).toInt) != 2) (.br (decide ((((s0.data.toList.getD (Int.toNat t23) 0).toNat : Nat) : Int) < 48)) (.ret [D.bool false])
 (.br (decide (57 < (((s0.data.toList.getD (Int.toNat t23) 0).toNat : Nat) : Int))) (.ret [D.bool false])
 (tree_named_l4 n m4 s0 function1 t22 (IntKind.wrap .i64 (t23 + 1)))))
 (tree_named_l4 n m4 s0 function1 t22 (IntKind.wrap .i64 (t23 + 1)))) .fail) .fail)
 (.br (decide (0 ≤ 0)) (.br (decide (0 < (s0.size : Int))) (.br (decide (65 ≤ (((s0.data.toList.getD (Int.toNat 0) 0).toNat : Nat) : Int))) (.br (decide (0 ≤ 0)) (.br (decide (0 < (s0.size : Int))) (.ret [D.bool ((decide ((((s0.data.toList.getD (Int.toNat 0) 0).toNat : Nat) : Int) ≤ 90)) == function1)]) .fail) .fail)
 (.ret [D.bool (false == function1)])) .fail) .fail) := by kernel_rfl
theorem tree_named_tree (n : Nat) (s0 : D) (function1 : D) : evFun Tryz.prog md tree_named_orc n 28 [] [s0, function1] =
 .br (s0.toStr.toList == ByteArray.empty.toList) (.ret [D.bool false])
 (.br (decide (16 < (s0.toStr.size : Int))) (.ret [D.bool false])
 (.br (decide (0 ≤ 0)) (.br (decide (0 < (s0.toStr.size : Int))) (.call 58 [] [D.int (IntKind.wrap .i64 (((s0.toStr.data.toList.getD (Int.toNat 0) 0).toNat : Nat) : Int))] fun yy1 =>
 .br (((yy1.getD 0 D.nil).toInt) != 2) (.ret [D.bool false])
 (tree_named_l4 n n s0.toStr function1.toBool (s0.toStr.size : Int) 0)) .fail) .fail)) := by kernel_rfl

/-! scrim/tree.Glyph -/
def tree_Glyph_orc : List (Nat × Orc) := []
theorem tree_Glyph_tree (n : Nat) (c0 : D) : evFun Tryz.prog md tree_Glyph_orc n 29 [] [c0] =
 .call 58 [] [D.int c0.toInt] fun yy1 =>
 .br (((yy1.getD 0 D.nil).toInt) == 4) (.ret [D.bool true])
 (.call 31 [] [] fun yy2 =>
 .br (decide (0 ≤ 4)) (.br (decide (4 ≤ (((yy2.getD 0 D.nil).els).length : Int))) (.call 30 [] [D.sl (((yy2.getD 0 D.nil).els).take (Int.toNat 4)), D.int c0.toInt] fun yy3 =>
 .ret [D.bool ((yy3.getD 0 D.nil).toBool)]) .fail) .fail) := by kernel_rfl

/-! scrim/tree.Monops -/
def tree_Monops_orc : List (Nat × Orc) := []
theorem tree_Monops_tree (n : Nat)  : evFun Tryz.prog md tree_Monops_orc n 31 [] [] =
 .ret [D.sl [D.int 47, D.int 9023, D.int 92, D.int 9024, D.int 168, D.int 9064]] := by kernel_rfl

/-! scrim/tree.Dyops -/
def tree_Dyops_orc : List (Nat × Orc) := []
theorem tree_Dyops_tree (n : Nat)  : evFun Tryz.prog md tree_Dyops_orc n 32 [] [] =
 .ret [D.sl [D.int 46, D.int 8728, D.int 9060, D.int 9059]] := by kernel_rfl

/-! scrim/tree.parts -/
def tree_parts_orc : List (Nat × Orc) := [(4, ⟨[(1, some 63), (12, some 26), (13, none), (14, none)], [], []⟩)]
def tree_parts_ps : List Nat := [26, 63]
def tree_parts_rs : List ResultVar := [.tmp 4]
def tree_parts_ts : List Nat := [4]
noncomputable def tree_parts_l4 (n m4 : Nat) (is1 : D) (t12 : D) (t13 : Int) (t14 : Int) : Tree :=
  evLoop Tryz.prog md (ev Tryz.prog md n tree_parts_orc (cAt (bodyOf Tryz.prog 33) [1, 1, 0, 1, 0, 0])) (orcAt tree_parts_orc 4) m4 ⟨[.undef, .d 63 is1, .undef, .undef, .undef, .undef, .undef, .undef, .undef, .undef, .undef, .undef, .d 26 t12, .i .i64 t13, .i .i64 t14, .undef, .undef, .undef, .undef, .undef, .undef, .undef, .undef, .undef, .undef, .undef, .undef], [], [], [], []⟩
   (blockK 0 (seqK (joinE Tryz.prog md (joinAt tree_parts_orc (cAt (bodyOf Tryz.prog 33) [1, 1, 1])) (ev Tryz.prog md n tree_parts_orc (cAt (bodyOf Tryz.prog 33) [1, 1, 1]))) (retK Tryz.prog md (md 33) tree_parts_ps tree_parts_rs tree_parts_ts)))
theorem tree_parts_l4_succ (n m4 : Nat) (is1 : D) (t12 : D) (t13 : Int) (t14 : Int) : tree_parts_l4 n (m4 + 1) is1 t12 t13 t14 =
 .br (decide (t14 < t13)) (.br (decide (0 ≤ t14)) (.br (decide (t14 < (t12.els.length : Int))) (.br (decide (0 ≤ t14)) (.br (decide (t14 < (is1.els.length : Int))) (.call (is1.els.getD (Int.toNat t14) D.nil).fnId (is1.els.getD (Int.toNat t14) D.nil).fnCts ([t12.els.getD (Int.toNat t14) D.nil] ++ (is1.els.getD (Int.toNat t14) D.nil).fnDs) fun yy1 =>
 .br (!((yy1.getD 0 D.nil).toBool)) (.ret [D.bool false])
 (tree_parts_l4 n m4 is1 t12 t13 (IntKind.wrap .i64 (t14 + 1)))) .fail) .fail) .fail) .fail)
 (.ret [D.bool true]) := by kernel_rfl
theorem tree_parts_tree (n : Nat) (l0 : D) (is1 : D) : evFun Tryz.prog md tree_parts_orc n 33 [] [l0, is1] =
 .br ((l0.els.length : Int) != (is1.els.length : Int)) (.ret [D.bool false])
 (tree_parts_l4 n n is1 l0 (l0.els.length : Int) 0) := by kernel_rfl

/-! scrim/tree.each -/
def tree_each_orc : List (Nat × Orc) := []
theorem tree_each_tree_tree_anArray (n : Nat) (l0 : D)  : evFun Tryz.prog md tree_each_orc n 34 [] [l0, (D.fn 35 [] [])] =
 .call 60 [] [l0, D.fn 61 [.ref 29] [D.ref (D.fn 35 [] [])]] fun yy1 =>
 .ret [D.bool (!((yy1.getD 0 D.nil).toBool))] := by kernel_rfl
theorem tree_each_tree_tree_aPlace (n : Nat) (l0 : D)  : evFun Tryz.prog md tree_each_orc n 34 [] [l0, (D.fn 36 [] [])] =
 .call 60 [] [l0, D.fn 61 [.ref 29] [D.ref (D.fn 36 [] [])]] fun yy1 =>
 .ret [D.bool (!((yy1.getD 0 D.nil).toBool))] := by kernel_rfl
theorem tree_each_tree_tree_made_2 (n : Nat) (l0 : D) (is1_c0 : D) : evFun Tryz.prog md tree_each_orc n 34 [] [l0, (D.fn 42 [.ref 28] [is1_c0])] =
 .call 60 [] [l0, D.fn 61 [.ref 29] [D.ref (D.fn 42 [.ref 28] [is1_c0])]] fun yy1 =>
 .ret [D.bool (!((yy1.getD 0 D.nil).toBool))] := by kernel_rfl

/-! scrim/tree.anArray -/
def tree_anArray_orc : List (Nat × Orc) := []
theorem tree_anArray_tree (n : Nat) (e0 : D) : evFun Tryz.prog md tree_anArray_orc n 35 [] [e0] =
 .call 40 [] [D.int ((e0.fld 0).toInt)] fun yy1 =>
 .ret [D.bool ((yy1.getD 0 D.nil).toBool)] := by kernel_rfl

/-! scrim/tree.aPlace -/
def tree_aPlace_orc : List (Nat × Orc) := []
theorem tree_aPlace_tree (n : Nat) (e0 : D) : evFun Tryz.prog md tree_aPlace_orc n 36 [] [e0] =
 .call 40 [] [D.int ((e0.fld 0).toInt)] fun yy1 =>
 .br ((yy1.getD 0 D.nil).toBool) (.ret [D.bool true])
 (.ret [D.bool (((e0.fld 0).toInt) == 10)]) := by kernel_rfl

/-! scrim/tree.aFunction -/
def tree_aFunction_orc : List (Nat × Orc) := []
theorem tree_aFunction_tree (n : Nat) (e0 : D) : evFun Tryz.prog md tree_aFunction_orc n 37 [] [e0] =
 .call 62 [] [D.int ((e0.fld 0).toInt)] fun yy1 =>
 .ret [D.bool ((yy1.getD 0 D.nil).toBool)] := by kernel_rfl

/-! scrim/tree.made$1 -/
def tree_made_1_orc : List (Nat × Orc) := []
theorem tree_made_1_tree (n : Nat) (k0 : D) (c1 : D) : evFun Tryz.prog md tree_made_1_orc n 38 [.ref 28] [k0, c1] =
 .call 39 [] [D.int ((k0.fld 0).toInt)] fun yy1 =>
 .br ((yy1.getD 0 D.nil).toBool) (.br (((c1.unref.fld 1).toInt) != 9060) (.ret [D.bool true])
 (.call 40 [] [D.int ((k0.fld 0).toInt)] fun yy2 =>
 .br ((yy2.getD 0 D.nil).toBool) (.br (((c1.unref.fld 1).toInt) == 9060) (.ret [D.bool true])
 (.ret [D.bool (((c1.unref.fld 1).toInt) == 9059)]))
 (.ret [D.bool false])))
 (.call 40 [] [D.int ((k0.fld 0).toInt)] fun yy3 =>
 .br ((yy3.getD 0 D.nil).toBool) (.br (((c1.unref.fld 1).toInt) == 9060) (.ret [D.bool true])
 (.ret [D.bool (((c1.unref.fld 1).toInt) == 9059)]))
 (.ret [D.bool false])) := by kernel_rfl

/-! scrim/tree.Plain -/
def tree_Plain_orc : List (Nat × Orc) := []
theorem tree_Plain_tree (n : Nat) (kind0 : D) : evFun Tryz.prog md tree_Plain_orc n 39 [] [kind0] =
 .br (decide (17 ≤ kind0.toInt)) (.ret [D.bool (decide (kind0.toInt ≤ 21))])
 (.ret [D.bool false]) := by kernel_rfl

/-! scrim/tree.Array -/
def tree_Array_orc : List (Nat × Orc) := []
theorem tree_Array_tree (n : Nat) (kind0 : D) : evFun Tryz.prog md tree_Array_orc n 40 [] [kind0] =
 .br (decide (1 ≤ kind0.toInt)) (.br (decide (kind0.toInt ≤ 16)) (.ret [D.bool (kind0.toInt != 10)])
 (.ret [D.bool false]))
 (.ret [D.bool false]) := by kernel_rfl

/-! scrim/tree.aPlain -/
def tree_aPlain_orc : List (Nat × Orc) := []
theorem tree_aPlain_tree (n : Nat) (e0 : D) : evFun Tryz.prog md tree_aPlain_orc n 41 [] [e0] =
 .call 39 [] [D.int ((e0.fld 0).toInt)] fun yy1 =>
 .ret [D.bool ((yy1.getD 0 D.nil).toBool)] := by kernel_rfl

/-! scrim/tree.made$2 -/
def tree_made_2_orc : List (Nat × Orc) := []
theorem tree_made_2_tree (n : Nat) (k0 : D) (c1 : D) : evFun Tryz.prog md tree_made_2_orc n 42 [.ref 28] [k0, c1] =
 .br (((k0.fld 0).toInt) == 27) (.ret [D.bool true])
 (.br (((k0.fld 0).toInt) == 25) (.br (((k0.fld 0).toInt) == 25) (.ret [D.bool (((c1.unref.fld 0).toInt) == 20)])
 (.call 40 [] [D.int ((k0.fld 0).toInt)] fun yy1 =>
 .ret [D.bool ((yy1.getD 0 D.nil).toBool)]))
 (.br (((k0.fld 0).toInt) == 26) (.ret [D.bool (((c1.unref.fld 0).toInt) == 20)])
 (.call 40 [] [D.int ((k0.fld 0).toInt)] fun yy2 =>
 .ret [D.bool ((yy2.getD 0 D.nil).toBool)]))) := by kernel_rfl

/-! scrim/tree.each$1 -/
def tree_each_1_orc : List (Nat × Orc) := []
theorem tree_each_1_tree (n : Nat) (k0 : D) (c1 : D) : evFun Tryz.prog md tree_each_1_orc n 61 [.ref 29] [k0, c1] =
 .call c1.unref.fnId c1.unref.fnCts ([k0] ++ c1.unref.fnDs) fun yy1 =>
 .ret [D.bool (!((yy1.getD 0 D.nil).toBool))] := by kernel_rfl

/-! scrim/tree.Func -/
def tree_Func_orc : List (Nat × Orc) := []
theorem tree_Func_tree (n : Nat) (kind0 : D) : evFun Tryz.prog md tree_Func_orc n 62 [] [kind0] =
 .br (decide (17 ≤ kind0.toInt)) (.ret [D.bool (decide (kind0.toInt ≤ 24))])
 (.ret [D.bool false]) := by kernel_rfl

end Go.Proofs.YtcdjifdllibolaaGreat

set_option maxRecDepth 100000
namespace Go.Proofs.YtcdjifdllibolaaGreat
/-! scrim/glyph.May -/
def glyph_May_orc : List (Nat × Orc) := []
theorem glyph_May_tree (n : Nat) (c0 : D) : evFun Tryz.prog md glyph_May_orc n 27 [] [c0] =
 .br (decide ((0 : Int) ≤ c0.toInt)) (.br (decide (c0.toInt ≤ 1114111)) (.br (decide (c0.toInt < 55296)) (.ret [D.bool true])
 (.ret [D.bool (decide (57343 < c0.toInt))]))
 (.ret [D.bool false]))
 (.ret [D.bool false]) := by kernel_rfl

/-! scrim/glyph.Class -/
def glyph_Class_orc : List (Nat × Orc) := [(2000000, ⟨[], [], []⟩)]
theorem glyph_Class_tree (n : Nat) (c0 : D) : evFun Tryz.prog md glyph_Class_orc n 58 [] [c0] =
 .br (c0.toInt == 32) (.ret [D.int 1])
 (.br (c0.toInt == 9) (.ret [D.int 1])
 (.br (decide ((97 : Int) ≤ c0.toInt)) (.br (decide (c0.toInt ≤ 122)) (.ret [D.int 2])
 (.br (decide ((65 : Int) ≤ c0.toInt)) (.br (decide (c0.toInt ≤ 90)) (.ret [D.int 2])
 (.br (c0.toInt == 95) (.ret [D.int 2])
 (.br (decide ((48 : Int) ≤ c0.toInt)) (.br (decide (c0.toInt ≤ 57)) (.ret [D.int 3])
 (.br (c0.toInt == 175) (.ret [D.int 3])
 (.call 79 [] [D.int c0.toInt] fun yy1 =>
 .br ((yy1.getD 0 D.nil).toBool) (.ret [D.int 4])
 (.br (c0.toInt == 47) (.ret [D.int 5])
 (.br (c0.toInt == 9023) (.ret [D.int 5])
 (.br (c0.toInt == 92) (.ret [D.int 5])
 (.br (c0.toInt == 9024) (.ret [D.int 5])
 (.br (c0.toInt == 168) (.ret [D.int 5])
 (.br (c0.toInt == 9064) (.ret [D.int 5])
 (.br (c0.toInt == 9060) (.ret [D.int 5])
 (.br (c0.toInt == 9059) (.ret [D.int 5])
 (.br (c0.toInt == 8728) (.ret [D.int 5])
 (.br (c0.toInt == 46) (.ret [D.int 5])
 (.br (c0.toInt == 40) (.ret [D.int 6])
 (.br (c0.toInt == 41) (.ret [D.int 6])
 (.br (c0.toInt == 91) (.ret [D.int 6])
 (.br (c0.toInt == 93) (.ret [D.int 6])
 (.br (c0.toInt == 123) (.ret [D.int 6])
 (.br (c0.toInt == 125) (.ret [D.int 6])
 (.br (c0.toInt == 59) (.ret [D.int 6])
 (.br (c0.toInt == 58) (.ret [D.int 6])
 (.br (c0.toInt == 8900) (.ret [D.int 6])
 (.br (c0.toInt == 8592) (.ret [D.int 6])
 (.br (c0.toInt == 9082) (.ret [D.int 6])
 (.br (c0.toInt == 9077) (.ret [D.int 6])
 (.br (c0.toInt == 8711) (.ret [D.int 6])
 (.br (c0.toInt == 9109) (.ret [D.int 6])
 (.br (c0.toInt == 9054) (.ret [D.int 6])
 (.br (c0.toInt == 39) (.ret [D.int 6])
 (.br (c0.toInt == 9053) (.ret [D.int 6])
 (.ret [D.int 0])))))))))))))))))))))))))))))))
 (.br (c0.toInt == 175) (.ret [D.int 3])
 (.call 79 [] [D.int c0.toInt] fun yy2 =>
 .br ((yy2.getD 0 D.nil).toBool) (.ret [D.int 4])
 (.br (c0.toInt == 47) (.ret [D.int 5])
 (.br (c0.toInt == 9023) (.ret [D.int 5])
 (.br (c0.toInt == 92) (.ret [D.int 5])
 (.br (c0.toInt == 9024) (.ret [D.int 5])
 (.br (c0.toInt == 168) (.ret [D.int 5])
 (.br (c0.toInt == 9064) (.ret [D.int 5])
 (.br (c0.toInt == 9060) (.ret [D.int 5])
 (.br (c0.toInt == 9059) (.ret [D.int 5])
 (.br (c0.toInt == 8728) (.ret [D.int 5])
 (.br (c0.toInt == 46) (.ret [D.int 5])
 (.br (c0.toInt == 40) (.ret [D.int 6])
 (.br (c0.toInt == 41) (.ret [D.int 6])
 (.br (c0.toInt == 91) (.ret [D.int 6])
 (.br (c0.toInt == 93) (.ret [D.int 6])
 (.br (c0.toInt == 123) (.ret [D.int 6])
 (.br (c0.toInt == 125) (.ret [D.int 6])
 (.br (c0.toInt == 59) (.ret [D.int 6])
 (.br (c0.toInt == 58) (.ret [D.int 6])
 (.br (c0.toInt == 8900) (.ret [D.int 6])
 (.br (c0.toInt == 8592) (.ret [D.int 6])
 (.br (c0.toInt == 9082) (.ret [D.int 6])
 (.br (c0.toInt == 9077) (.ret [D.int 6])
 (.br (c0.toInt == 8711) (.ret [D.int 6])
 (.br (c0.toInt == 9109) (.ret [D.int 6])
 (.br (c0.toInt == 9054) (.ret [D.int 6])
 (.br (c0.toInt == 39) (.ret [D.int 6])
 (.br (c0.toInt == 9053) (.ret [D.int 6])
 (.ret [D.int 0])))))))))))))))))))))))))))))))))
 (.br (c0.toInt == 95) (.ret [D.int 2])
 (.br (decide ((48 : Int) ≤ c0.toInt)) (.br (decide (c0.toInt ≤ 57)) (.ret [D.int 3])
 (.br (c0.toInt == 175) (.ret [D.int 3])
 (.call 79 [] [D.int c0.toInt] fun yy3 =>
 .br ((yy3.getD 0 D.nil).toBool) (.ret [D.int 4])
 (.br (c0.toInt == 47) (.ret [D.int 5])
 (.br (c0.toInt == 9023) (.ret [D.int 5])
 (.br (c0.toInt == 92) (.ret [D.int 5])
 (.br (c0.toInt == 9024) (.ret [D.int 5])
 (.br (c0.toInt == 168) (.ret [D.int 5])
 (.br (c0.toInt == 9064) (.ret [D.int 5])
 (.br (c0.toInt == 9060) (.ret [D.int 5])
 (.br (c0.toInt == 9059) (.ret [D.int 5])
 (.br (c0.toInt == 8728) (.ret [D.int 5])
 (.br (c0.toInt == 46) (.ret [D.int 5])
 (.br (c0.toInt == 40) (.ret [D.int 6])
 (.br (c0.toInt == 41) (.ret [D.int 6])
 (.br (c0.toInt == 91) (.ret [D.int 6])
 (.br (c0.toInt == 93) (.ret [D.int 6])
 (.br (c0.toInt == 123) (.ret [D.int 6])
 (.br (c0.toInt == 125) (.ret [D.int 6])
 (.br (c0.toInt == 59) (.ret [D.int 6])
 (.br (c0.toInt == 58) (.ret [D.int 6])
 (.br (c0.toInt == 8900) (.ret [D.int 6])
 (.br (c0.toInt == 8592) (.ret [D.int 6])
 (.br (c0.toInt == 9082) (.ret [D.int 6])
 (.br (c0.toInt == 9077) (.ret [D.int 6])
 (.br (c0.toInt == 8711) (.ret [D.int 6])
 (.br (c0.toInt == 9109) (.ret [D.int 6])
 (.br (c0.toInt == 9054) (.ret [D.int 6])
 (.br (c0.toInt == 39) (.ret [D.int 6])
 (.br (c0.toInt == 9053) (.ret [D.int 6])
 (.ret [D.int 0])))))))))))))))))))))))))))))))
 (.br (c0.toInt == 175) (.ret [D.int 3])
 (.call 79 [] [D.int c0.toInt] fun yy4 =>
 .br ((yy4.getD 0 D.nil).toBool) (.ret [D.int 4])
 (.br (c0.toInt == 47) (.ret [D.int 5])
 (.br (c0.toInt == 9023) (.ret [D.int 5])
 (.br (c0.toInt == 92) (.ret [D.int 5])
 (.br (c0.toInt == 9024) (.ret [D.int 5])
 (.br (c0.toInt == 168) (.ret [D.int 5])
 (.br (c0.toInt == 9064) (.ret [D.int 5])
 (.br (c0.toInt == 9060) (.ret [D.int 5])
 (.br (c0.toInt == 9059) (.ret [D.int 5])
 (.br (c0.toInt == 8728) (.ret [D.int 5])
 (.br (c0.toInt == 46) (.ret [D.int 5])
 (.br (c0.toInt == 40) (.ret [D.int 6])
 (.br (c0.toInt == 41) (.ret [D.int 6])
 (.br (c0.toInt == 91) (.ret [D.int 6])
 (.br (c0.toInt == 93) (.ret [D.int 6])
 (.br (c0.toInt == 123) (.ret [D.int 6])
 (.br (c0.toInt == 125) (.ret [D.int 6])
 (.br (c0.toInt == 59) (.ret [D.int 6])
 (.br (c0.toInt == 58) (.ret [D.int 6])
 (.br (c0.toInt == 8900) (.ret [D.int 6])
 (.br (c0.toInt == 8592) (.ret [D.int 6])
 (.br (c0.toInt == 9082) (.ret [D.int 6])
 (.br (c0.toInt == 9077) (.ret [D.int 6])
 (.br (c0.toInt == 8711) (.ret [D.int 6])
 (.br (c0.toInt == 9109) (.ret [D.int 6])
 (.br (c0.toInt == 9054) (.ret [D.int 6])
 (.br (c0.toInt == 39) (.ret [D.int 6])
 (.br (c0.toInt == 9053) (.ret [D.int 6])
 (.ret [D.int 0]))))))))))))))))))))))))))))))))))
 (.br (decide ((65 : Int) ≤ c0.toInt)) (.br (decide (c0.toInt ≤ 90)) (.ret [D.int 2])
 (.br (c0.toInt == 95) (.ret [D.int 2])
 (.br (decide ((48 : Int) ≤ c0.toInt)) (.br (decide (c0.toInt ≤ 57)) (.ret [D.int 3])
 (.br (c0.toInt == 175) (.ret [D.int 3])
 (.call 79 [] [D.int c0.toInt] fun yy5 =>
 .br ((yy5.getD 0 D.nil).toBool) (.ret [D.int 4])
 (.br (c0.toInt == 47) (.ret [D.int 5])
 (.br (c0.toInt == 9023) (.ret [D.int 5])
 (.br (c0.toInt == 92) (.ret [D.int 5])
 (.br (c0.toInt == 9024) (.ret [D.int 5])
 (.br (c0.toInt == 168) (.ret [D.int 5])
 (.br (c0.toInt == 9064) (.ret [D.int 5])
 (.br (c0.toInt == 9060) (.ret [D.int 5])
 (.br (c0.toInt == 9059) (.ret [D.int 5])
 (.br (c0.toInt == 8728) (.ret [D.int 5])
 (.br (c0.toInt == 46) (.ret [D.int 5])
 (.br (c0.toInt == 40) (.ret [D.int 6])
 (.br (c0.toInt == 41) (.ret [D.int 6])
 (.br (c0.toInt == 91) (.ret [D.int 6])
 (.br (c0.toInt == 93) (.ret [D.int 6])
 (.br (c0.toInt == 123) (.ret [D.int 6])
 (.br (c0.toInt == 125) (.ret [D.int 6])
 (.br (c0.toInt == 59) (.ret [D.int 6])
 (.br (c0.toInt == 58) (.ret [D.int 6])
 (.br (c0.toInt == 8900) (.ret [D.int 6])
 (.br (c0.toInt == 8592) (.ret [D.int 6])
 (.br (c0.toInt == 9082) (.ret [D.int 6])
 (.br (c0.toInt == 9077) (.ret [D.int 6])
 (.br (c0.toInt == 8711) (.ret [D.int 6])
 (.br (c0.toInt == 9109) (.ret [D.int 6])
 (.br (c0.toInt == 9054) (.ret [D.int 6])
 (.br (c0.toInt == 39) (.ret [D.int 6])
 (.br (c0.toInt == 9053) (.ret [D.int 6])
 (.ret [D.int 0])))))))))))))))))))))))))))))))
 (.br (c0.toInt == 175) (.ret [D.int 3])
 (.call 79 [] [D.int c0.toInt] fun yy6 =>
 .br ((yy6.getD 0 D.nil).toBool) (.ret [D.int 4])
 (.br (c0.toInt == 47) (.ret [D.int 5])
 (.br (c0.toInt == 9023) (.ret [D.int 5])
 (.br (c0.toInt == 92) (.ret [D.int 5])
 (.br (c0.toInt == 9024) (.ret [D.int 5])
 (.br (c0.toInt == 168) (.ret [D.int 5])
 (.br (c0.toInt == 9064) (.ret [D.int 5])
 (.br (c0.toInt == 9060) (.ret [D.int 5])
 (.br (c0.toInt == 9059) (.ret [D.int 5])
 (.br (c0.toInt == 8728) (.ret [D.int 5])
 (.br (c0.toInt == 46) (.ret [D.int 5])
 (.br (c0.toInt == 40) (.ret [D.int 6])
 (.br (c0.toInt == 41) (.ret [D.int 6])
 (.br (c0.toInt == 91) (.ret [D.int 6])
 (.br (c0.toInt == 93) (.ret [D.int 6])
 (.br (c0.toInt == 123) (.ret [D.int 6])
 (.br (c0.toInt == 125) (.ret [D.int 6])
 (.br (c0.toInt == 59) (.ret [D.int 6])
 (.br (c0.toInt == 58) (.ret [D.int 6])
 (.br (c0.toInt == 8900) (.ret [D.int 6])
 (.br (c0.toInt == 8592) (.ret [D.int 6])
 (.br (c0.toInt == 9082) (.ret [D.int 6])
 (.br (c0.toInt == 9077) (.ret [D.int 6])
 (.br (c0.toInt == 8711) (.ret [D.int 6])
 (.br (c0.toInt == 9109) (.ret [D.int 6])
 (.br (c0.toInt == 9054) (.ret [D.int 6])
 (.br (c0.toInt == 39) (.ret [D.int 6])
 (.br (c0.toInt == 9053) (.ret [D.int 6])
 (.ret [D.int 0])))))))))))))))))))))))))))))))))
 (.br (c0.toInt == 95) (.ret [D.int 2])
 (.br (decide ((48 : Int) ≤ c0.toInt)) (.br (decide (c0.toInt ≤ 57)) (.ret [D.int 3])
 (.br (c0.toInt == 175) (.ret [D.int 3])
 (.call 79 [] [D.int c0.toInt] fun yy7 =>
 .br ((yy7.getD 0 D.nil).toBool) (.ret [D.int 4])
 (.br (c0.toInt == 47) (.ret [D.int 5])
 (.br (c0.toInt == 9023) (.ret [D.int 5])
 (.br (c0.toInt == 92) (.ret [D.int 5])
 (.br (c0.toInt == 9024) (.ret [D.int 5])
 (.br (c0.toInt == 168) (.ret [D.int 5])
 (.br (c0.toInt == 9064) (.ret [D.int 5])
 (.br (c0.toInt == 9060) (.ret [D.int 5])
 (.br (c0.toInt == 9059) (.ret [D.int 5])
 (.br (c0.toInt == 8728) (.ret [D.int 5])
 (.br (c0.toInt == 46) (.ret [D.int 5])
 (.br (c0.toInt == 40) (.ret [D.int 6])
 (.br (c0.toInt == 41) (.ret [D.int 6])
 (.br (c0.toInt == 91) (.ret [D.int 6])
 (.br (c0.toInt == 93) (.ret [D.int 6])
 (.br (c0.toInt == 123) (.ret [D.int 6])
 (.br (c0.toInt == 125) (.ret [D.int 6])
 (.br (c0.toInt == 59) (.ret [D.int 6])
 (.br (c0.toInt == 58) (.ret [D.int 6])
 (.br (c0.toInt == 8900) (.ret [D.int 6])
 (.br (c0.toInt == 8592) (.ret [D.int 6])
 (.br (c0.toInt == 9082) (.ret [D.int 6])
 (.br (c0.toInt == 9077) (.ret [D.int 6])
 (.br (c0.toInt == 8711) (.ret [D.int 6])
 (.br (c0.toInt == 9109) (.ret [D.int 6])
 (.br (c0.toInt == 9054) (.ret [D.int 6])
 (.br (c0.toInt == 39) (.ret [D.int 6])
 (.br (c0.toInt == 9053) (.ret [D.int 6])
 (.ret [D.int 0])))))))))))))))))))))))))))))))
 (.br (c0.toInt == 175) (.ret [D.int 3])
 (.call 79 [] [D.int c0.toInt] fun yy8 =>
 .br ((yy8.getD 0 D.nil).toBool) (.ret [D.int 4])
 (.br (c0.toInt == 47) (.ret [D.int 5])
 (.br (c0.toInt == 9023) (.ret [D.int 5])
 (.br (c0.toInt == 92) (.ret [D.int 5])
 (.br (c0.toInt == 9024) (.ret [D.int 5])
 (.br (c0.toInt == 168) (.ret [D.int 5])
 (.br (c0.toInt == 9064) (.ret [D.int 5])
 (.br (c0.toInt == 9060) (.ret [D.int 5])
 (.br (c0.toInt == 9059) (.ret [D.int 5])
 (.br (c0.toInt == 8728) (.ret [D.int 5])
 (.br (c0.toInt == 46) (.ret [D.int 5])
 (.br (c0.toInt == 40) (.ret [D.int 6])
 (.br (c0.toInt == 41) (.ret [D.int 6])
 (.br (c0.toInt == 91) (.ret [D.int 6])
 (.br (c0.toInt == 93) (.ret [D.int 6])
 (.br (c0.toInt == 123) (.ret [D.int 6])
 (.br (c0.toInt == 125) (.ret [D.int 6])
 (.br (c0.toInt == 59) (.ret [D.int 6])
 (.br (c0.toInt == 58) (.ret [D.int 6])
 (.br (c0.toInt == 8900) (.ret [D.int 6])
 (.br (c0.toInt == 8592) (.ret [D.int 6])
 (.br (c0.toInt == 9082) (.ret [D.int 6])
 (.br (c0.toInt == 9077) (.ret [D.int 6])
 (.br (c0.toInt == 8711) (.ret [D.int 6])
 (.br (c0.toInt == 9109) (.ret [D.int 6])
 (.br (c0.toInt == 9054) (.ret [D.int 6])
 (.br (c0.toInt == 39) (.ret [D.int 6])
 (.br (c0.toInt == 9053) (.ret [D.int 6])
 (.ret [D.int 0]))))))))))))))))))))))))))))))))))) := by kernel_rfl

/-! scrim/scrimref06.Class -/
def ref06_Class_orc : List (Nat × Orc) := []
theorem ref06_Class_tree (n : Nat) (c0 : D) : evFun Tryz.prog md ref06_Class_orc n 64 [] [c0] =
 .br (c0.toInt == 32) (.ret [D.int 1])
 (.br (c0.toInt == 9) (.ret [D.int 1])
 (.br (decide (97 ≤ c0.toInt)) (.br (decide (c0.toInt ≤ 122)) (.ret [D.int 2])
 (.br (decide (65 ≤ c0.toInt)) (.br (decide (c0.toInt ≤ 90)) (.ret [D.int 2])
 (.br (c0.toInt == 95) (.ret [D.int 2])
 (.br (decide (48 ≤ c0.toInt)) (.br (decide (c0.toInt ≤ 57)) (.ret [D.int 3])
 (.br (c0.toInt == 175) (.ret [D.int 3])
 (.call 81 [] [] fun yy1 =>
 .call 66 [] [yy1.getD 0 D.nil, D.int c0.toInt] fun yy2 =>
 .br ((yy2.getD 0 D.nil).toBool) (.ret [D.int 4])
 (.call 82 [] [] fun yy3 =>
 .call 66 [] [yy3.getD 0 D.nil, D.int c0.toInt] fun yy4 =>
 .br ((yy4.getD 0 D.nil).toBool) (.ret [D.int 5])
 (.call 83 [] [] fun yy5 =>
 .call 66 [] [yy5.getD 0 D.nil, D.int c0.toInt] fun yy6 =>
 .br ((yy6.getD 0 D.nil).toBool) (.ret [D.int 6])
 (.ret [D.int 0]))))))
 (.br (c0.toInt == 175) (.ret [D.int 3])
 (.call 81 [] [] fun yy7 =>
 .call 66 [] [yy7.getD 0 D.nil, D.int c0.toInt] fun yy8 =>
 .br ((yy8.getD 0 D.nil).toBool) (.ret [D.int 4])
 (.call 82 [] [] fun yy9 =>
 .call 66 [] [yy9.getD 0 D.nil, D.int c0.toInt] fun yy10 =>
 .br ((yy10.getD 0 D.nil).toBool) (.ret [D.int 5])
 (.call 83 [] [] fun yy11 =>
 .call 66 [] [yy11.getD 0 D.nil, D.int c0.toInt] fun yy12 =>
 .br ((yy12.getD 0 D.nil).toBool) (.ret [D.int 6])
 (.ret [D.int 0]))))))))
 (.br (c0.toInt == 95) (.ret [D.int 2])
 (.br (decide (48 ≤ c0.toInt)) (.br (decide (c0.toInt ≤ 57)) (.ret [D.int 3])
 (.br (c0.toInt == 175) (.ret [D.int 3])
 (.call 81 [] [] fun yy13 =>
 .call 66 [] [yy13.getD 0 D.nil, D.int c0.toInt] fun yy14 =>
 .br ((yy14.getD 0 D.nil).toBool) (.ret [D.int 4])
 (.call 82 [] [] fun yy15 =>
 .call 66 [] [yy15.getD 0 D.nil, D.int c0.toInt] fun yy16 =>
 .br ((yy16.getD 0 D.nil).toBool) (.ret [D.int 5])
 (.call 83 [] [] fun yy17 =>
 .call 66 [] [yy17.getD 0 D.nil, D.int c0.toInt] fun yy18 =>
 .br ((yy18.getD 0 D.nil).toBool) (.ret [D.int 6])
 (.ret [D.int 0]))))))
 (.br (c0.toInt == 175) (.ret [D.int 3])
 (.call 81 [] [] fun yy19 =>
 .call 66 [] [yy19.getD 0 D.nil, D.int c0.toInt] fun yy20 =>
 .br ((yy20.getD 0 D.nil).toBool) (.ret [D.int 4])
 (.call 82 [] [] fun yy21 =>
 .call 66 [] [yy21.getD 0 D.nil, D.int c0.toInt] fun yy22 =>
 .br ((yy22.getD 0 D.nil).toBool) (.ret [D.int 5])
 (.call 83 [] [] fun yy23 =>
 .call 66 [] [yy23.getD 0 D.nil, D.int c0.toInt] fun yy24 =>
 .br ((yy24.getD 0 D.nil).toBool) (.ret [D.int 6])
 (.ret [D.int 0])))))))))
 (.br (decide (65 ≤ c0.toInt)) (.br (decide (c0.toInt ≤ 90)) (.ret [D.int 2])
 (.br (c0.toInt == 95) (.ret [D.int 2])
 (.br (decide (48 ≤ c0.toInt)) (.br (decide (c0.toInt ≤ 57)) (.ret [D.int 3])
 (.br (c0.toInt == 175) (.ret [D.int 3])
 (.call 81 [] [] fun yy25 =>
 .call 66 [] [yy25.getD 0 D.nil, D.int c0.toInt] fun yy26 =>
 .br ((yy26.getD 0 D.nil).toBool) (.ret [D.int 4])
 (.call 82 [] [] fun yy27 =>
 .call 66 [] [yy27.getD 0 D.nil, D.int c0.toInt] fun yy28 =>
 .br ((yy28.getD 0 D.nil).toBool) (.ret [D.int 5])
 (.call 83 [] [] fun yy29 =>
 .call 66 [] [yy29.getD 0 D.nil, D.int c0.toInt] fun yy30 =>
 .br ((yy30.getD 0 D.nil).toBool) (.ret [D.int 6])
 (.ret [D.int 0]))))))
 (.br (c0.toInt == 175) (.ret [D.int 3])
 (.call 81 [] [] fun yy31 =>
 .call 66 [] [yy31.getD 0 D.nil, D.int c0.toInt] fun yy32 =>
 .br ((yy32.getD 0 D.nil).toBool) (.ret [D.int 4])
 (.call 82 [] [] fun yy33 =>
 .call 66 [] [yy33.getD 0 D.nil, D.int c0.toInt] fun yy34 =>
 .br ((yy34.getD 0 D.nil).toBool) (.ret [D.int 5])
 (.call 83 [] [] fun yy35 =>
 .call 66 [] [yy35.getD 0 D.nil, D.int c0.toInt] fun yy36 =>
 .br ((yy36.getD 0 D.nil).toBool) (.ret [D.int 6])
 (.ret [D.int 0]))))))))
 (.br (c0.toInt == 95) (.ret [D.int 2])
 (.br (decide (48 ≤ c0.toInt)) (.br (decide (c0.toInt ≤ 57)) (.ret [D.int 3])
 (.br (c0.toInt == 175) (.ret [D.int 3])
 (.call 81 [] [] fun yy37 =>
 .call 66 [] [yy37.getD 0 D.nil, D.int c0.toInt] fun yy38 =>
 .br ((yy38.getD 0 D.nil).toBool) (.ret [D.int 4])
 (.call 82 [] [] fun yy39 =>
 .call 66 [] [yy39.getD 0 D.nil, D.int c0.toInt] fun yy40 =>
 .br ((yy40.getD 0 D.nil).toBool) (.ret [D.int 5])
 (.call 83 [] [] fun yy41 =>
 .call 66 [] [yy41.getD 0 D.nil, D.int c0.toInt] fun yy42 =>
 .br ((yy42.getD 0 D.nil).toBool) (.ret [D.int 6])
 (.ret [D.int 0]))))))
 (.br (c0.toInt == 175) (.ret [D.int 3])
 (.call 81 [] [] fun yy43 =>
 .call 66 [] [yy43.getD 0 D.nil, D.int c0.toInt] fun yy44 =>
 .br ((yy44.getD 0 D.nil).toBool) (.ret [D.int 4])
 (.call 82 [] [] fun yy45 =>
 .call 66 [] [yy45.getD 0 D.nil, D.int c0.toInt] fun yy46 =>
 .br ((yy46.getD 0 D.nil).toBool) (.ret [D.int 5])
 (.call 83 [] [] fun yy47 =>
 .call 66 [] [yy47.getD 0 D.nil, D.int c0.toInt] fun yy48 =>
 .br ((yy48.getD 0 D.nil).toBool) (.ret [D.int 6])
 (.ret [D.int 0])))))))))) := by kernel_rfl

/-! scrim/scrimref06.In -/
def ref06_In_orc : List (Nat × Orc) := [(2, ⟨[(0, some 25), (1, none), (5, none)], [], []⟩)]
def ref06_In_ps : List Nat := [25, 3]
def ref06_In_rs : List ResultVar := [.tmp 4]
def ref06_In_ts : List Nat := [4]
noncomputable def ref06_In_l2 (n m2 : Nat) (l0 : D) (nn1 : Int) (i5 : Int) : Tree :=
  evLoop Tryz.prog md (ev Tryz.prog md n ref06_In_orc (cAt (bodyOf Tryz.prog 66) [1, 0, 1, 0, 0])) (orcAt ref06_In_orc 2) m2 ⟨[.d 25 l0, .i .i64 nn1, .undef, .undef, .undef, .i .i64 i5, .undef, .undef, .undef, .undef, .undef, .undef, .undef, .undef, .undef, .undef, .undef, .undef], [], [], [], []⟩
   (blockK 0 (seqK (joinE Tryz.prog md (joinAt ref06_In_orc (cAt (bodyOf Tryz.prog 66) [1, 1])) (ev Tryz.prog md n ref06_In_orc (cAt (bodyOf Tryz.prog 66) [1, 1]))) (retK Tryz.prog md (md 66) ref06_In_ps ref06_In_rs ref06_In_ts)))
theorem ref06_In_l2_succ (n m2 : Nat) (l0 : D) (nn1 : Int) (i5 : Int) : ref06_In_l2 n (m2 + 1) l0 nn1 i5 =
 .br (decide (i5 < (l0.els.length : Int))) (.br (decide (0 ≤ i5)) (.br (decide (i5 < (l0.els.length : Int))) (.br (((l0.els.getD (Int.toNat i5) D.nil).toInt) == nn1) (.ret [D.bool true])
 (ref06_In_l2 n m2 l0 nn1 (IntKind.wrap .i64 (i5 + 1)))) .fail) .fail)
 (.ret [D.bool false]) := by kernel_rfl
theorem ref06_In_tree (n : Nat) (l0 : D) (nn1 : D) : evFun Tryz.prog md ref06_In_orc n 66 [] [l0, nn1] =
 ref06_In_l2 n n l0 nn1.toInt 0 := by kernel_rfl

/-! scrim/glyph.function -/
def glyph_function_orc : List (Nat × Orc) := [(2000000, ⟨[], [], []⟩)]
theorem glyph_function_tree (n : Nat) (c0 : D) : evFun Tryz.prog md glyph_function_orc n 79 [] [c0] =
 .br (c0.toInt == 43) (.ret [D.bool true])
 (.br (c0.toInt == 45) (.ret [D.bool true])
 (.br (c0.toInt == 215) (.ret [D.bool true])
 (.br (c0.toInt == 247) (.ret [D.bool true])
 (.br (c0.toInt == 8968) (.ret [D.bool true])
 (.br (c0.toInt == 8970) (.ret [D.bool true])
 (.br (c0.toInt == 124) (.ret [D.bool true])
 (.br (c0.toInt == 42) (.ret [D.bool true])
 (.br (c0.toInt == 33) (.ret [D.bool true])
 (.br (c0.toInt == 126) (.ret [D.bool true])
 (.br (c0.toInt == 60) (.ret [D.bool true])
 (.br (c0.toInt == 8804) (.ret [D.bool true])
 (.br (c0.toInt == 61) (.ret [D.bool true])
 (.br (c0.toInt == 8805) (.ret [D.bool true])
 (.br (c0.toInt == 62) (.ret [D.bool true])
 (.br (c0.toInt == 8800) (.ret [D.bool true])
 (.br (c0.toInt == 8743) (.ret [D.bool true])
 (.br (c0.toInt == 8744) (.ret [D.bool true])
 (.br (c0.toInt == 9076) (.ret [D.bool true])
 (.br (c0.toInt == 44) (.ret [D.bool true])
 (.br (c0.toInt == 9066) (.ret [D.bool true])
 (.br (c0.toInt == 9021) (.ret [D.bool true])
 (.br (c0.toInt == 8854) (.ret [D.bool true])
 (.br (c0.toInt == 9033) (.ret [D.bool true])
 (.br (c0.toInt == 8593) (.ret [D.bool true])
 (.br (c0.toInt == 8595) (.ret [D.bool true])
 (.br (c0.toInt == 8834) (.ret [D.bool true])
 (.br (c0.toInt == 8835) (.ret [D.bool true])
 (.br (c0.toInt == 8801) (.ret [D.bool true])
 (.br (c0.toInt == 8802) (.ret [D.bool true])
 (.br (c0.toInt == 9075) (.ret [D.bool true])
 (.br (c0.toInt == 8714) (.ret [D.bool true])
 (.br (c0.toInt == 8746) (.ret [D.bool true])
 (.br (c0.toInt == 8745) (.ret [D.bool true])
 (.br (c0.toInt == 9080) (.ret [D.bool true])
 (.br (c0.toInt == 9035) (.ret [D.bool true])
 (.br (c0.toInt == 9042) (.ret [D.bool true])
 (.br (c0.toInt == 8866) (.ret [D.bool true])
 (.br (c0.toInt == 8867) (.ret [D.bool true])
 (.ret [D.bool false]))))))))))))))))))))))))))))))))))))))) := by kernel_rfl

/-! scrim/scrimref06.Functions -/
def ref06_Functions_orc : List (Nat × Orc) := []
theorem ref06_Functions_tree (n : Nat)  : evFun Tryz.prog md ref06_Functions_orc n 81 [] [] =
 .ret [D.sl [D.int 43, D.int 45, D.int 215, D.int 247, D.int 8968, D.int 8970, D.int 124, D.int 42, D.int 33, D.int 126, D.int 60, D.int 8804, D.int 61, D.int 8805, D.int 62, D.int 8800, D.int 8743, D.int 8744, D.int 9076, D.int 44, D.int 9066, D.int 9021, D.int 8854, D.int 9033, D.int 8593, D.int 8595, D.int 8834, D.int 8835, D.int 8801, D.int 8802, D.int 9075, D.int 8714, D.int 8746, D.int 8745, D.int 9080, D.int 9035, D.int 9042, D.int 8866, D.int 8867]] := by kernel_rfl

/-! scrim/scrimref06.Operators -/
def ref06_Operators_orc : List (Nat × Orc) := []
theorem ref06_Operators_tree (n : Nat)  : evFun Tryz.prog md ref06_Operators_orc n 82 [] [] =
 .ret [D.sl [D.int 47, D.int 9023, D.int 92, D.int 9024, D.int 168, D.int 9064, D.int 9060, D.int 9059, D.int 8728, D.int 46]] := by kernel_rfl

/-! scrim/scrimref06.Marks -/
def ref06_Marks_orc : List (Nat × Orc) := []
theorem ref06_Marks_tree (n : Nat)  : evFun Tryz.prog md ref06_Marks_orc n 83 [] [] =
 .ret [D.sl [D.int 40, D.int 41, D.int 91, D.int 93, D.int 123, D.int 125, D.int 59, D.int 58, D.int 8900, D.int 8592, D.int 9082, D.int 9077, D.int 8711, D.int 9109, D.int 9054, D.int 39, D.int 9053]] := by kernel_rfl

/-! scrim/scrimref06.May -/
def ref06_May_orc : List (Nat × Orc) := []
theorem ref06_May_tree (n : Nat) (c0 : D) : evFun Tryz.prog md ref06_May_orc n 88 [] [c0] =
 .br (decide (0 ≤ c0.toInt)) (.br (decide (c0.toInt ≤ 1114111)) (.br (decide (c0.toInt < 55296)) (.ret [D.bool true])
 (.ret [D.bool (decide (57343 < c0.toInt))]))
 (.ret [D.bool false]))
 (.ret [D.bool false]) := by kernel_rfl

end Go.Proofs.YtcdjifdllibolaaGreat

set_option maxRecDepth 100000
namespace Go.Proofs.YtcdjifdllibolaaGreat

/-- The first place of one that is asked for. -/
def idxD (p : Int → Bool) : Nat → List Int → Int
  | _, [] => -1
  | k, x :: xs => if p x then (k : Int) else idxD p (k + 1) xs
theorem idxD_cons (p : Int → Bool) (k : Nat) (x : Int) (xs : List Int) : idxD p k (x :: xs) = if p x then (k : Int) else idxD p (k + 1) xs := rfl
theorem idxD_any (p : Int → Bool) : ∀ (l : List Int) (k : Nat), decide (0 ≤ idxD p k l) = l.any p
  | [], k => by simp [idxD]
  | x :: xs, k => by
    rw [idxD_cons, List.any_cons]
    by_cases hp : p x = true
    · rw [if_pos hp]; simp [hp]
    · rw [if_neg hp, idxD_any p xs (k + 1)]; simp [hp]
theorem slices_Contains_sp (l : List Int) (v : Int) (hb : l.length ≤ 9223372036854775807) : Sp 30 [dI l, .int v] [.bool (l.any (fun x => decide (x = v)))] := by
  refine sound_ 0 (slices_Contains_int_int_tree _ _ _) (wp_call (ys := [.int (idxD (fun x => decide (x = v)) 0 l)]) ?_ (wp_ret ?_))
  · refine sound_ (l.length + 1) (slices_Index_int_int_tree _ _ _) ?_
    have key := loop_list (P := Tryz.prog) (md := md) l (fun m k (_ : Unit) => slices_Index_int_int_l2 (l.length + 1) m (dI l) v (l.length : Int) (k : Int)) (fun rest _ => [.int (idxD (fun x => decide (x = v)) (l.length - rest.length) rest)]) (fun _ _ => True)
      (fun m k p hk hI => by
        simp only [slices_Index_int_int_l2_succ]
        refine wp_ndec (by omega) (wp_ret ?_)
        simp [idxD])
      (fun m k p x rest hd hI ih => by
        obtain ⟨h1, h2, h3⟩ := drop_cons hd
        have hle := congrArg List.length hd; rw [List.length_drop, List.length_cons] at hle; have hk : l.length - (x :: rest).length = k := by rw [List.length_cons]; omega
        have hk' : l.length - rest.length = k + 1 := by omega
        simp only [slices_Index_int_int_l2_succ, els_dI, List.length_map, Int.toNat_natCast, getD_map h2, toInt_int, wrap_succ (show k < 9223372036854775807 by omega), int_beq]
        repeat (refine wp_dec (by omega) ?_)
        simp only [idxD, hk]
        refine wp_decs (fun h => wp_ret ?_) (fun h => ?_)
        · simp [h]
        · have := ih () trivial
          rw [hk'] at this
          simpa [show ¬ x = v from fun e => h e.symm] using this)
      (l.length + 1) 0 () (by omega) (by omega) trivial
    simpa using key
  · exact congrArg (fun b => [D.bool b]) (idxD_any _ l 0)
def mayC (c : Int) : Bool := decide (0 ≤ c ∧ c ≤ 1114111 ∧ (c < 55296 ∨ 57343 < c))
theorem may_tree (c : Int) : Tw (.br (decide (0 ≤ c)) (.br (decide (c ≤ 1114111)) (.br (decide (c < 55296)) (.ret [D.bool true]) (.ret [D.bool (decide (57343 < c))])) (.ret [D.bool false])) (.ret [D.bool false])) [.bool (mayC c)] := by
  unfold mayC
  refine wp_decs (fun h1 => wp_decs (fun h2 => wp_decs (fun h3 => wp_ret ?_) (fun h3 => wp_ret ?_)) (fun h2 => wp_ret ?_)) (fun h1 => wp_ret ?_)
  · rw [decide_eq_true (by omega)]
  · congr 2; rw [decide_eq_decide]; omega
  · rw [decide_eq_false (by omega)]
  · rw [decide_eq_false (by omega)]
theorem ref06_May_sp (c : Int) : Sp 88 [.int c] [.bool (mayC c)] := sound_ 0 (ref06_May_tree _ _) (may_tree c)
theorem glyph_May_sp (c : Int) : Sp 27 [.int c] [.bool (mayC c)] := sound_ 0 (glyph_May_tree _ _) (may_tree c)
end Go.Proofs.YtcdjifdllibolaaGreat

set_option maxRecDepth 100000
namespace Go.Proofs.YtcdjifdllibolaaGreat

theorem can_len {x k : Nat} (h : (lb x).length = k + 1) : B ^ k ≤ x := by
  rcases Nat.lt_or_ge x (B ^ k) with h1 | h1
  · have := lb_len.2 h1; omega
  · exact h1
theorem map_set {α : Type} {f : α → D} {l : List α} {k : Nat} {v : α} : (l.map f).set k (f v) = (l.set k v).map f := by rw [List.map_set]
theorem top_bit (n : Nat) (h : n < 4294967296) : n.testBit 31 = decide (2147483648 ≤ n) := by
  rw [Nat.testBit_eq_decide_div_mod_eq]
  have : n / 2 ^ 31 % 2 = 1 ↔ 2147483648 ≤ n := by omega
  simp only [this]
theorem sub_nat (X Y D c : Nat) (hX : X < 4294967296) (hY : Y < 4294967296) (hc : c ≤ 1) (hD : (D : Int) = ((X : Int) - Y - c) % 4294967296) :
    ((((4294967295 ^^^ X) &&& Y) ||| ((4294967295 ^^^ (X ^^^ Y)) &&& D) : Nat) : Int) / 2147483648 = if X < Y + c then 1 else 0 := by
  have hDl : D < 4294967296 := by omega
  have hN : (((4294967295 ^^^ X) &&& Y) ||| ((4294967295 ^^^ (X ^^^ Y)) &&& D)) < 2 ^ 32 :=
    Nat.or_lt_two_pow (Nat.and_lt_two_pow _ (by omega)) (Nat.and_lt_two_pow _ (by omega))
  have ht := top_bit _ (show _ < 4294967296 from hN)
  rw [Nat.testBit_or, Nat.testBit_and, Nat.testBit_and, Nat.testBit_xor, Nat.testBit_xor, Nat.testBit_xor, top_bit X hX, top_bit Y hY, top_bit D hDl, show Nat.testBit 4294967295 31 = true by decide] at ht
  generalize (((4294967295 ^^^ X) &&& Y) ||| ((4294967295 ^^^ (X ^^^ Y)) &&& D)) = N at *
  by_cases h1 : 2147483648 ≤ X <;> by_cases h2 : 2147483648 ≤ Y <;> by_cases h3 : 2147483648 ≤ D <;> simp [h1, h2, h3] at ht <;> split <;> omega
theorem nat_Cmp_sp (a b : List Limb) (ha : a.length ≤ 1000000) (hb : b.length ≤ 1000000) : Sp 89 [dL a, dL b] [.int (cmpN (nv a) (nv b))] := by
  refine sound_ (a.length + 1) (nat_Cmp_tree _ _ _) (wp_call (nat_trim_sp a (by omega)) (wp_call (nat_trim_sp b (by omega)) ?_))
  have la : (lb (nv a)).length ≤ a.length := lb_len.2 (nv_lt a)
  have lb_ : (lb (nv b)).length ≤ b.length := lb_len.2 (nv_lt b)
  simp only [getD_c0, els_dL, List.length_map]
  refine wp_decs (fun h => wp_ret ?_) (fun h => wp_decs (fun h' => wp_ret ?_) (fun h' => ?_))
  · have h1 : nv a < nv b := by
      have e1 : nv a < B ^ (lb (nv a)).length := lb_len.1 (Nat.le_refl _)
      rcases Nat.lt_or_ge (nv b) (B ^ (lb (nv a)).length) with h2 | h2
      · have := lb_len.2 h2; omega
      · omega
    rw [cmpN, if_pos h1]
  · have h1 : nv b < nv a := by
      have e1 : nv b < B ^ (lb (nv b)).length := lb_len.1 (Nat.le_refl _)
      rcases Nat.lt_or_ge (nv a) (B ^ (lb (nv b)).length) with h2 | h2
      · have := lb_len.2 h2; omega
      · omega
    rw [cmpN, if_neg (by omega), if_neg (by omega)]
  · have hl : (lb (nv b)).length = (lb (nv a)).length := by omega
    have key := loop_down (P := Tryz.prog) (md := md) (fun m k (_ : Unit) => nat_Cmp_l7 (a.length + 1) m (dL (lb (nv a))) (dL (lb (nv b))) ((k : Int) - 1)) (fun _ _ => [.int (cmpN (nv a) (nv b))]) (fun k _ => k ≤ (lb (nv a)).length ∧ nv a / B ^ k = nv b / B ^ k)
      (fun m s ⟨_, h⟩ => by
        simp only [nat_Cmp_l7_succ]
        refine wp_ndec (by omega) (wp_ret ?_)
        simp at h
        simp [cmpN, h])
      (fun m k s ⟨h0, h⟩ ih => by
        have g1 := nv_limb (lb (nv a)) k (by omega)
        have g2 := nv_limb (lb (nv b)) k (by omega)
        rw [nv_lb] at g1 g2
        have ga : ((lb (nv a)).map dB).getD k D.nil = D.int ((nv a / B ^ k % B : Nat) : Int) := by rw [getD_map (List.getElem?_eq_getElem (show k < (lb (nv a)).length by omega)), ← g1]; rfl
        have gb : ((lb (nv b)).map dB).getD k D.nil = D.int ((nv b / B ^ k % B : Nat) : Int) := by rw [getD_map (List.getElem?_eq_getElem (show k < (lb (nv b)).length by omega)), ← g2]; rfl
        simp only [nat_Cmp_l7_succ, show ((k + 1 : Nat) : Int) - 1 = (k : Int) by omega, dA_0, dA_1, dA_2, dC_0, dC_1, dC_2, dC_3, dC_4, dN_0, dN_1, dN_2, els_sl, els_dI, els_dL, List.length_map, Int.toNat_natCast, toInt_int, toInt_dB, toBool_bool, getD_c0, getD_c1, int_beq, int_bne, not_dec, dInt_dB, Int.toNat_zero, ga, gb]
        have ea := Nat.div_add_mod (nv a / B ^ k) B
        have eb := Nat.div_add_mod (nv b / B ^ k) B
        rw [Nat.div_div_eq_div_mul, ← Nat.pow_succ] at ea eb
        rw [h] at ea
        generalize B * (nv b / B ^ (k + 1)) = q at ea eb
        refine wp_dec (by omega) (wp_dec (by omega) (wp_dec (by omega) (wp_dec (by omega) (wp_dec (by omega) (wp_decs (fun h' => wp_ret ?_) (fun h' => wp_dec (by omega) (wp_dec (by omega) (wp_dec (by omega) (wp_dec (by omega) (wp_decs (fun h2 => wp_ret ?_) (fun h2 => ?_)))))))))))
        · have hlt := lt_of_div (show nv a / B ^ k < nv b / B ^ k by omega)
          simp only [cmpN]; rw [if_pos hlt]
        · have hlt := lt_of_div (show nv b / B ^ k < nv a / B ^ k by omega)
          simp only [cmpN]; rw [if_neg (by omega), if_neg (by omega)]
        · rw [wrap64 (by omega) (by omega)]
          exact ih () ⟨by omega, by omega⟩)
      (a.length + 1) (lb (nv a)).length () (by omega) ⟨by omega, by
        rw [Nat.div_eq_of_lt (lb_len.1 (Nat.le_refl _)), Nat.div_eq_of_lt (lb_len.1 (by omega))]⟩
    rw [wrap64 (by omega) (by omega)]
    exact key
end Go.Proofs.YtcdjifdllibolaaGreat

set_option maxRecDepth 100000
namespace Go.Proofs.YtcdjifdllibolaaGreat

theorem or_limb' {r d : Nat} (hr : r < 4294967296) (hd : d < 4294967296) : bits_ .or .u64 ((r * 4294967296 : Nat) : Int) (d : Int) = ((r * 4294967296 + d : Nat) : Int) := by
  have h := or_limb hd hr
  have hc : bits_ .or .u64 ((r * 4294967296 : Nat) : Int) (d : Int) = bits_ .or .u64 (d : Int) ((r * 4294967296 : Nat) : Int) := by unfold bits_; simp only; rw [BitVec.or_comm]
  rw [hc, h, Nat.add_comm]
theorem nat_shorten_ex (l : List Limb) (y : Nat) (hy : 0 < y) (hyB : y < B) (hl : l.length ≤ 1000000) : ∃ q : List Limb, q.length = l.length ∧ nv q = nv l / y ∧ Sp 90 [.sl (l.map dB), .int (y : Int)] [.int ((nv l % y : Nat) : Int), .sl (q.map dB)] := by
  have hq : ∃ q : List Limb, q.length = l.length ∧ nv q = nv l / y := by
    have h1 : nv l / y < B ^ l.length := Nat.lt_of_le_of_lt (Nat.div_le_self _ _) (nv_lt l)
    have h2 := lb_len.2 h1
    refine ⟨lb (nv l / y) ++ List.replicate (l.length - (lb (nv l / y)).length) 0, by simp; omega, ?_⟩
    rw [nv_append, nv_zeros, nv_lb]; simp
  obtain ⟨q0, hq1, hq2⟩ := hq
  refine ⟨q0, hq1, hq2, sound_ (l.length + 1) (nat_shorten_tree _ _ _) ?_⟩
  simp only [els_sl, toInt_int, List.length_map]
  have uniq : ∀ q : List Limb, q.length = l.length → nv q = nv l / y → q = q0 := by
    intro q h1 h2
    apply List.ext_getElem (by omega)
    intro i g1 g2
    apply BitVec.eq_of_toNat_eq
    rw [nv_limb q i g1, nv_limb q0 i g2, h2, hq2]
  have key := loop_down (P := Tryz.prog) (md := md) (fun m k (s : List Limb × Nat) => nat_shorten_l3 (l.length + 1) m ((l.take k ++ s.1).map dB) (y : Int) (s.2 : Int) ((k : Int) - 1)) (fun _ _ => [.int ((nv l % y : Nat) : Int), .sl (q0.map dB)])
    (fun k s => k ≤ l.length ∧ s.1.length = l.length - k ∧ nv s.1 = nv l / B ^ k / y ∧ s.2 = nv l / B ^ k % y)
    (fun m s ⟨h0, h1, h2, h3⟩ => by
      simp only [nat_shorten_l3_succ, List.take_zero, List.nil_append]
      refine wp_ndec (by omega) (wp_ret ?_)
      simp at h2 h3
      rw [uniq s.1 (by omega) h2, h3]
      have := Nat.mod_lt (nv l) hy
      rw [B_eq] at hyB
      rw [wrapU32 (by omega) (by omega)])
    (fun m k s ⟨h0, h1, h2, h3⟩ ih => by
      have hk : k < l.length := by omega
      have hlen : ((l.take (k + 1) ++ s.1).map dB).length = l.length := by simp; omega
      have gd := nv_limb l k hk
      have hget : ((l.take (k + 1) ++ s.1).map dB).getD k D.nil = D.int ((l[k]).toNat : Int) := by rw [getD_map (x := l[k]) (by rw [List.getElem?_append_left (by simp; omega), List.getElem?_take, if_pos (by omega), List.getElem?_eq_getElem hk])]; rfl
      have hs2 : s.2 < y := by rw [h3]; exact Nat.mod_lt _ hy
      have dl := limb_lt l[k]
      have hQ : nv l / B ^ k = B * (nv l / B ^ (k + 1)) + (l[k]).toNat := by
        rw [gd, Nat.pow_succ, ← Nat.div_div_eq_div_mul]; exact (Nat.div_add_mod _ _).symm
      generalize hdd : (l[k]).toNat = d at *
      have e1 := Nat.div_add_mod (nv l / B ^ (k + 1)) y
      rw [← h2, ← h3] at e1
      have hQ2 : nv l / B ^ k = y * (B * nv s.1) + (s.2 * B + d) := by
        rw [hQ, ← e1, Nat.mul_add, Nat.mul_left_comm, Nat.mul_comm B s.2]; omega
      have hd1 : nv l / B ^ k / y = B * nv s.1 + (s.2 * B + d) / y := by rw [hQ2, Nat.mul_add_div hy]
      have hd2 : nv l / B ^ k % y = (s.2 * B + d) % y := by rw [hQ2, Nat.mul_add_mod]
      have hlt : (s.2 * B + d) / y < B := by
        rw [Nat.div_lt_iff_lt_mul hy]
        have : (s.2 + 1) * B ≤ y * B := Nat.mul_le_mul_right _ hs2
        rw [Nat.add_mul, Nat.one_mul] at this
        rw [Nat.mul_comm B y]; omega
      rw [B_eq] at hyB dl hlt
      have b64 : (2 : Int) ^ (min (Int.toNat 32) (IntKind.bits .u64)) = 4294967296 := by decide
      have t1 : IntKind.wrap .u64 ((s.2 : Int) * 4294967296) = ((s.2 * 4294967296 : Nat) : Int) := by rw [wrapU64 (by omega) (by omega)]; omega
      have t2 : IntKind.wrap .u64 (d : Int) = (d : Int) := wrapU64 (by omega) (by omega)
      have t3 : IntKind.wrap .u64 (y : Int) = (y : Int) := wrapU64 (by omega) (by omega)
      have t4 : IntKind.wrap .u64 (Int.tdiv ((s.2 * 4294967296 + d : Nat) : Int) (y : Int)) = (((s.2 * 4294967296 + d) / y : Nat) : Int) := by
        rw [show Int.tdiv ((s.2 * 4294967296 + d : Nat) : Int) (y : Int) = (((s.2 * 4294967296 + d) / y : Nat) : Int) from rfl]
        generalize (s.2 * 4294967296 + d) / y = qq at hlt ⊢
        exact wrapU64 (by omega) (by omega)
      have t5 : Int.tmod ((s.2 * 4294967296 + d : Nat) : Int) (y : Int) = (((s.2 * 4294967296 + d) % y : Nat) : Int) := rfl
      have t6 : IntKind.wrap .u32 (((s.2 * 4294967296 + d) / y : Nat) : Int) = (((s.2 * 4294967296 + d) / y : Nat) : Int) := by
        generalize (s.2 * 4294967296 + d) / y = qq at hlt ⊢
        exact wrapU32 (by omega) (by omega)
      simp only [nat_shorten_l3_succ, show ((k + 1 : Nat) : Int) - 1 = (k : Int) by omega, Int.toNat_natCast, hget, hlen, toInt_int, b64, t1, t2, t3, or_limb' (show s.2 < 4294967296 by omega) dl, t4, t5, t6]
      have hset : ((l.take (k + 1) ++ s.1).map dB).set k (D.int (((s.2 * 4294967296 + d) / y : Nat) : Int)) = (l.take k ++ (BitVec.ofNat 32 ((s.2 * 4294967296 + d) / y) :: s.1)).map dB := by
        rw [dB_ofNat hlt, map_set, List.take_succ_eq_append_getElem hk, List.append_assoc, List.set_append_right _ _ (by rw [List.length_take]; omega), List.length_take, Nat.min_eq_left (by omega), Nat.sub_self]; rfl
      rw [hset, wrap64 (by omega) (by omega)]
      have hne : (!((y : Int) == 0)) = true := by simp; omega
      refine wp_dec (by omega) (wp_tt (by decide) (wp_dec (by omega) (wp_dec (by omega) (wp_tt hne (wp_dec (by omega) (wp_dec (by omega) (wp_tt hne ?_)))))))
      refine ih (BitVec.ofNat 32 ((s.2 * 4294967296 + d) / y) :: s.1, (s.2 * 4294967296 + d) % y) ⟨by omega, by simp; omega, ?_, hd2.symm⟩
      rw [nv, ofNat_lt hlt]
      show (s.2 * B + d) / y + B * nv s.1 = _
      rw [hd1, Nat.add_comm])
    (l.length + 1) l.length ([], 0) (by omega) ⟨by omega, by simp, by rw [Nat.div_eq_of_lt (nv_lt l)]; simp, by rw [Nat.div_eq_of_lt (nv_lt l)]; simp⟩
  rw [List.take_length, List.append_nil] at key
  rw [wrap64 (by omega) (by omega)]
  exact key
/-- What the long division has to tell. -/
def LongOk (x y : Nat) : Prop := 1 < (lb y).length → y ≤ x → Sp 91 [dL (lb x), dL (lb y)] [dL (lb (x / y)), dL (lb (x % y))]
theorem nat_DivMod_sp (a b : List Limb) (ha : a.length ≤ 100000) (hb : b.length ≤ 100000) (hL : LongOk (nv a) (nv b)) : Sp 77 [dL a, dL b] [dL (lb (nv a / nv b)), dL (lb (if nv b = 0 then 0 else nv a % nv b)), .bool (decide (nv b ≠ 0))] := by
  refine sound_ 0 (nat_DivMod_tree _ _ _) (wp_call (nat_trim_sp a (by omega)) (wp_call (nat_trim_sp b (by omega)) ?_))
  have la : (lb (nv a)).length ≤ a.length := lb_len.2 (nv_lt a)
  have lb_ : (lb (nv b)).length ≤ b.length := lb_len.2 (nv_lt b)
  simp only [getD_c0, els_dL, List.length_map, int_beq]
  refine wp_decs (fun h => wp_ret ?_) (fun h => ?_)
  · have h0 : nv b = 0 := lb_len0.1 (by omega)
    rw [h0, Nat.div_zero, if_pos rfl, lb_zero]; rfl
  have h0 : nv b ≠ 0 := fun hh => h (by rw [hh, lb_zero]; rfl)
  rw [if_neg h0, decide_eq_true h0]
  have cm := nat_Cmp_sp (lb (nv a)) (lb (nv b)) (by omega) (by omega)
  rw [nv_lb, nv_lb] at cm
  refine wp_call cm ?_
  simp only [getD_c0, toInt_int]
  refine wp_decs (fun h1 => ?_) (fun h1 => ?_)
  · have hlt : nv a < nv b := by
      unfold cmpN at h1
      rcases Nat.lt_or_ge (nv a) (nv b) with h2 | h2
      · exact h2
      · rw [if_neg (by omega)] at h1; split at h1 <;> omega
    have nm := nat_Norm_sp (lb (nv a)) (by omega)
    rw [nv_lb] at nm
    refine wp_call nm (wp_ret ?_)
    rw [Nat.div_eq_of_lt hlt, Nat.mod_eq_of_lt hlt, lb_zero]; rfl
  have hge : nv b ≤ nv a := by
    unfold cmpN at h1
    rcases Nat.lt_or_ge (nv a) (nv b) with h2 | h2
    · rw [if_pos h2] at h1; omega
    · exact h2
  refine wp_decs (fun h2 => ?_) (fun h2 => ?_)
  · obtain ⟨d, hd⟩ : ∃ d, lb (nv b) = [d] := by
      match hh : lb (nv b) with
      | [d] => exact ⟨d, rfl⟩
      | [] => rw [hh] at h2; simp at h2
      | _ :: _ :: _ => rw [hh] at h2; simp at h2; omega
    have hbv : nv b = d.toNat := by rw [← nv_lb (nv b), hd]; simp [nv]
    have nm := nat_Norm_sp (lb (nv a)) (by omega)
    rw [nv_lb] at nm
    refine wp_call nm ?_
    simp only [hd, List.map_cons, List.map_nil, List.length_cons, List.length_nil, Int.toNat_zero, getD_c0, els_dL, toInt_dB]
    rw [← hbv]
    have hdB : nv b < B := by rw [hbv]; exact limb_lt d
    obtain ⟨q, q1, q2, q3⟩ := nat_shorten_ex (lb (nv a)) (nv b) (by omega) hdB (by omega)
    rw [nv_lb] at q2 q3
    refine wp_dec (by omega) (wp_dec (by omega) (wp_call q3 ?_))
    have hr : nv a % nv b < B := Nat.lt_of_lt_of_le (Nat.mod_lt _ (by omega)) (by omega)
    simp only [getD_c0, getD_c1, els_sl, toInt_int]
    refine wp_call (nat_trim_sp q (by omega)) ?_
    rw [dB_ofNat hr]
    refine wp_call (nat_Norm_sp [BitVec.ofNat 32 (nv a % nv b)] (by simp)) (wp_ret ?_)
    have e : nv [BitVec.ofNat 32 (nv a % nv b)] = nv a % nv b := by simp only [nv]; rw [ofNat_lt hr]; omega
    rw [e, q2]; rfl
  · exact wp_call (hL (by omega) hge) (wp_ret rfl)
end Go.Proofs.YtcdjifdllibolaaGreat

set_option maxRecDepth 100000
namespace Go.Proofs.YtcdjifdllibolaaGreat

theorem zv_neg {w : Wh} (h : nv w.mag ≠ 0) : (zv w < 0) ↔ w.neg = true := by unfold zv; cases w.neg <;> simp <;> omega
def lenZ (z : Int) : Nat := (lb z.natAbs).length
end Go.Proofs.YtcdjifdllibolaaGreat

set_option maxRecDepth 100000
namespace Go.Proofs.YtcdjifdllibolaaGreat

theorem inr (z : Int) (h1 : -100000 ≤ z := by decide) (h2 : z ≤ 100000 := by decide) : inR z := by unfold inR; omega
end Go.Proofs.YtcdjifdllibolaaGreat

