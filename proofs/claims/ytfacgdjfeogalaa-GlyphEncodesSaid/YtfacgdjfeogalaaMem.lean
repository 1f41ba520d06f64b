/- Words for memory: a slice value that reads as a list; how it is kept. -/
import Derived.Test.YtfacgdjfeogalaaRows
import Derived.WalkKit
import Derived.WalkSpells
import Derived.WalkLawsBesides
import Derived.Lib.Hide
import Derived.Deep.QuietTactic
import Derived.BigQuiet
namespace Go.Proofs.Ytfacgdjfeogalaa
open Go.RowKit

/-- All old memory is as it was; new memory may have come. -/
def Ext (w w' : World) : Prop := Below w.heap.size w w'
theorem Ext.refl (w : World) : Ext w w := Below.refl _ _
theorem Ext.trans {a b c : World} (h : Ext a b) (k : Ext b c) : Ext a c := Below.trans h (Below.mono k (Below.size h))
theorem Ext.alloc {a b : World} (h : Ext a b) (o : Obj) : Ext a (b.alloc o) := Below.alloc h (Below.size h) o
theorem Ext.drew {a b : World} (h : Ext a b) : Ext a b.drew := Below.drew h
theorem Ext.drewN {a b : World} (h : Ext a b) (n : Nat) : Ext a (b.drewN n) := ⟨h.os, h.tape, h.output, h.size, h.block⟩
theorem Ext.setCell {a b : World} (h : Ext a b) {p : Addr} (hp : a.heap.size ≤ p.block) (u : Value) : Ext a (b.setCell p u) := Below.setCell h hp u
theorem Ext.grown {a w w' : World} {row : Option Nat} (h : Ext a w) (hg : w.grownBy w' row) (hr : ∀ k, row = some k → a.heap.size ≤ k) : Ext a w' := Below.grown h hg (Below.size h) hr
theorem Ext.size {a b : World} (h : Ext a b) : a.heap.size ≤ b.heap.size := Below.size h
theorem Ext.cell {a b : World} (h : Ext a b) {p : Addr} (hp : p.block < a.heap.size) : b.cell? p = a.cell? p := Below.cell h hp
theorem Ext.frozen {a b : World} (h : Ext a b) {p : Addr} (hp : p.block < a.heap.size) : b.frozen? p = a.frozen? p := Below.frozen h hp

theorem blk_add (a : Addr) (n : Nat) : (a.add n).block = a.block := by unfold Addr.add; split <;> rfl

/-- The slice value v has n elements of so many cells each, and these cells read as xs. -/
def SlN (w : World) (size n : Nat) (v : Value) (xs : List Value) : Prop :=
  ∃ A c, v = .slice A n c ∧ n ≤ c ∧ xs.length = n * size ∧ ∀ i x, xs[i]? = some x → ∃ ad, A = some ad ∧ ad.block < w.heap.size ∧ w.cell? (ad.add i) = some x

theorem SlN.keep {w w' : World} {size n : Nat} {v : Value} {xs : List Value} (h : SlN w size n v xs) (hb : Ext w w') : SlN w' size n v xs := by
  obtain ⟨A, c, rfl, hc, hl, h⟩ := h
  refine ⟨A, c, rfl, hc, hl, fun i x hx => ?_⟩
  obtain ⟨ad, rfl, hl, hx⟩ := h i x hx
  exact ⟨ad, rfl, Nat.lt_of_lt_of_le hl hb.size, (hb.cell (p := ad.add i) (by rw [blk_add]; exact hl)).trans hx⟩

/-- The slice value v reads as these integers. -/
def SlI (w : World) (v : Value) (k : IntKind) (xs : List Int) : Prop := SlN w 1 xs.length v (xs.map (.int k))

theorem SlI.keep {w w' : World} {v : Value} {k : IntKind} {xs : List Int} (h : SlI w v k xs) (hb : Ext w w') : SlI w' v k xs := SlN.keep h hb
theorem SlI.drewN {w : World} {v : Value} {k : IntKind} {xs : List Int} (h : SlI w v k xs) (n : Nat) : SlI (w.drewN n) v k xs := h.keep ((Ext.refl _).drewN n)
theorem SlI.alloc {w : World} {v : Value} {k : IntKind} {xs : List Int} (h : SlI w v k xs) (o : Obj) : SlI (w.alloc o) v k xs := h.keep ((Ext.refl _).alloc o)

theorem SlI.form {w : World} {v : Value} {k : IntKind} {xs : List Int} (h : SlI w v k xs) :
    ∃ A c, v = .slice A xs.length c ∧ xs.length ≤ c ∧ ∀ i (hi : i < xs.length), ∃ ad, A = some ad ∧ ad.block < w.heap.size ∧ w.cell? (ad.add i) = some (.int k (xs[i]'hi)) := by
  obtain ⟨A, c, hv, hc, _, h⟩ := h
  exact ⟨A, c, hv, hc, fun i hi => h i _ (by simp [hi])⟩

/-- A block just made, whole, reads as a slice of its cells. -/
theorem SlN.made {w : World} {b : Nat} {cs : List Value} {t : TypeId} {size n c : Nat} (h : w.heap[b]? = some (.cells cs.toArray t (0, 0))) (hn : cs.length = n * size) (hc : n ≤ c) : SlN w size n (.slice (some ⟨b, 0, none⟩) n c) cs := by
  refine ⟨_, _, rfl, hc, hn, fun i x hx => ⟨_, rfl, ?_, ?_⟩⟩
  · rcases Nat.lt_or_ge b w.heap.size with hlt | hge
    · exact hlt
    · rw [Array.getElem?_eq_none hge] at h; cases h
  · have ha : (⟨b, 0, none⟩ : Addr).add i = ⟨b, i, none⟩ := by unfold Addr.add; split <;> simp_all
    rw [ha, cell_of_row w b i _ t (0, 0) h]
    simpa using hx
theorem SlI.made {w : World} {b : Nat} {k : IntKind} {xs : List Int} {t : TypeId} {n c : Nat} (h : w.heap[b]? = some (.cells (xs.map (.int k)).toArray t (0, 0))) (hn : n = xs.length) (hc : n ≤ c) : SlI w (.slice (some ⟨b, 0, none⟩) n c) k xs := by
  subst hn; exact SlN.made h (by simp) hc
theorem SlI.nil_ (w : World) (k : IntKind) : SlI w (.slice none 0 0) k [] := ⟨none, 0, rfl, Nat.le_refl _, rfl, fun i x hx => by simp at hx⟩

/-- A slice's element type: its number, how many cells and bytes it has. -/
structure Elt (P : Program) (t e : TypeId) (size bytes : Nat) : Prop where
  under : P.underlying t = some (.slice e)
  info : ∃ i z, P.info? e = some i ∧ i.zero = some z ∧ i.size = size ∧ i.bytes = bytes ∧ z.cells.size = size
  pos : 0 < size

/-- A row of the call's own (it began in the world w0): v has n elements, whose cells are xs. -/
structure Own (w0 w : World) (e : TypeId) (size n : Nat) (v : Value) (xs : List Value) : Prop where
  own : w.ownsRow w0.heap.size e size v n xs
  ext : Ext w0 w

section
variable {w0 w w' : World} {e : TypeId} {size n : Nat} {v : Value} {xs : List Value}
theorem Own.nil_ (e : TypeId) (size : Nat) (h : Ext w0 w) : Own w0 w e size 0 (.slice none 0 0) [] := ⟨World.ownsRow_nil _ _ _ _, h⟩
theorem Own.step (h : Own w0 w e size n v xs) (hw : Ext w w') : Own w0 w' e size n v xs :=
  ⟨h.own.kept (row := none) ⟨hw.os, hw.tape, hw.output, hw.size, fun k hk _ => hw.block k hk⟩ (by cases v.ownBlock <;> simp), h.ext.trans hw⟩
theorem Own.alloc (h : Own w0 w e size n v xs) (o : Obj) : Own w0 (w.alloc o) e size n v xs := h.step ((Ext.refl _).alloc o)
theorem Own.drew (h : Own w0 w e size n v xs) : Own w0 w.drew e size n v xs := h.step ((Ext.refl _).drew)
theorem Own.drewN (h : Own w0 w e size n v xs) (k : Nat) : Own w0 (w.drewN k) e size n v xs := h.step ((Ext.refl _).drewN k)
theorem Own.grown (h : Own w0 w e size n v xs) (hg : w.grownBy w' v.ownBlock) : Ext w0 w' := h.ext.grown hg (fun k hk => (h.own.lt k hk).1)
theorem Own.sl (h : Own w0 w e size n v xs) : SlN w size n v xs := by
  rcases h.own.2 with ⟨rfl, rfl⟩ | ⟨g, cap, cur, rfl, hb, hg, hnc, _, hcs, htake⟩
  · exact ⟨none, 0, rfl, Nat.le_refl _, h.own.1, fun i x hx => by
      have hl := h.own.1
      have : xs = [] := List.eq_nil_of_length_eq_zero (by simpa using hl)
      subst this; simp at hx⟩
  · refine ⟨_, _, rfl, hnc, h.own.1, fun i x hx => ⟨_, rfl, (Array.getElem?_eq_some_iff.1 hg).1, h.own.cells (g := g) rfl i x hx⟩⟩
theorem Own.len (h : Own w0 w e size n v xs) : xs.length = n * size := h.own.1
end

section
variable {P : Program} {w0 w : World}
/-- append, the source read as it lies: nil, empty or not. -/
theorem wpList_app {ops : Array Oper} {rest : List Oper} {o : Oper} {a : Act} {Q : Exit → Act → World → Prop} {t e : TypeId} {size bytes : Nat} (hE : Elt P t e size bytes)
    (hgd : o.guard = none) (s x : Operand)
    (ho : o.op = .call { callee := .builtin .append, args := #[s, x], argTypes := #[t, t] })
    {n m : Nat} {v u : Value} {xs news : List Value} (hs : a.eval s = v) (hown : Own w0 w e size n v xs) (hx : a.eval x = u) (hr : SlN w size m u news) (h1 : ∀ y ∈ news, y.oneCell' = true)
    (hb : (n + m) * bytes ≤ 140737488355328) (hm : n + m ≤ maxLen)
    (h : ∀ v' w', Own w0 w' e size (n + m) v' (xs ++ news) → w.grownBy w' v.ownBlock → wpList P ops Q rest (a.put o.dst v') w') : wpList P ops Q (o :: rest) a w := by
  obtain ⟨i, z, hi, hz, hsz, hby, hzc⟩ := hE.info
  obtain ⟨A, c, rfl, hmc, hl, hc⟩ := hr
  by_cases hm0 : m = 0
  · subst hm0
    have hn : news = [] := List.eq_nil_of_length_eq_zero (by simpa using hl)
    subst hn
    have hrun : ∀ ty, (Builtin.append_ #[t, t] ty #[v, .slice A 0 c]).run P w = .ok v w := by
      intro ty
      rcases hown.own.2 with ⟨rfl, rfl⟩ | ⟨g, cap, cur, rfl, _, _, hnc, _⟩
      · cases A <;> simp [Builtin.append_, run_underlying hE.under, sizeOf, typeInfo, hi, Builtin.lenOf, Builtin.firstCells, loadCells, loadCellsFrom]
      · cases A <;> simp [Builtin.append_, run_underlying hE.under, sizeOf, typeInfo, hi, Builtin.lenOf, Builtin.firstCells, loadCells, loadCellsFrom, hnc, storeCells]
    refine wpList_plain hgd fun K hK => ?_
    unfold Oper.wp execOp
    simp only [ho, resolve, invoke, builtin, Sem.run_bind, Sem.run_pure, Result.andThen_ok, List.map_toArray, List.map_cons, List.map_nil, hs, hx, hrun]
    exact hK _ _ (h v w (by simpa using hown) (World.grownBy.refl w _))
  · have hp : 0 < m * size := Nat.mul_pos (by omega) hE.pos
    obtain ⟨ad, rfl, _⟩ := hc 0 _ (List.getElem?_eq_getElem (by omega))
    refine wpList_append_own w hgd s x t ho w0.heap.size e i z size bytes hE.under hi hz hsz hby hzc hE.pos v n xs hs hown.own ad m c news hx hl ?_ h1 hm hb hown.ext.size (fun v' w' h2 h3 _ => h v' w' ⟨h2, hown.grown h3⟩ h3)
    intro j u hu
    obtain ⟨ad', he, _, hcell⟩ := hc j u hu
    cases he
    exact hcell
/-- make([]T, 0, n). -/
theorem wpList_mk0 {ops : Array Oper} {rest : List Oper} {o : Oper} {a : Act} {Q : Exit → Act → World → Prop} {t e : TypeId} {size bytes : Nat} (hE : Elt P t e size bytes)
    (hg : o.guard = none) (l c : Operand) (hop : o.op = Op.makeSlice t l c) (hw : Ext w0 w)
    {kl kc : IntKind} (n : Nat) (hl : a.eval l = .int kl 0) (hc : a.eval c = .int kc (n : Int)) (hb : bytes * n ≤ 281474976710656) (hm : n ≤ maxLen)
    (h : ∀ v' w', Own w0 w' e size 0 v' [] → Ext w w' → wpList P ops Q rest (a.put o.dst v') w') : wpList P ops Q (o :: rest) a w := by
  obtain ⟨i, z, hi, hz, hsz, hby, hzc⟩ := hE.info
  refine wpList_make_own w hg l c t hop w0.heap.size e i z size hE.under hi hz hsz kl kc n n hl hc rfl (by rw [hby]; exact hb) hm hw.size (fun w' h1 h2 => ?_)
  have hx : Ext w w' := (Ext.refl w).grown h2 (fun k hk => by cases hk)
  exact h _ w' ⟨h1, hw.trans hx⟩ hx
/-- make([]T, n). -/
theorem wpList_mkn {ops : Array Oper} {rest : List Oper} {o : Oper} {a : Act} {Q : Exit → Act → World → Prop} {t e : TypeId} {size bytes : Nat} (hE : Elt P t e size bytes)
    (hg : o.guard = none) (l c : Operand) (hop : o.op = Op.makeSlice t l c) (hw : Ext w0 w)
    {kl kc : IntKind} (n : Nat) (hl : a.eval l = .int kl (n : Int)) (hc : a.eval c = .int kc (n : Int)) (hb : bytes * n ≤ 281474976710656) (hm : n ≤ maxLen)
    (h : ∀ v' w' z, (∃ i, P.info? e = some i ∧ i.zero = some z) → Own w0 w' e size n v' (madeCells z.cells (n * size)).toList → Ext w w' → wpList P ops Q rest (a.put o.dst v') w') : wpList P ops Q (o :: rest) a w := by
  obtain ⟨i, z, hi, hz, hsz, hby, hzc⟩ := hE.info
  refine wpList_make_full w hg l c t hop w0.heap.size e i z size hE.under hi hz hsz kl kc n n n hl hc rfl rfl (by rw [hby]; exact hb) hm hw.size (fun w' h1 h2 => ?_)
  have hx : Ext w w' := (Ext.refl w).grown h2 (fun k hk => by cases hk)
  exact h _ w' z ⟨i, hi, hz⟩ ⟨h1, hw.trans hx⟩ hx
end

theorem grown_of_ext {w w1 w' : World} {row : Option Nat} (h : Ext w w1) (hg : w1.grownBy w' row) : w.grownBy w' row :=
  ⟨hg.os.trans h.os, hg.tape.trans h.tape, hg.output.trans h.output, Nat.le_trans h.size hg.size, fun k hk hne => (hg.block k (Nat.lt_of_lt_of_le hk h.size) hne).trans (h.block k hk)⟩
theorem grown_alloc {w w' : World} {row : Option Nat} {o : Obj} (hg : (w.alloc o).grownBy w' row) : w.grownBy w' row := grown_of_ext ((Ext.refl _).alloc o) hg

theorem quietL {P : Program} {f : FuncId} {args : Array Value} {w : World} {n : Nat} {v : Value}
    (h : Calls P f args (w.drewN n) fun e w' => e = .returned v ∧ w.drewN n = w') : Calls P f args (w.drewN n) fun e w'' => e = .returned v ∧ ∃ m, w'' = w.drewN m :=
  h.mono fun _ _ ⟨he, hm⟩ => ⟨he, n, hm.symm⟩

/-- Bytes, as numbers, as a string. -/
def strOf (ns : List Int) : ByteArray := ⟨(ns.map fun n => UInt8.ofNat n.toNat).toArray⟩
theorem foldl_push (ns : List Int) : ∀ s : ByteArray, ns.foldl (fun r n => r.push (UInt8.ofNat n.toNat)) s = ⟨s.data ++ (ns.map fun n => UInt8.ofNat n.toNat).toArray⟩ := by
  induction ns with
  | nil => intro s; simp
  | cons n ns ih =>
    intro s
    rw [List.foldl_cons, ih]
    simp [ByteArray.push]
theorem conv_str {P : Program} {w : World} {v : Value} {ns : List Int} {src dst e : TypeId} (h : SlI w v .u8 ns)
    (hs : P.underlying src = some (.slice e)) (he : P.underlying e = some (.int .u8)) (hd : P.underlying dst = some .string) :
    (convert src dst v).run P w = .ok (.string (strOf ns)) w := by
  obtain ⟨A, c, rfl, _, hl, hc⟩ := h
  rw [run_convert_bytes_string w src dst e A _ c hs he hd]
  cases ns with
  | nil =>
    cases A with
    | none => simp [Conv.bytesToString, Sem.run_pure, strOf]; rfl
    | some ad =>
      show Sem.run P (Conv.bytesToString (Value.slice (some ad) 0 c)) w = _
      rw [run_bytesToString (P := P) w ad 0 c [] (by simp [loadCells, loadCellsFrom, Sem.run_pure])]
      rfl
  | cons n ns =>
    obtain ⟨ad, rfl, _⟩ := hc 0 (.int .u8 n) (by simp)
    have hld := run_loadCells_list (P := P) (w := w) ad ((n :: ns).map (Value.int .u8)) (fun j u hu => by
      obtain ⟨ad', he, _, hcell⟩ := hc j u hu
      cases he
      exact hcell)
    rw [List.length_map] at hld
    rw [run_bytesToString (P := P) w ad _ c (n :: ns) hld, foldl_push]
    simp [strOf, ByteArray.empty, ByteArray.emptyWithCapacity]
    rfl

/-- What is told: a slice that reads as these integers; old memory is as it was. -/
def RetSlI (k : IntKind) (xs : List Int) (w : World) (e : Ending) (w' : World) : Prop := ∃ v, e = .returned v ∧ SlI w' v k xs ∧ Ext w w'

end Go.Proofs.Ytfacgdjfeogalaa
