/- Proved: lemmas for the law of this folder, part 2. No condition. -/
import Derived.Test.YtjmddikeadbmjaaGreatRows
import Derived.WalkKit
import Derived.WalkSpells
import Derived.WalkLawsBesides
import Derived.Lib.Hide
import Derived.Laws.CopyOwn
import Derived.Deep.QuietTactic
import Derived.BigQuiet
import Derived.Orders
import Derived.Defers
import Derived.Recover
import Derived.Test.YtjmddikeadbmjaaGreatProg
import Derived.KernelRfl
import Derived.ProofKit
import Derived.OpenShut
import Derived.Test.YtjmddikeadbmjaaGreatZ236ab944
set_option linter.unusedSimpArgs false
set_option linter.unusedVariables false
namespace Go.Proofs.YtjmddikeadbmjaaGreat
open Go.RowKit

section
variable {P : Program} {md : Nat → FMode} {w0 w w' : World} {N0 M0 M : Nat → Prop} {slot : Nat → L} {look lookR : Nat → Option Blk} {used : Nat → Prop} {ds : Dfs} {β : Nat → Value} {a : Act} {n : Nat}
theorem mem_rowsL_ids : ∀ {l : L}, ∀ r ∈ l.rows, r ∈ l.ids := by
  intro l
  induction l using L.rec (motive_2 := fun ls => ∀ r ∈ L.rowsL ls, r ∈ L.idsL ls) with
  | agg t ls ih => intro r hr; simp only [L.rows] at hr; simp only [L.ids]; exact ih r hr
  | row r => intro q hq; simpa [L.rows, L.ids] using hq
  | nil => rename_i r hr; simp [L.rowsL] at hr
  | cons l ls ih1 ih2 => rename_i r hr; simp only [L.rowsL, List.mem_append] at hr; simp only [L.idsL, List.mem_append]; exact hr.imp (ih1 r) (ih2 r)
  | _ => intro r hr; simp [L.rows] at hr
theorem setP_rd : ∀ {p : List Nat} {t t' : Nat} {x y : D} {c c' : Nat → Option Value}, RdC P md w M (.ty t) x c → typeAt P t p = some t' → 0 < P.cellsOf t → RdC P md w M (.ty t') y (fun j => c' (offAt P t p + j)) →
    (∀ j, j < P.cellsOf t → (j < offAt P t p ∨ offAt P t p + P.cellsOf t' ≤ j) → c' j = c j) → RdC P md w M (.ty t) (x.setP p y) c'
  | [], t, t', x, y, c, c', h, ht, hp, hy, hc => by
    simp only [typeAt, Option.some.injEq] at ht
    subst ht
    simpa [D.setP, offAt] using hy
  | i :: p, t, t', x, y, c, c', h, ht, hp, hy, hc => by
    simp only [typeAt] at ht
    split at ht
    · cases ht
    · rename_i fs hfs
      split at ht
      · rename_i f hf
        simp only [offAt, hfs, hf] at hy hc
        have hok := (fieldsOf_under hfs).2
        have hfa := okFs_at hok hf
        have hpi := path_in ht
        have hrf := rd_fld h hfs hf
        have ih := setP_rd (c' := fun j => c' (f.offset + j)) hrf ht hfa.1 (by rwa [show (fun j => c' (f.offset + offAt P f.type p + j)) = (fun j => c' (f.offset + (offAt P f.type p + j))) from funext fun j => by rw [Nat.add_assoc]] at hy)
          (fun j hj hj' => hc (f.offset + j) (by omega) (by omega))
        obtain ⟨⟨b, hb, _⟩, _⟩ := fieldsOf_under hfs
        cases h with
        | int ht' _ _ _ => rw [show P.underlying t = _ from ht'] at hb; cases hb
        | bool ht' _ => rw [show P.underlying t = _ from ht'] at hb; cases hb
        | str ht' _ _ => rw [show P.underlying t = _ from ht'] at hb; cases hb
        | sl ht' _ _ _ _ _ => rw [show P.underlying t = _ from ht'] at hb; cases hb
        | fn ht' _ _ _ _ _ _ _ _ _ => rw [show P.underlying t = _ from ht'] at hb; cases hb
        | ref ht' _ _ _ _ => rw [show P.underlying t = _ from ht'] at hb; cases hb
        | @struct _ fs' dd _ ht' hl hel =>
          rw [hfs] at ht'
          injection ht' with ht'
          subst ht'
          simp only [D.setP, D.fs]
          refine .struct hfs (by simpa using hl) (fun q g d hg hd => ?_)
          by_cases e : q = i
          · subst e
            rw [hf] at hg
            injection hg with hg
            subst hg
            have hlt : q < dd.length := by rw [hl]; exact (List.getElem?_eq_some_iff.1 hf).1
            rw [List.getElem?_set_self hlt] at hd
            injection hd with hd
            subst hd
            exact ih
          · rw [List.getElem?_set_ne (Ne.symm e)] at hd
            have hga := okFs_at hok hg
            refine (hel q g d hg hd).congr (fun j hj => ?_) hga.1
            have hj' : j < P.cellsOf g.type := hj
            refine hc _ (by omega) ?_
            rcases Nat.lt_or_gt_of_ne e with h' | h'
            · have := okFs_disj hok hg hf h'; exact .inl (by omega)
            · have := okFs_disj hok hf hg h'; exact .inr (by omega)
      · cases ht
theorem conv_size (hP : WfP P) {l : L} {c : Nat → Option Value} {t : Nat} {x : D} {v : Value} (hx : conv P md lookR l t = some x) (h : LC P md w M look β l c) (hs : szOk P l v) (hu : (P.underlying t).isSome = true) : v.cells.size = P.cellsOf t ∧ isAggV v = isAggT P t := by
  obtain ⟨h1, h2, h3⟩ := conv_sz hx h hs
  refine ⟨?_, h3⟩
  cases ha : isAggT P t with
  | true => exact h2 ha
  | false => rcases h1 ha with h | h; rw [h, hP.one t ha hu]; exact h
theorem R.blt (h : R P md w0 N0 M0 slot look used ds n β a w) : ∀ r b B, look r = some b → ownB (β r) = some B → B < w.heap.size := fun r b B hb hB => (h.own r b B hb hB).2
/-- An operand, as data, when its rows are written no more. -/
theorem opd_rd (hP : WfP P) (h : R P md w0 N0 M0 slot look used ds n β a w) (hsub : ∀ r b, lookR r = some b → look r = some b) {M' : Nat → Prop} (hM : ∀ b, M' b → Mof M0 look β b) {x : Operand} {t : Nat} {y : D} (hx : conv P md lookR (opd slot x) t = some y) (ha : Away M' look β (fzOf lookR (opd slot x))) : Rd P md w M' (.ty t) y (a.eval x) ∧ szOk P (opd slot x) (a.eval x) := by
  obtain ⟨n1, n2, n3⟩ := conv_ne hx
  obtain ⟨hl, hs⟩ := vl_ne (opd_vl h x) n1 n2 n3
  have hrd := conv_rd hsub hM h.blks h.blt hl hx ha
  have hsz := conv_size hP hx hl hs (rd_under hrd)
  exact ⟨⟨hrd, hsz.1, hsz.2⟩, hs⟩
theorem op_store_row (hP : WfP P) (h : R P md w0 N0 M0 slot look used ds n β a w) (hsub : ∀ r b, lookR r = some b → look r = some b) {o : Oper} {t : TypeId} {x y : Operand} (ho : o.op = .store t x y) {r e j : Nat} {p : List Nat} {es : List D} {z : D} (hx' : opd slot x = .rptr r j p) (hr : look r = some (.row e es true)) (hz : conv P md lookR (opd slot y) t = some z) (ht : typeAt P e p = some t) (hn : r ∉ fzOf lookR (opd slot y)) :
    Does P o a w (Outc P md w0 N0 M0 slot look used ds n a .skip (fzEff lookR (fzOf lookR (opd slot y)) ++ [(r, some (.row e (es.set j ((es.getD j .nil).setP p z)) true))])) := by
  have hx := opd_vl h x
  rw [hx'] at hx
  obtain ⟨hj, _, vx⟩ := vl_rptr hx hr
  have h1 := h.fz hsub (fzOf lookR (opd slot y))
  have hr1 : effF look (fzEff lookR (fzOf lookR (opd slot y))) r = some (.row e es true) := by rw [fz_other _ _ _ hn]; exact hr
  obtain ⟨hrd, hsz⟩ := opd_rd hP h hsub (fz_M h hsub _) hz (fz_away h hsub _)
  generalize hlk : effF look (fzEff lookR (fzOf lookR (opd slot y))) = look1 at *
  have hrow : RowV P md w (Mof M0 look1 β) e es (β r) := h1.blks r _ hr1
  obtain ⟨B, cur, cap, r1, r2, r3, r4, r5, r6, r7, r8, r9⟩ := row_cell hrow hj
  have hpi := path_in ht
  have hpt := hpi.2 r7
  have hvs : (a.eval y).cells.size = P.cellsOf t := hrd.size
  have hjc : j * P.cellsOf e + P.cellsOf e ≤ cur.size := by
    rw [r5, ← Nat.succ_mul]; exact Nat.mul_le_mul_right _ (by omega)
  have hrun := run_storeVar (P := P) (w := w) (t := t) (off := j * P.cellsOf e + offAt P e p) (v := a.eval y) r4 hpt hvs (by omega) hsz.ones
  have hlen : (a.eval y).cells.toList.length = P.cellsOf t := by simpa using hvs
  have hcell := fun q => splice_at (cs := cur) (vs := (a.eval y).cells.toList) (off := j * P.cellsOf e + offAt P e p) (by rw [hlen]; omega) q
  rw [hlen] at hcell
  generalize hcs' : (cur.toList.take (j * P.cellsOf e + offAt P e p) ++ (a.eval y).cells.toList ++ cur.toList.drop (j * P.cellsOf e + offAt P e p + P.cellsOf t)).toArray = cur' at *
  have hst : Stp (fun q => ownB (β r) = some q) w (w.setRow B cur') := by rw [r2]; exact stp_setRow w B cur'
  have hlike : likeB (.row e es true) (.row e (es.set j ((es.getD j .nil).setP p z)) true) := ⟨rfl, by simp⟩
  have hlive : ∀ b, ¬ Mof M0 look1 β b → b < w.heap.size → (w.setRow B cur').heap[b]? = w.heap[b]? := fun b hn hlt => hst.block b hlt (fun hb => hn (.inr ⟨r, _, hr1, rfl, hb⟩))
  have hMM : ∀ b, Mof M0 (updN look1 r (some (.row e (es.set j ((es.getD j .nil).setP p z)) true))) β b → b < w.heap.size → Mof M0 look1 β b := by
    intro b hb _
    rcases hb with hb | ⟨q, k, hq, hk, hqB⟩
    · exact .inl hb
    · by_cases e : q = r
      · subst e; exact .inr ⟨q, _, hr1, rfl, hqB⟩
      · rw [updN_ne _ _ e] at hq; exact .inr ⟨q, k, hq, hk, hqB⟩
  have hcs'sz : cur'.size = cur.size := by rw [← hcs']; simp; omega
  have hcap : 0 < cap := by omega
  have hR := h1.upd (b' := .row e (es.set j ((es.getD j .nil).setP p z)) true) hr1 rfl rfl hlike hst (by intro q hq; simp [Blk.ids] at hq) (by
    refine ⟨some ⟨B, 0, none⟩, cap, by rw [List.length_set]; exact r1, .inr ⟨B, cur', rfl, hcap, setRow_heap w B cur cur' e _ r4, by rw [List.length_set]; exact r6, ?_, by rw [hcs'sz]; exact r5, r7, fun i u hu => ?_⟩⟩
    · obtain ⟨A, cap', hv, hh⟩ := hrow
      rw [hv] at r1
      injection r1 with _ _ e3
      subst e3
      rcases hh with ⟨_, rfl⟩ | ⟨_, _, _, _, _, _, g, _⟩
      · omega
      · exact g
    · refine RdC.mono (w := w) (M := Mof M0 look1 β) ?_ hst.size hlive hMM
      by_cases hij : i = j
      · subst hij
        rw [List.getElem?_set_self hj] at hu
        injection hu with hu
        subst hu
        have hel := r8 i (es.getD i .nil) (by simp [List.getD, hj])
        refine setP_rd hel ht r7 (hrd.rd.congr (fun q hq => ?_) (by show 0 < P.cellsOf t; exact hpt)) (fun q hq hq' => ?_)
        · have hq1 : q < P.cellsOf t := hq
          show cur'[i * P.cellsOf e + (offAt P e p + q)]? = _
          rw [hcell, if_neg (by omega), if_pos (by omega)]
          rw [show i * P.cellsOf e + (offAt P e p + q) - (i * P.cellsOf e + offAt P e p) = q by omega]
          simp
        · rw [hcell]
          rcases hq' with hq' | hq'
          · rw [if_pos (by omega)]
          · rw [if_neg (by omega), if_neg (by omega)]
      · rw [List.getElem?_set_ne (Ne.symm hij)] at hu
        refine (r8 i u hu).congr (fun q hq => ?_) (by show 0 < P.cellsOf e; exact r7)
        have hq1 : q < P.cellsOf e := hq
        rw [hcell]
        rcases Nat.lt_or_gt_of_ne hij with h' | h'
        · have : i * P.cellsOf e + P.cellsOf e ≤ j * P.cellsOf e := by rw [← Nat.succ_mul]; exact Nat.mul_le_mul_right _ h'
          rw [if_pos (by omega)]
        · have : j * P.cellsOf e + P.cellsOf e ≤ i * P.cellsOf e := by rw [← Nat.succ_mul]; exact Nat.mul_le_mul_right _ h'
          rw [if_neg (by omega), if_neg (by omega)])
  refine does_skip (w' := w.setRow B cur') (by simp [execOp, ho, vx, Instr.storeAt, Instr.sureAddr, r3, hrun]) ⟨β, ?_, .inr (.inl ⟨rfl, rfl⟩), fun q hq => by simp [L.ids] at hq⟩
  rw [effF_append, hlk]
  exact hR.weak (fun q hq => .inl hq)
end

end Go.Proofs.YtjmddikeadbmjaaGreat
namespace Go.Proofs.YtjmddikeadbmjaaGreat
open Go.RowKit

/-- A row in a block of w', of elements that are data in w. -/
def RowN (P : Program) (md : Nat → FMode) (w w' : World) (M : Nat → Prop) (e : Nat) (es : List D) (v : Value) : Prop :=
  ∃ A cap, v = .slice A es.length cap ∧ ((es = [] ∧ cap = 0) ∨ ∃ B cur, A = some ⟨B, 0, none⟩ ∧ 0 < cap ∧ w'.heap[B]? = some (.cells cur e (0, 0)) ∧ es.length ≤ cap ∧ cap ≤ maxLen ∧ cur.size = cap * P.cellsOf e ∧ 0 < P.cellsOf e ∧
    ∀ (i : Nat) (x : D), es[i]? = some x → RdC P md w M (.ty e) x (fun j => cur[i * P.cellsOf e + j]?))
section
variable {P : Program} {md : Nat → FMode} {w0 w w' : World} {N0 M0 M : Nat → Prop} {slot : Nat → L} {look lookR : Nat → Option Blk} {used : Nat → Prop} {ds : Dfs} {β : Nat → Value} {a : Act} {n : Nat}
theorem RowN.row {M' : Nat → Prop} {e : Nat} {es : List D} {v : Value} (h : RowN P md w w' M e es v) (hs : w.heap.size ≤ w'.heap.size) (hb : ∀ b, ¬ M b → b < w.heap.size → w'.heap[b]? = w.heap[b]?) (hM : ∀ b, M' b → b < w.heap.size → M b) : RowV P md w' M' e es v := by
  obtain ⟨A, cap, rfl, hh⟩ := h
  refine ⟨A, cap, rfl, hh.imp id ?_⟩
  rintro ⟨B, cur, rfl, g0, g1, g2, g3, g4, g5, g6⟩
  exact ⟨B, cur, rfl, g0, g1, g2, g3, g4, g5, fun i x hx' => (g6 i x hx').mono hs hb hM⟩
theorem row_val {r e : Nat} {es : List D} {v : Value} {β' : Nat → Value} {look' : Nat → Option Blk} {M' : Nat → Prop} (hβ : β' r = v) (hv : ∃ A k cap, v = .slice A k cap) : VL P md w' M' look' β' (.row r) v := by
  obtain ⟨A, k, cap, rfl⟩ := hv
  exact vl_mk (by simp) (.row ⟨_, rfl, rfl⟩ (fun _ _ _ _ => by rw [hβ]; rfl)) ⟨rfl, rfl, ones_one rfl⟩
/-- A new row: in a block that is new, or nothing. -/
theorem new_row (h : R P md w0 N0 M0 slot look used ds n β a w) (hx : Ext w w') {r e : Nat} (hr : ¬ used r) {es : List D} {v : Value} (hv : ∀ B, ownB v = some B → w.heap.size ≤ B ∧ B < w'.heap.size) (hrow : RowN P md w w' (Mof M0 look β) e es v) :
    Outc P md w0 N0 M0 slot look used ds n a (.row r) [(r, some (.row e es true))] v w' := by
  have hM : ∀ b, Mof M0 (updN look r (some (.row e es true))) (updN β r v) b → b < w.heap.size → Mof M0 look β b := by
    intro b hb hlt
    rcases hb with hb | ⟨q, k, hq, hk, hB⟩
    · exact .inl hb
    · by_cases e : q = r
      · subst e; rw [updN_same] at hB; have := hv b hB; omega
      · rw [updN_ne _ _ e] at hq hB; exact .inr ⟨q, k, hq, hk, hB⟩
  have hR := h.new hx hr (.row e es true) v (by intro q hq; simp [Blk.ids] at hq) hv (by
    show RowV P md w' _ e es (updN β r v r)
    rw [updN_same]
    exact hrow.row hx.size (fun b _ hb => hx.block b hb) hM)
  refine ⟨updN β r v, hR.weak (fun q hq => ?_), row_val (es := es) (e := e) (updN_same _ _ _) ?_, fun q hq => ?_⟩
  · rcases hq with hq | rfl
    · exact .inl hq
    · exact .inr ⟨_, List.mem_singleton.2 rfl⟩
  · obtain ⟨A, cap, rfl, _⟩ := hrow; exact ⟨_, _, _, rfl⟩
  · simp only [L.ids, List.mem_singleton] at hq
    subst hq
    exact .inr ⟨_, List.mem_singleton.2 rfl⟩
theorem made_at {z : Array Value} {m j : Nat} (hj : j < m) : (madeCells z m)[j]? = some (z[j % z.size]!) := by
  simp [madeCells, hj]
theorem op_make (h : R P md w0 N0 M0 slot look used ds n β a w) (hsub : ∀ r b, lookR r = some b → look r = some b) {o : Oper} {t : TypeId} {x y : Operand} (ho : o.op = .makeSlice t x y) {d e : Nat} (hd : ¬ used d) {k m : Int} {k1 k2 : IntKind} (hx' : opd slot x = .i k1 k) (hy' : opd slot y = .i k2 m) (he : tElem P t = some e) (hok : lenOkT P e = true) {z : L} (hz : zeroOf P e = some z) {u : D} (hu : conv P md lookR z e = some u) (h0 : 0 ≤ k) (h1 : k ≤ m) (h2 : m ≤ bigN) :
    Does P o a w (Outc P md w0 N0 M0 slot look used ds n a (.row d) [(d, some (.row e (List.replicate k.toNat u) true))]) := by
  have hx := opd_vl h x
  have hy := opd_vl h y
  rw [hx'] at hx
  rw [hy'] at hy
  obtain ⟨vx, _⟩ := vl_i hx
  obtain ⟨vy, _⟩ := vl_i hy
  obtain ⟨i, v, hi, hv, c1, c2, c3, c4, c5⟩ := zeroOf_ok hz
  simp only [lenOkT, Bool.and_eq_true, decide_eq_true_eq] at hok
  have hby : i.bytes ≤ 65536 := by have := hok.1; simpa [Program.bytesOf, hi] using this
  have hsz : i.size = P.cellsOf e := by simp [Program.cellsOf, hi]
  unfold bigN at h2
  obtain ⟨mm, rfl⟩ := Int.eq_ofNat_of_zero_le (show 0 ≤ m by omega)
  obtain ⟨kk, rfl⟩ := Int.eq_ofNat_of_zero_le h0
  have hmm : mm ≤ 1073741824 := by omega
  have hkm : kk ≤ mm := by omega
  have hprod : i.bytes * mm ≤ 65536 * 1073741824 := Nat.mul_le_mul hby hmm
  have hr := run_make (P := P) w t e i v (tElem_under he) hi hv k1 k2 kk mm (by omega) (by omega) (by
    have : ((i.bytes * mm : Nat) : Int) ≤ 281474976710656 := by omega
    rwa [Int.natCast_mul] at this) (by omega)
  simp only [Int.toNat_natCast] at hr ⊢
  refine does_run (v := .slice (some ⟨w.heap.size, 0, none⟩) kk mm) (w' := w.alloc (.cells (madeCells v.cells (mm * i.size)) e)) (by simp [execOp, ho, vx, vy, hr]) (new_row h ((Ext.refl w).alloc _) hd (fun B hB => ?_) ?_)
  · simp only [ownB] at hB
    split at hB
    · cases hB
    · injection hB with hB; subst hB; simp
  · refine ⟨some ⟨w.heap.size, 0, none⟩, mm, by simp, ?_⟩
    by_cases hm0 : mm = 0
    · exact .inl ⟨by rw [show kk = 0 by omega]; rfl, hm0⟩
    · refine .inr ⟨w.heap.size, madeCells v.cells (mm * i.size), rfl, by omega, heap_alloc_new w _, by simpa using hkm, by unfold maxLen; omega, by rw [size_madeCells, hsz], c2, fun q xx hq => ?_⟩
      have hq' : q < kk ∧ xx = u := by
        rw [List.getElem?_replicate] at hq
        split at hq
        · injection hq with hq; exact ⟨by assumption, hq.symm⟩
        · cases hq
      obtain ⟨hqk, rfl⟩ := hq'
      obtain ⟨z1, z2, z3⟩ := zero_lc (md := md) (w := w) (M := Mof M0 look β) (look := fun _ => none) (β := β) c5
      have hrd : RdC P md w (Mof M0 look β) (.ty e) xx (fun j => v.cells[j]?) := by
        have hnf : ∀ f caps, z ≠ .fn f caps := by
          intro f caps hzf
          rw [hzf] at c5
          simp only [zeroL] at c5
          split at c5 <;> (try split at c5) <;> (try split at c5) <;> simp at c5
        rw [conv_fn_false hnf] at hu
        have hrows : z.rows = [] := by
          cases hrr : z.rows with
          | nil => rfl
          | cons q qs => have := mem_rowsL_ids (l := z) q (by rw [hrr]; simp); rw [z2] at this; cases this
        exact conv0_rd (lookR := lookR) (M' := Mof M0 look β) (look := look) (M := Mof M0 look β) (β := β) hsub (fun _ hb => hb) (fun r e es lv hr => h.blks r _ hr) (zero_lc (md := md) (w := w) (M := Mof M0 look β) (look := look) (β := β) c5).1 hu (by rw [hrows]; intro r hr; cases hr)
      refine hrd.congr (fun j hj => ?_) (by show 0 < P.cellsOf e; exact c2)
      have hj' : j < P.cellsOf e := hj
      have hlt : q * P.cellsOf e + j < mm * i.size := by
        rw [hsz]
        have : (q + 1) * P.cellsOf e ≤ mm * P.cellsOf e := Nat.mul_le_mul_right _ (by omega)
        rw [Nat.succ_mul] at this
        omega
      rw [made_at hlt, c1, Nat.mul_add_mod_self_right, Nat.mod_eq_of_lt hj']
      rw [Array.getElem?_eq_getElem (by omega), getElem!_pos _ _ (by omega)]
/-- A part is filled in. -/
theorem foldl_set (vs : List Value) : ∀ (cs : Array Value) (off k : Nat), off + vs.length ≤ cs.size → (vs.zipIdx k).foldl (fun (c : Array Value) (p : Value × Nat) => c.setIfInBounds (off + (p.2 - k)) p.1) cs = (cs.toList.take off ++ vs ++ cs.toList.drop (off + vs.length)).toArray := by
  induction vs with
  | nil =>
    intro cs off k h
    simp
  | cons v vs ih =>
    intro cs off k h
    simp only [List.zipIdx_cons, List.foldl_cons, Nat.sub_self, Nat.add_zero]
    have hh : ∀ (l : List (Value × Nat)) (c : Array Value), (∀ p ∈ l, k + 1 ≤ p.2) → l.foldl (fun (c : Array Value) (p : Value × Nat) => c.setIfInBounds (off + (p.2 - k)) p.1) c = l.foldl (fun (c : Array Value) (p : Value × Nat) => c.setIfInBounds (off + 1 + (p.2 - (k + 1))) p.1) c := by
      intro l
      induction l with
      | nil => intro c _; rfl
      | cons p l ihl =>
        intro c hp
        simp only [List.foldl_cons]
        have := hp p (by simp)
        rw [show off + (p.2 - k) = off + 1 + (p.2 - (k + 1)) by omega]
        exact ihl _ (fun q hq => hp q (by simp [hq]))
    rw [hh _ _ (fun p hp => by have := List.le_snd_of_mem_zipIdx hp; omega)]
    simp only [List.length_cons] at h
    rw [ih (cs.setIfInBounds off v) (off + 1) (k + 1) (by simp; omega)]
    apply Array.ext'
    simp only [Array.toList_setIfInBounds, List.length_cons]
    have hlt : off < cs.toList.length := by simp; omega
    rw [List.take_set, List.take_succ_eq_append_getElem hlt, List.drop_set_of_lt (by omega), List.set_append_right _ _ (by rw [List.length_take]; omega)]
    simp [show off - min off cs.size = 0 by omega]
    congr 1
    omega
theorem fill_one {place : Nat → Option (Nat × Nat)} {cs : Array Value} {i off size : Nat} {v : Value} {rest : List (Nat × Value)} (hp : place i = some (off, size)) (hs : v.cells.size = size) (hin : off + size ≤ cs.size) :
    Instr.fill place cs ((i, v) :: rest) = Instr.fill place (cs.toList.take off ++ v.cells.toList ++ cs.toList.drop (off + size)).toArray rest := by
  have := foldl_set v.cells.toList cs off 0 (by simpa [hs] using hin)
  simp only [Nat.sub_zero] at this
  have hlen : v.cells.toList.length = size := by simpa using hs
  rw [hlen] at this
  simp only [Instr.fill, hp]
  rw [if_neg (by simp [hs]; omega)]
  congr 1
  rw [← this, ← Array.foldl_toList]
  simp [Array.toList_zipIdx]
theorem op_build (hP : WfP P) (h : R P md w0 N0 M0 slot look used ds n β a w) {o : Oper} {t : TypeId} {ps : Array (Nat × Operand)} (ho : o.op = .build t ps) {fs : List Field} (hfs : fieldsOf P t = some fs) {zs ls : List L} (hz : zeroOf P t = some (.agg t zs)) (hls : setParts P fs (ps.toList.map fun p => (p.1, opd slot p.2)) zs = some ls) :
    Does P o a w (Outc P md w0 N0 M0 slot look used ds n a (.agg t ls) []) := by
  obtain ⟨i, v, hi, hv, c1, c2, c3, c4, c5⟩ := zeroOf_ok hz
  obtain ⟨z1, z2, z3⟩ := zero_lc (md := md) (w := w) (M := Mof M0 look β) (look := look) (β := β) c5
  obtain ⟨⟨b, hb, hbl⟩, hok⟩ := fieldsOf_under hfs
  have hplace : ∀ (q : Nat) (f : Field), fs[q]? = some f → (b.map fun f => (f.offset, P.cellsOf f.type))[q]? = some (f.offset, P.cellsOf f.type) := by
    intro q f hf
    rw [Array.getElem?_map, ← Array.getElem?_toList, hbl, hf]; rfl
  have key : ∀ (pl : List (Nat × Operand)) (zs ls : List L) (cs : Array Value), LC P md w (Mof M0 look β) look β (.agg t zs) (fun j => cs[j]?) → cs.size = P.cellsOf t → (∀ (j : Nat) (u : Value), cs[j]? = some u → u.oneCell' = true) → (∀ r ∈ L.idsL zs, used r) →
      setParts P fs (pl.map fun p => (p.1, opd slot p.2)) zs = some ls → ∃ cs', Instr.fill ((b.map fun f => (f.offset, P.cellsOf f.type))[·]?) cs (pl.map fun p => (p.1, a.eval p.2)) = some cs' ∧ LC P md w (Mof M0 look β) look β (.agg t ls) (fun j => cs'[j]?) ∧ cs'.size = P.cellsOf t ∧ (∀ (j : Nat) (u : Value), cs'[j]? = some u → u.oneCell' = true) ∧ (∀ r ∈ L.idsL ls, used r) := by
    intro pl
    induction pl with
    | nil =>
      intro zs ls cs h1 h2 h3 h4 h5
      simp only [List.map_nil, setParts, Option.some.injEq] at h5
      subst h5
      exact ⟨cs, rfl, h1, h2, h3, h4⟩
    | cons p pl ih =>
      intro zs ls cs h1 h2 h3 h4 h5
      simp only [List.map_cons, setParts] at h5
      split at h5
      · rename_i f hf
        split at h5
        · rename_i hc
          simp only [Bool.and_eq_true, decide_eq_true_eq] at hc
          have hfa := okFs_at hok hf
          obtain ⟨n1, n2, n3⟩ := okAt_ne hc.1
          obtain ⟨hl, hsz⟩ := vl_ne (opd_vl h p.2) n1 n2 n3
          have hvs := (okAt_sz hc.1 hsz).1
          have hlen : (a.eval p.2).cells.toList.length = P.cellsOf f.type := by simpa using hvs
          have hcell := fun j => splice_at (cs := cs) (vs := (a.eval p.2).cells.toList) (off := f.offset) (by rw [hlen]; omega) j
          rw [hlen] at hcell
          have hfill := fill_one (cs := cs) (rest := pl.map fun p => (p.1, a.eval p.2)) (hplace p.1 f hf) hvs (by omega)
          have hsize : (cs.toList.take f.offset ++ (a.eval p.2).cells.toList ++ cs.toList.drop (f.offset + P.cellsOf f.type)).toArray.size = P.cellsOf t := by simp [hlen]; omega
          generalize hcs' : (cs.toList.take f.offset ++ (a.eval p.2).cells.toList ++ cs.toList.drop (f.offset + P.cellsOf f.type)).toArray = cs' at *
          have hpl : zs.length = fs.length := by cases h1 with | agg ht hl _ _ => rw [hfs] at ht; injection ht with ht; subst ht; exact hl
          have hset : setL P t [p.1] (.agg t zs) (opd slot p.2) = some (.agg t (zs.set p.1 (opd slot p.2))) := by
            simp [setL, hfs, partsOf, hpl, hf, List.getElem?_eq_getElem hc.2]
          have hty : typeAt P t [p.1] = some f.type := by simp [typeAt, hfs, hf]
          have hoff : offAt P t [p.1] = f.offset := by simp [offAt, hfs, hf]
          have hs := set_lc (c := fun j => cs[j]?) (c' := fun j => cs'[j]?) h1 hset hty c2 hc.1 (hl.congr (fun j hj => by
              rw [okAt_size hc.1] at hj
              show cs'[offAt P t [p.1] + j]? = _
              rw [hoff, hcell, if_neg (by omega), if_pos (by omega), Nat.add_sub_cancel_left]
              simp) (by rw [okAt_size hc.1]; exact hfa.1)) (fun j hj hj' => by
              show cs'[j]? = _
              rw [hoff] at hj'
              rw [hcell]
              rcases hj' with hj' | hj'
              · rw [if_pos hj']
              · rw [if_neg (by omega), if_neg (by omega)])
          rw [List.map_cons, hfill]
          refine ih _ ls cs' hs.1 hsize (fun j u hu => ?_) (fun r hr => ?_) h5
          · rw [hcell] at hu
            split at hu
            · exact h3 _ _ hu
            · split at hu
              · exact hsz.ones _ u (by simpa using hu)
              · exact h3 _ _ hu
          · rcases hs.2 r (by simpa [L.ids] using hr) with hr | hr
            · exact h4 r (by simpa [L.ids] using hr)
            · exact opd_ids h p.2 r hr
        · cases h5
      · cases h5
  obtain ⟨cs', g1, g2, g3, g4, g5⟩ := key ps.toList zs ls v.cells z1 c1 c4 (fun r hr => by simp only [L.ids] at z2; rw [z2] at hr; cases hr) hls
  refine does_run (v := .agg cs') (w' := w) ?_ (outc_mk h (vl_mk (by simp) g2 ⟨g3, rfl, g4⟩) (by simpa [L.ids] using g5))
  have hmap : (Array.mapM (fun (f : Field) => (do pure (f.offset, ← sizeOf f.type) : Sem (Nat × Nat))) b).run P w = .ok (b.map fun f => (f.offset, P.cellsOf f.type)) w := by
    have hpos : ∀ f ∈ b.toList, 0 < P.cellsOf f.type := by
      intro f hf
      rw [hbl] at hf
      obtain ⟨q, hq⟩ := List.getElem?_of_mem hf
      exact (okFs_at hok hq).1
    rw [Array.mapM_eq_mapM_toList]
    have hlist : ∀ l : List Field, (∀ f ∈ l, 0 < P.cellsOf f.type) → (List.mapM (fun (f : Field) => (do pure (f.offset, ← sizeOf f.type) : Sem (Nat × Nat))) l).run P w = .ok (l.map fun f => (f.offset, P.cellsOf f.type)) w := by
      intro l
      induction l with
      | nil => intro _; simp
      | cons f l ihl =>
        intro hl
        simp only [List.mapM_cons, Sem.run_bind, run_sizeOf (hl f (by simp)), Result.andThen_ok, Sem.run_pure, ihl (fun g hg => hl g (by simp [hg])), List.map_cons]
    have := hlist b.toList hpos
    simp only [map_eq_pure_bind, Sem.run_bind, this, Result.andThen_ok, Sem.run_pure]
    congr 1
    apply Array.ext'
    simp
  have hmap' : (Array.mapM (fun (f : Field) => Functor.map (Prod.mk f.offset) (sizeOf f.type)) b).run P w = .ok (b.map fun f => (f.offset, P.cellsOf f.type)) w := by simpa using hmap
  simp only [Array.getElem?_map] at g1
  simp [execOp, ho, Instr.build, zeroValue, typeInfo, hi, hv, run_underlying hb, hmap', g1]
theorem op_buildSlice (hP : WfP P) (h : R P md w0 N0 M0 slot look used ds n β a w) (hsub : ∀ r b, lookR r = some b → look r = some b) {o : Oper} {t : TypeId} {m : Nat} {ps : Array (Nat × Operand)} (ho : o.op = .buildSlice t m ps) {d e : Nat} (hd : ¬ used d) (he : tElem P t = some e) (hidx : ps.toList.map (·.1) = List.range m) (hok : lenOkT P e = true) (hcap : m * P.cellsOf e ≤ 16777216) (hz : (zeroOf P e).isSome = true) {es : List D}
    (hes : convs P md lookR (ps.toList.map fun p => opd slot p.2) (ps.toList.map fun _ => e) = some es) :
    Does P o a w (Outc P md w0 N0 M0 slot look used ds n a (.row d) (fzEff lookR (fzOfs lookR (ps.toList.map fun p => opd slot p.2)) ++ [(d, some (.row e es true))])) := by
  simp only [lenOkT, Bool.and_eq_true, decide_eq_true_eq] at hok
  obtain ⟨hby, hpe⟩ := hok
  have h1 := h.fz hsub (fzOfs lookR (ps.toList.map fun p => opd slot p.2))
  have hMM := fz_M h hsub (fzOfs lookR (ps.toList.map fun p => opd slot p.2))
  have haw := fz_away h hsub (fzOfs lookR (ps.toList.map fun p => opd slot p.2))
  generalize hlk : effF look (fzEff lookR (fzOfs lookR (ps.toList.map fun p => opd slot p.2))) = look1 at *
  obtain ⟨e1, e2, e3⟩ := convs_at hes
  simp only [List.length_map] at e1 e2
  have hpl : ps.toList.length = m := by have := congrArg List.length hidx; simpa using this
  have hel : ∀ (q : Nat) (p : Nat × Operand), ps.toList[q]? = some p → ∃ x, es[q]? = some x ∧ Rd P md w (Mof M0 look1 β) (.ty e) x (a.eval p.2) ∧ szOk P (opd slot p.2) (a.eval p.2) ∧ p.1 = q := by
    intro q p hp
    have hq : q < ps.toList.length := (List.getElem?_eq_some_iff.1 hp).1
    have hqe : q < es.length := by omega
    have hc := e3 q (opd slot p.2) e es[q] (by rw [List.getElem?_map, hp]; rfl) (by rw [List.getElem?_map, hp]; rfl) (List.getElem?_eq_getElem hqe)
    obtain ⟨g1, g2⟩ := opd_rd hP h hsub hMM hc (fun r hr => haw r (by
      simp only [fzOfs, List.mem_flatMap]
      exact ⟨opd slot p.2, List.mem_map.2 ⟨p, List.mem_of_getElem? hp, rfl⟩, hr⟩))
    refine ⟨es[q], List.getElem?_eq_getElem hqe, g1, g2, ?_⟩
    have := congrArg (fun l => l[q]?) hidx
    simp only [List.getElem?_map, hp, Option.map_some, List.getElem?_range (by omega : q < m), Option.some.injEq] at this
    exact this
  have key : ∀ (pl : List (Nat × Operand)) (k : Nat) (cs : Array Value), pl = ps.toList.drop k → k ≤ m → cs.size = m * P.cellsOf e → (∀ (q : Nat) (x : D), q < k → es[q]? = some x → RdC P md w (Mof M0 look1 β) (.ty e) x (fun j => cs[q * P.cellsOf e + j]?)) →
      ∃ cs', Instr.fill (fun i => some (i * P.cellsOf e, P.cellsOf e)) cs (pl.map fun p => (p.1, a.eval p.2)) = some cs' ∧ cs'.size = m * P.cellsOf e ∧ ∀ (q : Nat) (x : D), es[q]? = some x → RdC P md w (Mof M0 look1 β) (.ty e) x (fun j => cs'[q * P.cellsOf e + j]?) := by
    intro pl
    induction pl with
    | nil =>
      intro k cs hk hkm hsz hcs
      have : m ≤ k := by
        have := congrArg List.length hk
        simp only [List.length_nil, List.length_drop] at this
        omega
      exact ⟨cs, rfl, hsz, fun q x hx => hcs q x (by have := (List.getElem?_eq_some_iff.1 hx).1; omega) hx⟩
    | cons p pl ih =>
      intro k cs hk hkm hsz hcs
      have hkp : ps.toList[k]? = some p := by
        have := congrArg (fun l => l[0]?) hk
        simpa using this.symm
      have hklt : k < m := by have := (List.getElem?_eq_some_iff.1 hkp).1; omega
      obtain ⟨x, hx, hrd, hsz', hpk⟩ := hel k p hkp
      have hvs : (a.eval p.2).cells.size = P.cellsOf e := hrd.size
      have hin : k * P.cellsOf e + P.cellsOf e ≤ cs.size := by
        rw [hsz, ← Nat.succ_mul]; exact Nat.mul_le_mul_right _ hklt
      have hfill := fill_one (place := fun i => some (i * P.cellsOf e, P.cellsOf e)) (cs := cs) (i := p.1) (v := a.eval p.2) (rest := pl.map fun p => (p.1, a.eval p.2)) rfl hvs (by rw [hpk]; exact hin)
      rw [hpk] at hfill
      have hlen : (a.eval p.2).cells.toList.length = P.cellsOf e := by simpa using hvs
      have hcell := fun j => splice_at (cs := cs) (vs := (a.eval p.2).cells.toList) (off := k * P.cellsOf e) (by rw [hlen]; omega) j
      rw [hlen] at hcell
      have hsize : (cs.toList.take (k * P.cellsOf e) ++ (a.eval p.2).cells.toList ++ cs.toList.drop (k * P.cellsOf e + P.cellsOf e)).toArray.size = m * P.cellsOf e := by simp [hlen]; omega
      generalize hcs' : (cs.toList.take (k * P.cellsOf e) ++ (a.eval p.2).cells.toList ++ cs.toList.drop (k * P.cellsOf e + P.cellsOf e)).toArray = cs' at *
      rw [List.map_cons, hpk, hfill]
      refine ih (k + 1) cs' ?_ hklt hsize (fun q y hq hy => ?_)
      · have := congrArg List.tail hk
        simpa using this
      · by_cases hqk : q = k
        · subst hqk
          rw [hx] at hy
          injection hy with hy
          subst hy
          refine hrd.rd.congr (fun j hj => ?_) (by show 0 < P.cellsOf e; exact hpe)
          have hj' : j < P.cellsOf e := hj
          rw [hcell, if_neg (by omega), if_pos (by omega), Nat.add_sub_cancel_left]
          simp
        · refine (hcs q y (by omega) hy).congr (fun j hj => ?_) (by show 0 < P.cellsOf e; exact hpe)
          have hj' : j < P.cellsOf e := hj
          have : q * P.cellsOf e + P.cellsOf e ≤ k * P.cellsOf e := by rw [← Nat.succ_mul]; exact Nat.mul_le_mul_right _ (by omega)
          rw [hcell, if_pos (by omega)]
  obtain ⟨z, hz⟩ := Option.isSome_iff_exists.1 hz
  obtain ⟨ie, zv, hie, hzv, _⟩ := zeroOf_ok hz
  obtain ⟨cs', g1, g2, g3⟩ := key ps.toList 0 ((Array.range (m * P.cellsOf e)).map ((if m * P.cellsOf e = 0 then #[] else zv.cells)[· % (if m * P.cellsOf e = 0 then #[] else zv.cells).size]!)) rfl (Nat.zero_le _) (by simp) (fun q x hq => by omega)
  have hle : ¬ (16777216 < m * P.cellsOf e) := by omega
  have hrun : (execOp a.eval o).run P w = .ok (.value (.slice (some ⟨w.heap.size, 0, none⟩) m m)) (w.alloc (.cells cs' e)) := by
    by_cases h0 : m * P.cellsOf e = 0
    · simp only [h0, if_true] at g1
      simp [execOp, ho, Instr.buildSlice, run_underlying (tElem_under he), run_sizeOf hpe, h0, newRow]
      have hr0 : ∀ f : Nat → Value, Array.map f (Array.range 0) = #[] := fun f => by apply Array.ext'; simp
      rw [hr0] at g1
      rw [hr0]
      simp [g1]
    · simp only [h0, if_false] at g1
      simp [execOp, ho, Instr.buildSlice, run_underlying (tElem_under he), run_sizeOf hpe, h0, hle, zeroValue, typeInfo, hie, hzv, newRow, g1]
  have hout := new_row h1 (w' := w.alloc (.cells cs' e)) ((Ext.refl w).alloc _) hd (e := e) (es := es) (v := .slice (some ⟨w.heap.size, 0, none⟩) m m) (fun B hB => by
      simp only [ownB] at hB
      split at hB
      · cases hB
      · injection hB with hB; subst hB; simp) (by
      refine ⟨some ⟨w.heap.size, 0, none⟩, m, by rw [e2, hpl], ?_⟩
      by_cases hm0 : m = 0
      · exact .inl ⟨List.eq_nil_of_length_eq_zero (by omega), hm0⟩
      · refine .inr ⟨w.heap.size, cs', rfl, by omega, heap_alloc_new w _, by omega, ?_, g2, hpe, g3⟩
        have : m * 1 ≤ m * P.cellsOf e := Nat.mul_le_mul_left _ hpe
        unfold maxLen
        omega)
  refine does_run hrun ?_
  obtain ⟨β', q1, q2, q3⟩ := hout
  refine ⟨β', ?_, ?_, fun r hr => ?_⟩
  · rw [effF_append, hlk]
    exact q1.weak (fun r hr => hr.imp id (fun ⟨b, hb⟩ => ⟨b, List.mem_append_right _ hb⟩))
  · rw [effF_append, hlk]; exact q2
  · exact (q3 r hr).imp id (fun ⟨b, hb⟩ => ⟨b, List.mem_append_right _ hb⟩)
end

end Go.Proofs.YtjmddikeadbmjaaGreat
namespace Go.Proofs.YtjmddikeadbmjaaGreat
open Go.RowKit

section
variable {P : Program} {md : Nat → FMode} {w0 w w' : World} {N0 M0 M : Nat → Prop} {slot : Nat → L} {look lookR : Nat → Option Blk} {used : Nat → Prop} {ds : Dfs} {β : Nat → Value} {a : Act} {n : Nat}
theorem sl_parts {t e : Nat} {es : List D} {A : Option Addr} {k cap : Nat} (h : RdC P md w M (.ty t) (.sl es) (fun j => (Value.slice A k cap).cells[j]?)) (ht : P.underlying t = some (.slice e)) : k = es.length ∧ k ≤ cap ∧ cap ≤ maxLen ∧
    ∃ bk off, (es ≠ [] → A = some ⟨bk, off, none⟩ ∧ ¬ M bk ∧ bk < w.heap.size) ∧ ∀ (i : Nat) (x : D), es[i]? = some x → RdC P md w M (.ty e) x (fun j => w.cell? ⟨bk, off + (i * P.cellsOf e + j), none⟩) := by
  cases h with
  | @sl _ e' _ _ A' cap' bk off ht' hc' g1 g2 hA hel =>
    have ht2 : P.underlying t = some (.slice e') := ht'
    rw [ht] at ht2
    injection ht2 with ht2
    injection ht2 with ht2
    subst ht2
    have hcc : Value.slice A k cap = .slice A' es.length cap' := by simpa [Value.cells] using hc'
    injection hcc with c1 c2 c3
    subst c1
    subst c3
    exact ⟨c2, by omega, g2, bk, off, hA, hel⟩
/-- The cells of a slice's elements. -/
theorem els_cells (hP : WfP P) {e : Nat} {es : List D} {bk off : Nat} (hp : 0 < P.cellsOf e) (hel : ∀ (i : Nat) (x : D), es[i]? = some x → RdC P md w M (.ty e) x (fun j => w.cell? ⟨bk, off + (i * P.cellsOf e + j), none⟩)) :
    ∃ (news : List Value), news.length = es.length * P.cellsOf e ∧ (∀ (j : Nat) (v : Value), news[j]? = some v → w.cell? ((⟨bk, off, none⟩ : Addr).add j) = some v) ∧ (∀ u ∈ news, u.oneCell' = true) ∧
      ∀ (i : Nat) (x : D), es[i]? = some x → RdC P md w M (.ty e) x (fun j => news[i * P.cellsOf e + j]?) := by
  have hall : ∀ j, j < es.length * P.cellsOf e → ∃ u, w.cell? ⟨bk, off + j, none⟩ = some u ∧ u.oneCell' = true := by
    intro j hj
    have hi : j / P.cellsOf e < es.length := (Nat.div_lt_iff_lt_mul hp).2 hj
    obtain ⟨u, hu, h1⟩ := (hel (j / P.cellsOf e) es[j / P.cellsOf e] (List.getElem?_eq_getElem hi)).cells hP (j % P.cellsOf e) (Nat.mod_lt _ hp)
    refine ⟨u, ?_, h1⟩
    have : j / P.cellsOf e * P.cellsOf e + j % P.cellsOf e = j := by rw [Nat.mul_comm]; exact Nat.div_add_mod _ _
    rwa [this] at hu
  refine ⟨(List.range (es.length * P.cellsOf e)).map fun j => (w.cell? ⟨bk, off + j, none⟩).getD undef, by simp, fun j v hv => ?_, fun u hu => ?_, fun i x hx => ?_⟩
  · rw [List.getElem?_map] at hv
    by_cases hj : j < es.length * P.cellsOf e
    · rw [List.getElem?_range hj] at hv
      obtain ⟨u, hu, _⟩ := hall j hj
      simp only [Option.map_some, hu, Option.getD_some, Option.some.injEq] at hv
      rw [Addr.add_lit, hu, hv]
    · rw [List.getElem?_eq_none (by simpa using hj)] at hv; cases hv
  · obtain ⟨j, hj, rfl⟩ := List.mem_map.1 hu
    obtain ⟨u, hu, h1⟩ := hall j (List.mem_range.1 hj)
    rw [hu]; exact h1
  · have hi : i < es.length := (List.getElem?_eq_some_iff.1 hx).1
    refine (hel i x hx).congr (fun j hj => ?_) (by show 0 < P.cellsOf e; exact hp)
    have hj' : j < P.cellsOf e := hj
    have hlt : i * P.cellsOf e + j < es.length * P.cellsOf e := by
      have : (i + 1) * P.cellsOf e ≤ es.length * P.cellsOf e := Nat.mul_le_mul_right _ hi
      rw [Nat.succ_mul] at this
      omega
    obtain ⟨u, hu, _⟩ := hall _ hlt
    rw [List.getElem?_map, List.getElem?_range hlt]
    simp [hu]
theorem row_els {e : Nat} {es : List D} {A : Option Addr} {k c : Nat} (h : RowV P md w M e es (.slice A k c)) (hne : es ≠ []) : ∃ B cur, A = some ⟨B, 0, none⟩ ∧ 0 < c ∧ w.heap[B]? = some (.cells cur e (0, 0)) ∧ es.length ≤ c ∧ c ≤ maxLen ∧ cur.size = c * P.cellsOf e ∧ k = es.length ∧
    ∀ (i : Nat) (x : D), es[i]? = some x → RdC P md w M (.ty e) x (fun j => w.cell? ⟨B, 0 + (i * P.cellsOf e + j), none⟩) := by
  obtain ⟨A', cap, hv, hh⟩ := h
  injection hv with e1 e2 e3
  subst e1
  subst e3
  rcases hh with ⟨rfl, _⟩ | ⟨B, cur, rfl, h0, h1, h2, h3, h4, h5, h6⟩
  · exact absurd rfl hne
  · refine ⟨B, cur, rfl, h0, h1, h2, h3, h4, e2, fun i x hx => ?_⟩
    have := h6 i x hx
    rwa [show (fun j => cur[i * P.cellsOf e + j]?) = (fun j => w.cell? ⟨B, 0 + (i * P.cellsOf e + j), none⟩) from funext fun j => by rw [cell_of_row w B _ cur e (0, 0) h1, Nat.zero_add]] at this
/-- The elements of a slice operand: where they stand, and their cells. -/
theorem src_cells (hP : WfP P) (h : R P md w0 N0 M0 slot look used ds n β a w) (hsub : ∀ r b, lookR r = some b → look r = some b) {t e : Nat} (ht : tElem P t = some e) (hp : 0 < P.cellsOf e) {y : Operand} {xs : List D} (hxs : elsOf P lookR t (opd slot y) = some xs) (hne : xs ≠ []) :
    ∃ (bk off c2 : Nat) (news : List Value), a.eval y = .slice (some ⟨bk, off, none⟩) xs.length c2 ∧ xs.length ≤ c2 ∧ news.length = xs.length * P.cellsOf e ∧ (∀ (j : Nat) (v : Value), news[j]? = some v → w.cell? ((⟨bk, off, none⟩ : Addr).add j) = some v) ∧ (∀ u ∈ news, u.oneCell' = true) ∧
      (∀ (i : Nat) (x : D), xs[i]? = some x → RdC P md w (Mof M0 look β) (.ty e) x (fun j => news[i * P.cellsOf e + j]?)) ∧ (¬ Mof M0 look β bk ∨ ∃ r, opd slot y = .row r ∧ ownB (β r) = some bk) := by
  have hu := tElem_under ht
  obtain ⟨e', A2, c2, hu2, hv2, l1, l2⟩ := els_val h hsub hxs
  cases hy : opd slot y with
  | d t' z =>
    have hrd := els_rd h hsub (M' := Mof M0 look β) (fun b hb => hb) (by rw [hy]; intro r hr; simp [L.rows] at hr) hxs
    rw [hv2] at hrd
    obtain ⟨_, _, _, bk, off, hA, hel⟩ := sl_parts hrd hu
    obtain ⟨rfl, hM, hb⟩ := hA hne
    obtain ⟨news, g1, g2, g3, g4⟩ := els_cells hP hp hel
    exact ⟨bk, off, c2, news, hv2, l1, g1, g2, g3, g4, .inl hM⟩
  | row r =>
    have hx := opd_vl h y
    rw [hy] at hx hxs
    simp only [elsOf] at hxs
    split at hxs
    · rename_i e2 es2 lv hr
      split at hxs
      · rename_i hc
        injection hxs with hxs
        subst hxs
        have hee : e2 = e := by
          have h3 : tElem P t = some e2 := by simpa using hc
          rw [ht] at h3
          injection h3 with h3
          exact h3.symm
        subst hee
        have hlk := hsub _ _ hr
        have vx := vl_row hx hlk
        have hrow : RowV P md w (Mof M0 look β) e2 es2 (β r) := h.blks r _ hlk
        rw [← vx, hv2] at hrow
        obtain ⟨B, cur, rfl, q0, q1, q2, q3, q4, q5, hel⟩ := row_els hrow hne
        obtain ⟨news, g1, g2, g3, g4⟩ := els_cells hP hp hel
        refine ⟨B, 0, c2, news, hv2, l1, g1, g2, g3, g4, .inr ⟨r, rfl, ?_⟩⟩
        rw [← vx, hv2]
        simp [ownB]
        omega
      · cases hxs
    · cases hxs
  | mt =>
    rw [hy] at hxs
    simp [elsOf] at hxs
    exact absurd hxs.2 hne
  | _ => rw [hy] at hxs; simp [elsOf] at hxs
theorem run_app_none {t e : Nat} (ht : P.underlying t = some (.slice e)) (hp : 0 < P.cellsOf e) (ty : TypeId) {A A2 : Option Addr} {k c c2 : Nat} (hk : k ≤ c) : (Builtin.append_ #[t, t] ty #[.slice A k c, .slice A2 0 c2]).run P w = .ok (.slice A k c) w := by
  obtain ⟨i, hi, hs⟩ := info_of hp
  cases A <;> cases A2 <;> simp [Builtin.append_, run_underlying ht, sizeOf, typeInfo, hi, Builtin.lenOf, Builtin.firstCells, loadCells, loadCellsFrom, hk, storeCells]
theorem drew_alloc_ext (w : World) (o : Obj) : Ext w (w.drew.alloc o) := ((Ext.refl w).drew).alloc o
/-- append to nothing. -/
theorem run_app_empty {t e : Nat} (ht : P.underlying t = some (.slice e)) (hp : 0 < P.cellsOf e) (hby : P.bytesOf e ≤ 65536) (hz : (zeroOf P e).isSome = true) (ty : TypeId) {A : Option Addr} {bk off m c : Nat} {news : List Value} (hl : news.length = m * P.cellsOf e) (hnews : ∀ (j : Nat) (v : Value), news[j]? = some v → w.cell? ((⟨bk, off, none⟩ : Addr).add j) = some v) (hm : 0 < m) (hmb : m ≤ bigN) :
    ∃ cur cap, (Builtin.append_ #[t, t] ty #[.slice A 0 0, .slice (some ⟨bk, off, none⟩) m c]).run P w = .ok (.slice (some ⟨w.heap.size, 0, none⟩) m cap) (w.drew.alloc (.cells cur e)) ∧ m ≤ cap ∧ cap ≤ maxLen ∧ cur.size = cap * P.cellsOf e ∧ ∀ j, j < news.length → cur[j]? = news[j]? := by
  obtain ⟨z, hz⟩ := Option.isSome_iff_exists.1 hz
  obtain ⟨i, v, hi, hv, c1, c2, c3, c4, c5⟩ := zeroOf_ok hz
  have hsz : i.size = P.cellsOf e := by simp [Program.cellsOf, hi]
  have hb : i.bytes ≤ 65536 := by simpa [Program.bytesOf, hi] using hby
  unfold bigN at hmb
  have hprod : m * i.bytes ≤ 1073741824 * 65536 := Nat.mul_le_mul hmb hb
  have hge := grownCap_ge w m 0 e
  have hle := grownCap_le_maxLen w m 0 e (by unfold maxLen; omega)
  have hcur : (news.toArray ++ Builtin.zeroCells v.cells (grownCap w m 0 e - m)).size = grownCap w m 0 e * P.cellsOf e := by
    simp only [Array.size_append, List.size_toArray, size_zeroCells, c1, hl, ← Nat.add_mul]
    congr 1
    omega
  have hat : ∀ j, j < news.length → (news.toArray ++ Builtin.zeroCells v.cells (grownCap w m 0 e - m))[j]? = news[j]? := by
    intro j hj
    rw [Array.getElem?_append_left (by simpa using hj)]
    simp
  cases A with
  | none =>
    have hr := run_append_nil (P := P) w t ty e i v ht hi hv ⟨bk, off, none⟩ m c news (by rw [hsz]; exact hl) hnews (by omega) (by omega) (by omega)
    exact ⟨_, _, hr, hge, hle, hcur, hat⟩
  | some b =>
    have hr := run_append_grow (P := P) w t ty e i v ht hi hv b 0 0 [] (by simp) (by simp) ⟨bk, off, none⟩ m c news (by rw [hsz]; exact hl) hnews (by omega) (by omega) (by rw [Nat.zero_add, nextslicecap_zero (by omega)]; omega)
    have e0 : ([] : List Value).toArray = #[] := rfl
    rw [e0] at hr
    simp only [Nat.zero_add, Array.empty_append] at hr
    exact ⟨_, _, hr, hge, hle, hcur, hat⟩
/-- The row that was there goes on under another name. -/
theorem app_fin (h : R P md w0 N0 M0 slot look used ds n β a w) {r d e : Nat} {es0 es' : List D} (hr : look r = some (.row e es0 true)) (hd : ¬ used d) {v' : Value} (hst : Stp (fun x => ownB (β r) = some x) w w')
    (hv : ∀ B, ownB v' = some B → (ownB (β r) = some B ∨ w.heap.size ≤ B) ∧ B < w'.heap.size) (hrow : RowN P md w w' (Mof M0 look β) e es' v') :
    Outc P md w0 N0 M0 slot look used ds n a (.row d) [(r, none), (d, some (.row e es' true))] v' w' := by
  have hsz := h.stp.size
  have hdr : d ≠ r := fun e => hd (e ▸ (h.usedB r _ hr).1)
  have hne : ∀ q, used q → q ≠ d := fun q hq e => hd (e ▸ hq)
  have hM : ∀ b, Mof M0 (updN (updN look r none) d (some (.row e es' true))) (updN β d v') b → b < w.heap.size → Mof M0 look β b := by
    intro b hb hlt
    rcases hb with hb | ⟨q, k, hq, hk, hB⟩
    · exact .inl hb
    · by_cases e : q = d
      · subst e
        rw [updN_same] at hB
        rcases (hv b hB).1 with h1 | h1
        · exact .inr ⟨r, _, hr, rfl, h1⟩
        · omega
      · rw [updN_ne _ _ e] at hq hB
        by_cases e2 : q = r
        · subst e2; rw [updN_same] at hq; cases hq
        · rw [updN_ne _ _ e2] at hq; exact .inr ⟨q, k, hq, hk, hB⟩
  have hlive : ∀ b, ¬ Mof M0 look β b → b < w.heap.size → w'.heap[b]? = w.heap[b]? := fun b hn hlt => hst.block b hlt (fun hb => hn (.inr ⟨r, _, hr, rfl, hb⟩))
  have hR : R P md w0 N0 M0 slot (updN (updN look r none) d (some (.row e es' true))) (fun q => used q ∨ q = d) ds n (updN β d v') a w' := by
    refine h.step _ hst (fun x hx => ⟨r, _, hr, rfl, hx⟩) (fun q hq k hk => ?_) (fun q k hq => ?_) hM (fun q1 q2 k1 k2 B h1 h2 h3 h4 => ?_) (fun _ hu => .inl hu)
    · rw [updN_ne _ _ (hne q hq)] at hk ⊢
      by_cases e2 : q = r
      · subst e2; rw [updN_same] at hk; cases hk
      · rw [updN_ne _ _ e2] at hk; exact ⟨k, hk, likeB.refl _, rfl⟩
    · by_cases e : q = d
      · subst e
        rw [updN_same] at hq
        injection hq with hq
        subst hq
        refine .inr ⟨?_, by intro x hx; simp [Blk.ids] at hx, .inr rfl, fun B hB => ?_⟩
        · show RowV P md w' _ _ es' (updN β q v' q)
          rw [updN_same]
          exact hrow.row hst.size hlive hM
        · rw [updN_same] at hB
          obtain ⟨g1, g2⟩ := hv B hB
          refine ⟨?_, g2⟩
          rcases g1 with g1 | g1
          · exact (h.own r _ B hr g1).1
          · exact .inl (by omega)
      · rw [updN_ne _ _ e] at hq
        by_cases e2 : q = r
        · subst e2; rw [updN_same] at hq; cases hq
        · rw [updN_ne _ _ e2] at hq
          exact .inl ⟨hq, updN_ne _ _ e, fun B hB hB' => e2 (h.sep q r k _ B hq hr hB hB')⟩
    · have g : ∀ q k, updN (updN look r none) d (some (.row e es' true)) q = some k → q ≠ d → look q = some k ∧ q ≠ r := fun q k hq hqd => by
        rw [updN_ne _ _ hqd] at hq
        by_cases e2 : q = r
        · subst e2; rw [updN_same] at hq; cases hq
        · rw [updN_ne _ _ e2] at hq; exact ⟨hq, e2⟩
      have gd : ∀ q k, look q = some k → q ≠ r → q ≠ d → ∀ B, ownB v' = some B → ownB (β q) = some B → False := by
        intro q k hq hqr hqd B hB hB2
        rcases (hv B hB).1 with g1 | g1
        · exact hqr (h.sep q r k _ B hq hr hB2 g1)
        · have := (h.own q k B hq hB2).2; omega
      by_cases e1 : q1 = d <;> by_cases e2 : q2 = d
      · rw [e1, e2]
      · subst e1
        rw [updN_same] at h3
        rw [updN_ne _ _ e2] at h4
        obtain ⟨g1, g2⟩ := g q2 k2 h2 e2
        exact (gd q2 k2 g1 g2 e2 B h3 h4).elim
      · subst e2
        rw [updN_same] at h4
        rw [updN_ne _ _ e1] at h3
        obtain ⟨g1, g2⟩ := g q1 k1 h1 e1
        exact (gd q1 k1 g1 g2 e1 B h4 h3).elim
      · rw [updN_ne _ _ e1] at h3
        rw [updN_ne _ _ e2] at h4
        exact h.sep q1 q2 k1 k2 B (g q1 k1 h1 e1).1 (g q2 k2 h2 e2).1 h3 h4
  refine ⟨updN β d v', hR.weak (fun q hq => ?_), row_val (es := es') (e := e) (updN_same _ _ _) ?_, fun q hq => ?_⟩
  · rcases hq with hq | rfl
    · exact .inl hq
    · exact .inr ⟨.row e es' true, by simp⟩
  · obtain ⟨A, cap, rfl, _⟩ := hrow; exact ⟨_, _, _, rfl⟩
  · simp only [L.ids, List.mem_singleton] at hq
    subst hq
    exact .inr ⟨.row e es' true, by simp⟩
theorem row_at {es xs : List D} {m sz : Nat} {cur : Array Value} {cells : List Value} (h : ∀ j, j < cells.length → cur[j]? = cells[j]?) (hl : cells.length = m * sz) {i j : Nat} (hi : i < m) (hj : j < sz) : cur[i * sz + j]? = cells[i * sz + j]? := by
  refine h _ ?_
  rw [hl]
  have : (i + 1) * sz ≤ m * sz := Nat.mul_le_mul_right _ hi
  rw [Nat.succ_mul] at this
  omega
theorem ext_stp {N : Nat → Prop} (h : Ext w w') : Stp N w w' := Stp.of_ext h
/-- append, run. -/
theorem app_run (hP : WfP P) (h : R P md w0 N0 M0 slot look used ds n β a w) (hsub : ∀ r b, lookR r = some b → look r = some b) {t e : Nat} (ht : tElem P t = some e) (hok : lenOkT P e = true) (hz : (zeroOf P e).isSome = true) (ty : TypeId) {y : Operand} {xs : List D} (hxs : elsOf P lookR t (opd slot y) = some xs) {A : Option Addr} {es : List D} {c : Nat}
    (hrow : RowV P md w (Mof M0 look β) e es (.slice A es.length c)) (hlen : es.length + xs.length ≤ bigN) :
    ∃ v' w', (Builtin.append_ #[t, t] ty #[.slice A es.length c, a.eval y]).run P w = .ok v' w' ∧ Stp (fun x => ownB (.slice A es.length c) = some x) w w' ∧ (∀ B, ownB v' = some B → (ownB (.slice A es.length c) = some B ∨ w.heap.size ≤ B) ∧ B < w'.heap.size) ∧ RowN P md w w' (Mof M0 look β) e (es ++ xs) v' := by
  have hu := tElem_under ht
  have hok' := hok
  simp only [lenOkT, Bool.and_eq_true, decide_eq_true_eq] at hok
  obtain ⟨hby, hp⟩ := hok
  obtain ⟨e', A2, c2, hu2, hv2, l1, l2⟩ := els_val h hsub hxs
  have hlc : es.length ≤ c := by
    obtain ⟨A', cap, hv, hh⟩ := hrow
    injection hv with e1 e2 e3
    subst e3
    rcases hh with ⟨rfl, rfl⟩ | ⟨B, cur, _, _, _, g, _⟩
    · exact Nat.le_refl _
    · exact g
  by_cases hx0 : xs = []
  · subst hx0
    simp only [List.length_nil] at hv2
    refine ⟨_, w, by rw [hv2]; exact run_app_none hu hp ty hlc, Stp.refl _ _, fun B hB => ⟨.inl hB, ?_⟩, ?_⟩
    · obtain ⟨A', cap, hv, hh⟩ := hrow
      injection hv with e1 e2 e3
      subst e1
      subst e3
      rcases hh with ⟨_, rfl⟩ | ⟨B', cur, rfl, g0, g1, _⟩
      · simp only [ownB] at hB; cases A <;> simp at hB
      · simp only [ownB] at hB
        split at hB
        · cases hB
        · injection hB with hB; subst hB; exact (Array.getElem?_eq_some_iff.1 g1).1
    · rw [List.append_nil]
      obtain ⟨A', cap, hv, hh⟩ := hrow
      exact ⟨A', cap, hv, hh⟩
  · obtain ⟨bk, off, c2', news, s1, s2, s3, s4, s5, s6, s7⟩ := src_cells hP h hsub ht hp hxs hx0
    have hm : 0 < xs.length := List.length_pos_iff.2 hx0
    by_cases hc0 : c = 0
    · -- nothing is there
      have he0 : es = [] := List.eq_nil_of_length_eq_zero (by omega)
      subst he0
      subst hc0
      obtain ⟨cur, cap, r1, r2, r3, r4, r5⟩ := run_app_empty (w := w) (A := A) (c := c2') hu hp hby hz ty s3 s4 hm (by simpa using hlen)
      refine ⟨_, _, by rw [s1]; exact r1, Stp.of_ext (drew_alloc_ext w _), fun B hB => ?_, ⟨_, cap, by simp, .inr ⟨w.heap.size, cur, rfl, by omega, heap_alloc_new w.drew _, by simpa using r2, r3, r4, hp, fun i x hx => ?_⟩⟩⟩
      · simp only [ownB] at hB
        split at hB
        · cases hB
        · injection hB with hB; subst hB; exact ⟨.inr (Nat.le_refl _), by simp⟩
      · simp only [List.nil_append] at hx
        refine (s6 i x hx).congr (fun j hj => ?_) (by show 0 < P.cellsOf e; exact hp)
        exact row_at (es := []) (xs := []) r5 s3 (List.getElem?_eq_some_iff.1 hx).1 hj
    · obtain ⟨A', cap, hv, hh⟩ := hrow
      injection hv with e1 e2 e3
      subst e1
      subst e3
      rcases hh with ⟨_, h0⟩ | ⟨g, cur, rfl, g0, g1, g2, g3, g4, g5, g6⟩
      · exact absurd h0 hc0
      · obtain ⟨z, hz'⟩ := Option.isSome_iff_exists.1 hz
        obtain ⟨i, zv, hi, hzv, c1, _⟩ := zeroOf_ok hz'
        have hsz : i.size = P.cellsOf e := by simp [Program.cellsOf, hi]
        have hb : i.bytes ≤ 65536 := by simpa [Program.bytesOf, hi] using hby
        have hcur : es.length * P.cellsOf e ≤ cur.size := by rw [g4]; exact Nat.mul_le_mul_right _ g2
        unfold bigN at hlen
        have hprod : (es.length + xs.length) * i.bytes ≤ 1073741824 * 65536 := Nat.mul_le_mul hlen hb
        have hoB : ownB (.slice (some ⟨g, 0, none⟩) es.length c) = some g := by simp [ownB]; omega
        have htl : (cur.toList.take (es.length * P.cellsOf e)).length = es.length * P.cellsOf e := by simp; omega
        -- what holds of the new cells
        have hfin : ∀ (cur' : Array Value), (∀ j, j < (cur.toList.take (es.length * P.cellsOf e) ++ news).length → cur'[j]? = (cur.toList.take (es.length * P.cellsOf e) ++ news)[j]?) → ∀ (q : Nat) (x : D), (es ++ xs)[q]? = some x → RdC P md w (Mof M0 look β) (.ty e) x (fun j => cur'[q * P.cellsOf e + j]?) := by
          intro cur' hcells q x hx
          have hl2 : (cur.toList.take (es.length * P.cellsOf e) ++ news).length = (es.length + xs.length) * P.cellsOf e := by rw [List.length_append, htl, s3, Nat.add_mul]
          have hqlt : q < es.length + xs.length := by have := (List.getElem?_eq_some_iff.1 hx).1; simpa using this
          have hat : ∀ j, j < P.cellsOf e → cur'[q * P.cellsOf e + j]? = (cur.toList.take (es.length * P.cellsOf e) ++ news)[q * P.cellsOf e + j]? := fun j hj => row_at (es := []) (xs := []) hcells hl2 hqlt hj
          by_cases hq : q < es.length
          · rw [List.getElem?_append_left hq] at hx
            refine (g6 q x hx).congr (fun j hj => ?_) (by show 0 < P.cellsOf e; exact hp)
            have hj' : j < P.cellsOf e := hj
            have hlt : q * P.cellsOf e + j < es.length * P.cellsOf e := by
              have : (q + 1) * P.cellsOf e ≤ es.length * P.cellsOf e := Nat.mul_le_mul_right _ hq
              rw [Nat.succ_mul] at this
              omega
            rw [hat j hj', List.getElem?_append_left (by omega), List.getElem?_take_of_lt hlt]
            simp
          · rw [List.getElem?_append_right (by omega)] at hx
            refine (s6 (q - es.length) x hx).congr (fun j hj => ?_) (by show 0 < P.cellsOf e; exact hp)
            have hj' : j < P.cellsOf e := hj
            have hmul : es.length * P.cellsOf e ≤ q * P.cellsOf e := Nat.mul_le_mul_right _ (by omega)
            rw [hat j hj', List.getElem?_append_right (by omega), htl, Nat.sub_mul]
            congr 1
            omega
        by_cases hroom : es.length + xs.length ≤ c
        · have hfit : es.length * i.size + news.length ≤ cur.size := by rw [hsz, s3, g4, ← Nat.add_mul]; exact Nat.mul_le_mul_right _ hroom
          have hr := run_append_room (P := P) w t ty e i hu hi g es.length c cur g1 ⟨bk, off, none⟩ xs.length c2' news (by rw [hsz]; exact s3) s4 s5 hroom hfit
          rw [hsz] at hr hfit
          refine ⟨_, _, by rw [s1]; exact hr, by rw [hoB]; exact stp_setRow w g _, fun B hB => ?_, ⟨_, c, by simp, .inr ⟨g, _, rfl, g0, setRow_heap w g cur _ e _ g1, by simpa using hroom, g3, ?_, hp, hfin _ ?_⟩⟩⟩
          · simp only [ownB] at hB
            split at hB
            · cases hB
            · injection hB with hB
              subst hB
              exact ⟨.inl hoB, by simpa using (Array.getElem?_eq_some_iff.1 g1).1⟩
          · simp; omega
          · intro j hj
            simp only [List.getElem?_toArray]
            rw [List.getElem?_append_left hj]
        · have hr := run_append_grow (P := P) w t ty e i zv hu hi hzv ⟨g, 0, none⟩ es.length c (cur.toList.take (es.length * P.cellsOf e)) (by rw [htl, hsz]) (fun j v hv => by
            rw [Addr.add_lit, cell_of_row w g _ cur e (0, 0) g1]
            rw [List.getElem?_take] at hv
            split at hv
            · simpa using hv
            · cases hv) ⟨bk, off, none⟩ xs.length c2' news (by rw [hsz]; exact s3) s4 (by omega) (by omega) ?_
          · have hge := grownCap_ge w (es.length + xs.length) c e
            have hle := grownCap_le_maxLen w (es.length + xs.length) c e (by unfold maxLen; omega)
            refine ⟨_, _, by rw [s1]; exact hr, Stp.of_ext (drew_alloc_ext w _), fun B hB => ?_, ⟨_, _, by simp, .inr ⟨w.heap.size, _, rfl, by omega, heap_alloc_new w.drew _, by simpa using hge, hle, ?_, hp, hfin _ ?_⟩⟩⟩
            · simp only [ownB] at hB
              split at hB
              · cases hB
              · injection hB with hB; subst hB; exact ⟨.inr (Nat.le_refl _), by simp⟩
            · simp only [Array.size_append, List.size_toArray, size_zeroCells, c1, s3, htl, ← Nat.add_mul]
              congr 1
              omega
            · intro j hj
              rw [Array.getElem?_append_left (by simpa using hj)]
              simp
          · have hn : Builtin.nextslicecap (es.length + xs.length) c ≤ 2 * (es.length + xs.length) := nextslicecap_le (by omega)
            have : Builtin.nextslicecap (es.length + xs.length) c * i.bytes ≤ (2 * 1073741824) * 65536 := Nat.mul_le_mul (by omega) hb
            omega
theorem app_call {o : Oper} {c : Call} {x y : Operand} (ho : o.op = .call c) (hc : c.callee = .builtin .append) (hargs : c.args.toList = [x, y]) (h2 : c.argTypes.size = 2) (h3 : c.argTypes.getD 1 0 = c.argTypes.getD 0 0) {v : Value} (hr : (Builtin.append_ #[c.argTypes.getD 0 0, c.argTypes.getD 0 0] o.type #[a.eval x, a.eval y]).run P w = .ok v w') :
    (execOp a.eval o).run P w = .ok (.value v) w' := by
  have ha : c.args = #[x, y] := by rw [← Array.toList_inj]; exact hargs
  have hat : c.argTypes = #[c.argTypes.getD 0 0, c.argTypes.getD 0 0] := by
    apply Array.ext (by simpa using h2)
    intro i h1 h4
    rcases i with _ | _ | i
    · simp [Array.getD, h2]
    · have := h3; simp only [Array.getD, h2] at this ⊢; simpa using this
    · exact absurd h4 (by simp)
  generalize c.argTypes.getD 0 0 = T at *
  simp [execOp, ho, resolve, hc, ha, invoke, builtin, hat, hr]
theorem op_append_mt (hP : WfP P) (h : R P md w0 N0 M0 slot look used ds n β a w) (hsub : ∀ r b, lookR r = some b → look r = some b) {o : Oper} {c : Call} {x y : Operand} (ho : o.op = .call c) (hc : c.callee = .builtin .append) (hargs : c.args.toList = [x, y]) (h2 : c.argTypes.size = 2) (h3 : c.argTypes.getD 1 0 = c.argTypes.getD 0 0) {d e : Nat} (hd : ¬ used d) (ht : tElem P (c.argTypes.getD 0 0) = some e) (hok : lenOkT P e = true) (hz : (zeroOf P e).isSome = true) {xs : List D} (hxs : elsOf P lookR (c.argTypes.getD 0 0) (opd slot y) = some xs) (hx' : opd slot x = .mt) (hlen : xs.length ≤ bigN) :
    Does P o a w (Outc P md w0 N0 M0 slot look used ds n a (.row d) [(d, some (.row e xs true))]) := by
  have hx := opd_vl h x
  rw [hx'] at hx
  obtain ⟨A, vx⟩ := vl_mt hx
  obtain ⟨v', w', r1, r2, r3, r4⟩ := app_run hP h hsub ht hok hz o.type hxs (A := A) (es := []) (c := 0) ⟨A, 0, rfl, .inl ⟨rfl, rfl⟩⟩ (by simpa using hlen)
  have hno : ∀ B, ownB (.slice A 0 0) = some B → False := by intro B hB; cases A <;> simp [ownB] at hB
  refine does_run (app_call ho hc hargs h2 h3 (by rw [vx]; exact r1)) (new_row h ⟨r2.os, r2.tape, r2.output, r2.size, fun b hb => r2.block b hb (fun e0 => hno b e0)⟩ hd (fun B hB => ?_) (by simpa using r4))
  have := r3 B hB
  exact ⟨this.1.resolve_left (fun e0 => hno B e0), this.2⟩
theorem op_append_row (hP : WfP P) (h : R P md w0 N0 M0 slot look used ds n β a w) (hsub : ∀ r b, lookR r = some b → look r = some b) {o : Oper} {c : Call} {x y : Operand} (ho : o.op = .call c) (hc : c.callee = .builtin .append) (hargs : c.args.toList = [x, y]) (h2 : c.argTypes.size = 2) (h3 : c.argTypes.getD 1 0 = c.argTypes.getD 0 0) {d e r : Nat} (hd : ¬ used d) (ht : tElem P (c.argTypes.getD 0 0) = some e) (hok : lenOkT P e = true) (hz : (zeroOf P e).isSome = true) {es xs : List D} (hxs : elsOf P lookR (c.argTypes.getD 0 0) (opd slot y) = some xs) (hx' : opd slot x = .row r) (hr : look r = some (.row e es true)) (hlen : es.length + xs.length ≤ bigN) :
    Does P o a w (Outc P md w0 N0 M0 slot look used ds n a (.row d) [(r, none), (d, some (.row e (es ++ xs) true))]) := by
  have hx := opd_vl h x
  rw [hx'] at hx
  have vx := vl_row hx hr
  have hrow : RowV P md w (Mof M0 look β) e es (β r) := h.blks r _ hr
  obtain ⟨A, cp, hv, _⟩ := id hrow
  rw [hv] at hrow
  obtain ⟨v', w', r1, r2, r3, r4⟩ := app_run hP h hsub ht hok hz o.type hxs hrow hlen
  rw [← hv] at r1 r2 r3
  rw [← vx] at r1
  exact does_run (app_call ho hc hargs h2 h3 r1) (app_fin h hr hd r2 r3 r4)
theorem run_copy {t t2 e : Nat} (ht : P.underlying t = some (.slice e)) (hp : 0 < P.cellsOf e) (ty : TypeId) {g k c bk off m c2 : Nat} {cur : Array Value} {T : TypeId} (hg : w.heap[g]? = some (.cells cur T (0, 0))) {news : List Value} (hl : news.length = min m k * P.cellsOf e) (hnews : ∀ (j : Nat) (v : Value), news[j]? = some v → w.cell? ((⟨bk, off, none⟩ : Addr).add j) = some v) (h1 : ∀ u ∈ news, u.oneCell' = true) (hfit : news.length ≤ cur.size) :
    (Builtin.copy_ #[t, t2] ty #[.slice (some ⟨g, 0, none⟩) k c, .slice (some ⟨bk, off, none⟩) m c2]).run P w = .ok (goInt (min m k : Nat)) (w.setRow g (cur.toList.take 0 ++ news ++ cur.toList.drop (0 + news.length)).toArray) := by
  have hf := run_loadCells_list (P := P) w ⟨bk, off, none⟩ news hnews
  rw [hl] at hf
  have hst := run_storeCells_at P g 0 T news 0 cur w hg (by simpa using hfit) h1
  simp only [Nat.add_zero] at hst
  simp [Builtin.copy_, run_underlying ht, run_sizeOf hp, Builtin.lenOf, Builtin.firstCells, hf, hst]
theorem op_copy (hP : WfP P) (h : R P md w0 N0 M0 slot look used ds n β a w) (hsub : ∀ r b, lookR r = some b → look r = some b) {o : Oper} {c : Call} {x y : Operand} (ho : o.op = .call c) (hc : c.callee = .builtin .copy) (hargs : c.args.toList = [x, y]) (h2 : c.argTypes.size = 2) {e r : Nat} (ht : tElem P (c.argTypes.getD 0 0) = some e) (ht2 : tElem P (c.argTypes.getD 1 0) = some e) (hok : lenOkT P e = true) {es xs : List D} (hxs : elsOf P lookR (c.argTypes.getD 1 0) (opd slot y) = some xs) (hx' : opd slot x = .row r) (hr : look r = some (.row e es true)) (hfree : r ∉ (opd slot y).ids) :
    Does P o a w (Outc P md w0 N0 M0 slot look used ds n a (.i .i64 (min xs.length es.length : Nat)) [(r, some (.row e (xs.take es.length ++ es.drop xs.length) true))]) := by
  have hx := opd_vl h x
  rw [hx'] at hx
  have vx := vl_row hx hr
  have hrow : RowV P md w (Mof M0 look β) e es (β r) := h.blks r _ hr
  simp only [lenOkT, Bool.and_eq_true, decide_eq_true_eq] at hok
  obtain ⟨hby, hp⟩ := hok
  obtain ⟨e', A2, c2, hu2, hv2, l1, l2⟩ := els_val h hsub hxs
  have ha : c.args = #[x, y] := by rw [← Array.toList_inj]; exact hargs
  have hat : c.argTypes = #[c.argTypes.getD 0 0, c.argTypes.getD 1 0] := by
    apply Array.ext (by simpa using h2)
    intro i h1 h4
    rcases i with _ | _ | i
    · simp [Array.getD, h2]
    · simp [Array.getD, h2]
    · exact absurd h4 (by simp)
  have hcall : ∀ v w', (Builtin.copy_ #[c.argTypes.getD 0 0, c.argTypes.getD 1 0] o.type #[β r, a.eval y]).run P w = .ok v w' → (execOp a.eval o).run P w = .ok (.value v) w' := by
    intro v w' hr'
    rw [← vx] at hr'
    generalize c.argTypes.getD 0 0 = T at *
    generalize c.argTypes.getD 1 0 = T' at *
    simp [execOp, ho, resolve, hc, ha, invoke, builtin, hat, hr']
  have hlens : (xs.take es.length ++ es.drop xs.length).length = es.length := by simp; omega
  have hint : (min xs.length es.length : Nat) ≤ maxLen := by omega
  have hrng := len_rng hint
  by_cases h0 : min xs.length es.length = 0
  · -- nothing is copied
    have hes : xs.take es.length ++ es.drop xs.length = es := by
      rcases Nat.min_eq_zero_iff.1 h0 with h0 | h0
      · rw [List.eq_nil_of_length_eq_zero h0]; simp
      · rw [List.eq_nil_of_length_eq_zero h0]; simp
    obtain ⟨A, cp, hv, hh⟩ := id hrow
    refine does_run (v := goInt (min xs.length es.length : Nat)) (w' := w) (hcall _ _ ?_) ?_
    · rw [hv, hv2]
      have hu := tElem_under ht
      generalize c.argTypes.getD 0 0 = T at *
      generalize c.argTypes.getD 1 0 = T' at *
      cases A <;> cases A2 <;> simp [Builtin.copy_, run_underlying hu, run_sizeOf hp, Builtin.lenOf, Builtin.firstCells, h0, loadCells, loadCellsFrom, storeCells]
    · rw [hes]
      have hl : updN look r (some (.row e es true)) = look := by
        funext q
        by_cases e0 : q = r
        · subst e0; rw [updN_same, hr]
        · rw [updN_ne _ _ e0]
      refine ⟨β, ?_, ?_, fun q hq => by simp [L.ids] at hq⟩
      · show R P md w0 N0 M0 slot (updN look r _) _ ds n β a w
        rw [hl]; exact h.weak (fun q hq => .inl hq)
      · exact mk_i hrng.1 hrng.2
  · have hm : 0 < min xs.length es.length := by omega
    have hxne : xs ≠ [] := fun e0 => by rw [e0] at hm; simp at hm
    have hene : es ≠ [] := fun e0 => by rw [e0] at hm; simp at hm
    obtain ⟨bk, off, c2', news, s1, s2, s3, s4, s5, s6, s7⟩ := src_cells hP h hsub ht2 hp hxs hxne
    obtain ⟨A, cp, hv, hh⟩ := id hrow
    rcases hh with ⟨h0', _⟩ | ⟨g, cur, rfl, g0, g1, g2, g3, g4, g5, g6⟩
    · exact absurd h0' hene
    · have hoB : ownB (β r) = some g := by rw [hv]; simp [ownB]; omega
      have hcur : es.length * P.cellsOf e ≤ cur.size := by rw [g4]; exact Nat.mul_le_mul_right _ g2
      have hmin : min xs.length es.length * P.cellsOf e ≤ es.length * P.cellsOf e := Nat.mul_le_mul_right _ (Nat.min_le_right _ _)
      have hmin2 : min xs.length es.length * P.cellsOf e ≤ xs.length * P.cellsOf e := Nat.mul_le_mul_right _ (Nat.min_le_left _ _)
      have hnl : (news.take (min xs.length es.length * P.cellsOf e)).length = min xs.length es.length * P.cellsOf e := by rw [List.length_take, s3]; omega
      have hrun := run_copy (P := P) (w := w) (t2 := c.argTypes.getD 1 0) (tElem_under ht) hp o.type (k := es.length) (c := cp) (m := xs.length) (c2 := c2') (bk := bk) (off := off) g1 (news := news.take (min xs.length es.length * P.cellsOf e)) hnl (fun j v hjv => s4 j v (by
        rw [List.getElem?_take] at hjv
        split at hjv
        · exact hjv
        · cases hjv)) (fun u hu => s5 u (List.mem_of_mem_take hu)) (by omega)
      have hcell := fun j => splice_at (cs := cur) (vs := news.take (min xs.length es.length * P.cellsOf e)) (off := 0) (by omega) j
      generalize hcs' : (cur.toList.take 0 ++ news.take (min xs.length es.length * P.cellsOf e) ++ cur.toList.drop (0 + (news.take (min xs.length es.length * P.cellsOf e)).length)).toArray = cur' at *
      simp only [Nat.not_lt_zero, if_false, Nat.zero_add, Nat.sub_zero, hnl] at hcell
      have hsz' : cur'.size = cur.size := by rw [← hcs']; simp; omega
      have hst : Stp (fun q => ownB (β r) = some q) w (w.setRow g cur') := by rw [hoB]; exact stp_setRow w g cur'
      have hlike : likeB (.row e es true) (.row e (xs.take es.length ++ es.drop xs.length) true) := ⟨rfl, hlens.symm⟩
      have hlive : ∀ b, ¬ Mof M0 look β b → b < w.heap.size → (w.setRow g cur').heap[b]? = w.heap[b]? := fun b hn hlt => hst.block b hlt (fun hb => hn (.inr ⟨r, _, hr, rfl, hb⟩))
      have hMM : ∀ b, Mof M0 (updN look r (some (.row e (xs.take es.length ++ es.drop xs.length) true))) β b → b < w.heap.size → Mof M0 look β b := by
        intro b hb _
        rcases hb with hb | ⟨q, k, hq, hk, hqB⟩
        · exact .inl hb
        · by_cases e0 : q = r
          · subst e0; exact .inr ⟨q, _, hr, rfl, hqB⟩
          · rw [updN_ne _ _ e0] at hq; exact .inr ⟨q, k, hq, hk, hqB⟩
      have hR := h.upd (b' := .row e (xs.take es.length ++ es.drop xs.length) true) hr rfl rfl hlike hst (by intro q hq; simp [Blk.ids] at hq) (by
        refine ⟨some ⟨g, 0, none⟩, cp, by rw [hlens]; exact hv, .inr ⟨g, cur', rfl, g0, setRow_heap w g cur cur' e _ g1, by rw [hlens]; exact g2, g3, by rw [hsz']; exact g4, g5, fun q u hu => ?_⟩⟩
        refine RdC.mono (w := w) (M := Mof M0 look β) ?_ hst.size hlive hMM
        by_cases hq : q < min xs.length es.length
        · have hlt : q < (xs.take es.length).length := by rw [List.length_take]; omega
          rw [List.getElem?_append_left hlt, List.getElem?_take_of_lt (by omega)] at hu
          refine (s6 q u hu).congr (fun j hj => ?_) (by show 0 < P.cellsOf e; exact hp)
          have hj' : j < P.cellsOf e := hj
          have hb1 : q * P.cellsOf e + j < min xs.length es.length * P.cellsOf e := by
            have : (q + 1) * P.cellsOf e ≤ min xs.length es.length * P.cellsOf e := Nat.mul_le_mul_right _ hq
            rw [Nat.succ_mul] at this
            omega
          rw [hcell, if_pos hb1, List.getElem?_take_of_lt hb1]
        · have hqe : q < es.length := by have := (List.getElem?_eq_some_iff.1 hu).1; rw [hlens] at this; exact this
          have hxl : xs.length ≤ q := by omega
          have htk : (xs.take es.length).length = xs.length := by rw [List.length_take]; omega
          rw [List.getElem?_append_right (by omega), htk, List.getElem?_drop, show xs.length + (q - xs.length) = q by omega] at hu
          refine (g6 q u hu).congr (fun j hj => ?_) (by show 0 < P.cellsOf e; exact hp)
          have hb1 : min xs.length es.length * P.cellsOf e ≤ q * P.cellsOf e := Nat.mul_le_mul_right _ (by omega)
          rw [hcell, if_neg (by omega)])
      refine does_run (v := goInt (min xs.length es.length : Nat)) (w' := w.setRow g cur') (hcall _ _ (by rw [hv, s1]; exact hrun)) ⟨β, hR.weak (fun q hq => .inl hq), mk_i hrng.1 hrng.2, fun q hq => by simp [L.ids] at hq⟩
end

end Go.Proofs.YtjmddikeadbmjaaGreat
namespace Go.Proofs.YtjmddikeadbmjaaGreat
open Go.RowKit

def retV : List Value → Value
  | [v] => v
  | vs => .tuple vs.toArray
/-- The block of the row that is lent. -/
def lentN (fm : FMode) (vs : List Value) (b : Nat) : Prop := ∃ p v, fm.arg = some p ∧ vs[p]? = some v ∧ ownB v = some b
/-- What a call asks. -/
structure PreA (P : Program) (md : Nat → FMode) (fm : FMode) (w : World) (M : Nat → Prop) (cts : List CT) (xs : List D) (vs : List Value) : Prop where
  lenx : xs.length = cts.length
  lenv : vs.length = cts.length
  m : ∀ b, M b → b < w.heap.size ∧ ¬ lentN fm vs b
  rd : ∀ (i : Nat) (ct : CT) (x : D) (v : Value), cts[i]? = some ct → xs[i]? = some x → vs[i]? = some v → fm.arg ≠ some i → Rd P md w (fun b => M b ∨ lentN fm vs b) ct x v
  lent : ∀ p, fm.arg = some p → ∃ t e es v, cts[p]? = some (.ty t) ∧ tElem P t = some e ∧ one P t = true ∧ xs[p]? = some (.sl es) ∧ vs[p]? = some v ∧ RowV P md w (fun b => M b ∨ lentN fm vs b) e es v
def backEff (P : Program) (fm : FMode) (ps rts : List Nat) (ys : List D) (bid : Nat) : List (Nat × Option Blk) := if fm.back then [(bid, some (.row (lentE P ps fm) (ys.getD rts.length .nil).els true))] else []
/-- The blocks that a call tells. -/
def postLook (P : Program) (fm : FMode) (ps rts : List Nat) (ys : List D) (d bid : Nat) : Nat → Option Blk := effF (fun _ => none) (backEff P fm ps rts ys bid ++ ownEff P rts ys fm.own d)
/-- What a call tells. -/
structure PostA (P : Program) (md : Nat → FMode) (fm : FMode) (w : World) (M : Nat → Prop) (ps rts : List Nat) (vs : List Value) (ys : List D) (d bid : Nat) (e : Ending) (w' : World) (us : List Value) (β' : Nat → Value) : Prop where
  ending : e = .returned (retV us)
  len : us.length = rts.length
  stp : Stp (lentN fm vs) w w'
  vl : ∀ ls, setOwn P rts fm.own d (resL P rts ys 0) = some ls → ∀ (i : Nat) (l : L) (u : Value), ls[i]? = some l → us[i]? = some u → VL P md w' (Mof M (postLook P fm ps rts ys d bid) β') (postLook P fm ps rts ys d bid) β' l u
  blks : ∀ r b, postLook P fm ps rts ys d bid r = some b → BR P md w' (Mof M (postLook P fm ps rts ys d bid) β') (postLook P fm ps rts ys d bid) β' r b
  own : ∀ r b B, postLook P fm ps rts ys d bid r = some b → ownB (β' r) = some B → (w.heap.size ≤ B ∨ lentN fm vs B) ∧ B < w'.heap.size
  sep : ∀ r q b c B, postLook P fm ps rts ys d bid r = some b → postLook P fm ps rts ys d bid q = some c → ownB (β' r) = some B → ownB (β' q) = some B → r = q
  back : fm.back = true → ∀ p v, fm.arg = some p → vs[p]? = some v → β' bid = v
/-- ████ What is said of a function: of data xs it tells data ys, whatever stands in memory. -/
def Spec (P : Program) (md : Nat → FMode) (f : Nat) (cts : List CT) (xs ys : List D) : Prop :=
  ∃ fn, P.funcs[f]? = some fn ∧ fn.body.isSome = true ∧ (fn.name == "runtime.NumGoroutine") = false ∧ ∀ w M vs d bid, (∀ k, k < (md f).own.length → bid ≠ d + 100000 * k) → PreA P md (md f) w M (fn.params.toList.map .ty ++ cts) xs vs →
    Calls P f vs.toArray w (fun e w' => ∃ us β', PostA P md (md f) w M fn.params.toList fn.resultTypes.toList vs ys d bid e w' us β')

section
variable {P : Program} {md : Nat → FMode} {w0 w w' : World} {N0 M0 M : Nat → Prop} {slot : Nat → L} {look lookR : Nat → Option Blk} {used : Nat → Prop} {ds : Dfs} {β : Nat → Value} {a : Act} {n : Nat}
theorem max2_int (mx : Bool) {k : IntKind} (x y : Int) : ((if mx then Builtin.max2 else Builtin.min2) (.int k x) (.int k y)).run P w = .ok (.int k (bif mx then (if x < y then y else x) else (if y < x then y else x))) w := by
  cases mx <;> simp [Builtin.max2, Builtin.min2]
theorem maxStep_none (mx : Bool) : ∀ zs : List L, zs.foldl (maxStep mx) none = none := by
  intro zs
  induction zs with
  | nil => rfl
  | cons z zs ih => simpa [maxStep] using ih
theorem op_maxmin (h : R P md w0 N0 M0 slot look used ds n β a w) {o : Oper} {c : Call} {mx : Bool} (ho : o.op = .call c) (hc : c.callee = .builtin (if mx then .max else .min)) {l : L} (hl : maxI mx (c.args.toList.map (opd slot)) = some l) :
    Does P o a w (Outc P md w0 N0 M0 slot look used ds n a l []) := by
  have key : ∀ (xs : List Operand) (k : IntKind) (x : Int) (l : L), k.min ≤ x → x ≤ k.max → (xs.map (opd slot)).foldl (maxStep mx) (some (.i k x)) = some l →
      ∃ y, ((xs.map a.eval).foldlM (if mx then Builtin.max2 else Builtin.min2) (.int k x)).run P w = .ok (.int k y) w ∧ l = .i k y ∧ k.min ≤ y ∧ y ≤ k.max := by
    intro xs
    induction xs with
    | nil => intro k x l b1 b2 hf; simp at hf; subst hf; exact ⟨x, by simp, rfl, b1, b2⟩
    | cons y ys ih =>
      intro k x l b1 b2 hf
      simp only [List.map_cons, List.foldl_cons] at hf
      cases hy : opd slot y with
      | i k' z =>
        rw [hy] at hf
        simp only [maxStep] at hf
        by_cases hk : k = k'
        · subst hk
          simp only [if_true] at hf
          have hvy := opd_vl h y
          rw [hy] at hvy
          obtain ⟨vy, c1, c2⟩ := vl_i hvy
          have hb : k.min ≤ (bif mx then (if x < z then z else x) else (if z < x then z else x)) ∧ (bif mx then (if x < z then z else x) else (if z < x then z else x)) ≤ k.max := by
            cases mx <;> simp <;> split <;> omega
          obtain ⟨u, hu, hli, h3⟩ := ih k _ l hb.1 hb.2 hf
          refine ⟨u, ?_, hli, h3⟩
          simp only [List.map_cons, List.foldlM_cons, Sem.run_bind, vy, max2_int, Result.andThen_ok]
          exact hu
        · rw [if_neg hk, maxStep_none] at hf; cases hf
      | _ => rw [hy] at hf; simp only [maxStep] at hf; rw [maxStep_none] at hf; cases hf
  cases hargs : c.args.toList with
  | nil => rw [hargs] at hl; simp [maxI] at hl
  | cons x xs =>
    rw [hargs] at hl
    simp only [List.map_cons] at hl
    cases hx : opd slot x with
    | i k z =>
      rw [hx] at hl
      have hvx := opd_vl h x
      rw [hx] at hvx
      obtain ⟨vx, c1, c2⟩ := vl_i hvx
      obtain ⟨y, hu, rfl, d1, d2⟩ := key xs k z l c1 c2 hl
      refine does_run (v := .int k y) (w' := w) ?_ (outc_mk h (mk_i d1 d2) (by simp [L.ids]))
      cases mx
      · simp only [Bool.false_eq_true, if_false] at hc hu
        simp [execOp, ho, resolve, hc, invoke, builtin, Builtin.min_, hargs, vx, hu]
      · simp only [if_true] at hc hu
        simp [execOp, ho, resolve, hc, invoke, builtin, Builtin.max_, hargs, vx, hu]
    | _ => rw [hx] at hl; simp [maxI] at hl
end

end Go.Proofs.YtjmddikeadbmjaaGreat
namespace Go.Proofs.YtjmddikeadbmjaaGreat
open Go.RowKit

section
variable {P : Program} {md : Nat → FMode} {w0 w w' : World} {N0 M0 M : Nat → Prop} {slot : Nat → L} {look lookR : Nat → Option Blk} {used : Nat → Prop} {ds : Dfs} {β : Nat → Value} {a : Act} {n : Nat}
theorem does_call {o : Oper} {f : Nat} {vs : Array Value} {K : Value → World → Prop} (h : (execOp a.eval o).run P w = .ok (.enter f vs) w) (hc : Calls P f vs w (fun e w' => ∃ v, e = .returned v ∧ K v w')) : Does P o a w K := by
  intro next Q hn
  unfold Oper.wp
  rw [h]
  show Calls P f vs w _
  refine hc.mono ?_
  rintro e w' ⟨v, rfl, hk⟩
  exact hn v w' hk
theorem run_callFunc {f : Nat} {fn : Func} {vs : Array Value} (hf : P.funcs[f]? = some fn) (hb : fn.body.isSome = true) (hn : (fn.name == "runtime.NumGoroutine") = false) : (callFunc f vs).run P w = .ok (.enter f vs) w := by
  have hb' : fn.body ≠ none := by intro e; rw [e] at hb; cases hb
  have hn' : fn.name ≠ "runtime.NumGoroutine" := by simpa using hn
  simp [callFunc, hf, hn', hb']
theorem R.Mlt (h : R P md w0 N0 M0 slot look used ds n β a w) {b : Nat} (hb : Mof M0 look β b) : b < w.heap.size := by
  rcases hb with hb | ⟨r, k, hr, _, hB⟩
  · exact Nat.lt_of_lt_of_le (h.m0 b hb).1 h.stp.size
  · exact (h.own r k b hr hB).2
theorem R.M0own (h : R P md w0 N0 M0 slot look used ds n β a w) {r b : Nat} {k : Blk} (hr : look r = some k) (hB : ownB (β r) = some b) : ¬ M0 b := by
  intro hm
  have := h.m0 b hm
  rcases (h.own r k b hr hB).1 with h1 | h1
  · omega
  · exact this.2 h1
/-- The arguments of a call, as data. -/
structure ArgsOk (P : Program) (md : Nat → FMode) (w : World) (Mc : Nat → Prop) (fm : FMode) (cts : List CT) (xs : List D) (vs : List Value) : Prop where
  lenx : xs.length = cts.length
  lenv : vs.length = cts.length
  rd : ∀ (i : Nat) (ct : CT) (x : D) (v : Value), cts[i]? = some ct → xs[i]? = some x → vs[i]? = some v → fm.arg ≠ some i → Rd P md w Mc ct x v
theorem getElem?_app {α : Type} {xs ys : List α} {i : Nat} {z : α} (h : (xs ++ ys)[i]? = some z) : (i < xs.length ∧ xs[i]? = some z) ∨ (xs.length ≤ i ∧ ys[i - xs.length]? = some z) := by
  by_cases hi : i < xs.length
  · rw [List.getElem?_append_left hi] at h; exact .inl ⟨hi, h⟩
  · rw [List.getElem?_append_right (by omega)] at h; exact .inr ⟨by omega, h⟩
theorem mem_eraseIdx {α : Type} : ∀ {xs : List α} {i p : Nat} {x : α}, xs[i]? = some x → i ≠ p → x ∈ xs.eraseIdx p
  | y :: ys, 0, p, x, h, hp => by
    cases p with
    | zero => exact absurd rfl hp
    | succ p => simp at h; subst h; simp [List.eraseIdx]
  | y :: ys, i + 1, p, x, h, hp => by
    simp only [List.getElem?_cons_succ] at h
    cases p with
    | zero => simp [List.eraseIdx]; exact List.mem_of_getElem? h
    | succ p => simp only [List.eraseIdx, List.mem_cons]; exact .inr (mem_eraseIdx h (by omega))
  | [], i, p, x, h, hp => by simp at h
/-- The arguments, and what is captured, when rows are written no more. -/
theorem args_ok (hP : WfP P) (h : R P md w0 N0 M0 slot look used ds n β a w) (hsub : ∀ r b, lookR r = some b → look r = some b) {fm : FMode} {args : List Operand} {ps : List Nat} {xs dd : List D} {cts : List CT} {cvs : List Value} {rs : List Nat}
    (hxs : convs P md lookR (args.map (opd slot)) ps = some xs) (haw : ∀ (i : Nat) (x : Operand), args[i]? = some x → fm.arg ≠ some i → ∀ r ∈ fzOf lookR (opd slot x), r ∈ rs)
    (hcap : cts.length = dd.length ∧ cvs.length = dd.length ∧ ∀ (i : Nat) (ct : CT) (x : D) (v : Value), cts[i]? = some ct → dd[i]? = some x → cvs[i]? = some v → Rd P md w (Mof M0 (effF look (fzEff lookR rs)) β) ct x v) (hlt : ∀ p, fm.arg = some p → p < ps.length) :
    ArgsOk P md w (Mof M0 (effF look (fzEff lookR rs)) β) fm (ps.map .ty ++ cts) (xs ++ dd) (args.map a.eval ++ cvs) := by
  obtain ⟨e1, e2, e3⟩ := convs_at hxs
  rw [List.length_map] at e1
  refine ⟨by simp; omega, by simp; omega, fun i ct x v h1 h2 h3 h4 => ?_⟩
  rcases getElem?_app h1 with ⟨l1, g1⟩ | ⟨l1, g1⟩
  · rw [List.length_map] at l1
    rw [List.getElem?_append_left (by omega)] at h2
    rw [List.getElem?_append_left (by simp; omega)] at h3
    rw [List.getElem?_map] at g1 h3
    have hi : i < args.length := by omega
    rw [List.getElem?_eq_getElem hi] at h3
    rw [List.getElem?_eq_getElem l1] at g1
    simp only [Option.map_some, Option.some.injEq] at g1 h3
    subst g1
    subst h3
    have hc := e3 i (opd slot args[i]) ps[i] x (by rw [List.getElem?_map, List.getElem?_eq_getElem hi]; rfl) (List.getElem?_eq_getElem l1) h2
    exact (opd_rd hP h hsub (fz_M h hsub rs) hc (fun r hr => fz_away h hsub rs r (haw i args[i] (List.getElem?_eq_getElem hi) h4 r hr))).1
  · rw [List.length_map] at l1 g1
    rw [List.getElem?_append_right (by omega)] at h2
    rw [List.getElem?_append_right (by simp; omega)] at h3
    rw [e2] at h2
    rw [List.length_map, e1] at h3
    exact hcap.2.2 _ ct x v g1 h2 h3
/-- A scalar does not ask for memory. -/
theorem scalar_vl {t : Nat} {x : D} {v : Value} {w1 w2 : World} {M1 M2 : Nat → Prop} {lk1 lk2 : Nat → Option Blk} {b1 b2 : Nat → Value} (hs : scalarT P t = true) (h : VL P md w1 M1 lk1 b1 (ofD P t x) v) : VL P md w2 M2 lk2 b2 (ofD P t x) v := by
  unfold scalarT at hs
  split at hs
  · rename_i k hk; simp only [ofD, hk] at h ⊢; obtain ⟨rfl, a1, a2⟩ := vl_i h; exact mk_i a1 a2
  · rename_i hk; simp only [ofD, hk] at h ⊢; have := vl_b h; subst this; exact mk_b
  · rename_i hk; simp only [ofD, hk] at h ⊢; obtain ⟨rfl, a1⟩ := vl_s h; exact mk_s a1
  · cases hs
theorem resL_at : ∀ {ts : List Nat} {ys : List D} {k i t : Nat}, ts[i]? = some t → (resL P ts ys k)[i]? = some (ofD P t (ys.getD (k + i) .nil))
  | t :: ts, ys, k, 0, t', h => by simp at h; subst h; simp [resL]
  | t :: ts, ys, k, i + 1, t', h => by
    simp only [List.getElem?_cons_succ] at h
    simp only [resL, List.getElem?_cons_succ]
    rw [resL_at h]
    congr 3
    omega
  | [], ys, k, i, t', h => by simp at h
theorem resL_len (ts : List Nat) (ys : List D) (k : Nat) : (resL P ts ys k).length = ts.length := by
  induction ts generalizing k with
  | nil => rfl
  | cons t ts ih => simp [resL, ih]
theorem ofD_tup (t : Nat) (x : D) : ∀ ls, ofD P t x ≠ .tup ls := by
  intro ls
  unfold ofD
  split <;> simp
/-- Several results, as one value. -/
theorem tup_vl {lk : Nat → Option Blk} {b : Nat → Value} {Mx : Nat → Prop} {ls : List L} {us : List Value} (hl : us.length = ls.length) (hn : ∀ l ∈ ls, ∀ ks, l ≠ .tup ks) (h : ∀ (i : Nat) (l : L) (u : Value), ls[i]? = some l → us[i]? = some u → VL P md w Mx lk b l u) : VL P md w Mx lk b (tupL ls) (retV us) := by
  match ls, us, hl with
  | [], [], _ => exact ⟨#[], rfl, rfl, fun i l v hl => by simp at hl⟩
  | [l], [u], _ => exact h 0 l u rfl rfl
  | l1 :: l2 :: ls, u1 :: u2 :: us, hl =>
    refine ⟨(u1 :: u2 :: us).toArray, rfl, by simpa using hl, fun i l v hl hv => vl_1 (hn l (List.mem_of_getElem? hl)) (h i l v hl (by simpa using hv))⟩
/-- A call whose results are no memory. -/
theorem op_call_scalar (h : R P md w0 N0 M0 slot look used ds n β a w) (hsub : ∀ r b, lookR r = some b → look r = some b) {o : Oper} {f : Nat} {cts : List CT} {xs ys : List D} {vs : List Value} {ps rts : List Nat} (hrun : (execOp a.eval o).run P w = .ok (.enter f vs.toArray) w) (hs : Spec P md f cts xs ys) (hps : ∀ fn, P.funcs[f]? = some fn → fn.params.toList = ps ∧ fn.resultTypes.toList = rts) (harg : (md f).arg = none) (hown : (md f).own = []) {rs : List Nat}
    (hargs : ArgsOk P md w (Mof M0 (effF look (fzEff lookR rs)) β) (md f) (ps.map .ty ++ cts) xs vs) (hsc : rts.all (scalarT P) = true) :
    Does P o a w (Outc P md w0 N0 M0 slot look used ds n a (tupL (resL P rts ys 0)) []) := by
  obtain ⟨fn, hfn, _, _, hcalls⟩ := hs
  obtain ⟨rfl, rfl⟩ := hps fn hfn
  have hno : ∀ b, ¬ lentN (md f) vs b := by rintro b ⟨p, v, hp, _⟩; rw [harg] at hp; cases hp
  refine does_call hrun ((hcalls w (Mof M0 (effF look (fzEff lookR rs)) β) vs 0 0 (by rw [hown]; intro k hk; simp at hk) ⟨hargs.lenx, hargs.lenv, fun b hb => ⟨(h.fz hsub rs).Mlt hb, hno b⟩, fun i ct x v h1 h2 h3 h4 => ?_, fun p hp => by rw [harg] at hp; cases hp⟩).mono ?_)
  · have hrd := hargs.rd i ct x v h1 h2 h3 h4
    exact ⟨hrd.rd.mono (Nat.le_refl _) (fun _ _ _ => rfl) (fun b hb _ => hb.resolve_right (hno b)), hrd.size, hrd.agg⟩
  · rintro e w' ⟨us, β', hp⟩
    refine ⟨retV us, hp.ending, ?_⟩
    have hx : Ext w w' := ⟨hp.stp.os, hp.stp.tape, hp.stp.output, hp.stp.size, fun b hb => hp.stp.block b hb (hno b)⟩
    refine outc_mk (h.grow hx) (tup_vl (by rw [hp.len, resL_len]) (fun l hl ks => ?_) (fun i l u hl hu => ?_)) (fun r hr => ?_)
    · obtain ⟨i, hi⟩ := List.getElem?_of_mem hl
      have hlt : i < fn.resultTypes.toList.length := by rw [← resL_len (P := P) _ ys 0]; exact (List.getElem?_eq_some_iff.1 hi).1
      rw [resL_at (List.getElem?_eq_getElem hlt)] at hi
      injection hi with hi
      subst hi
      exact ofD_tup _ _ ks
    · have hlt : i < fn.resultTypes.toList.length := by rw [← resL_len (P := P) _ ys 0]; exact (List.getElem?_eq_some_iff.1 hl).1
      have hvl := hp.vl _ (by rw [hown]; rfl) i l u hl hu
      rw [resL_at (List.getElem?_eq_getElem hlt)] at hl
      injection hl with hl
      subst hl
      exact scalar_vl (List.all_eq_true.1 hsc _ (List.getElem_mem hlt)) hvl
    · exfalso
      have : ∀ (ts : List Nat) (k : Nat), L.idsL (resL P ts ys k) = [] := by
        intro ts
        induction ts with
        | nil => intro k; rfl
        | cons t ts ih => intro k; simp [resL, L.idsL, ofD_ids, ih]
      have hi : (tupL (resL P fn.resultTypes.toList ys 0)).ids = [] := by
        have h1 := this fn.resultTypes.toList 0
        cases hres : resL P fn.resultTypes.toList ys 0 with
        | nil => rfl
        | cons l ls =>
          rw [hres] at h1
          cases ls with
          | nil => simp [L.idsL] at h1; simpa [tupL] using h1
          | cons l2 ls => simpa [tupL, L.ids] using h1
      rw [hi] at hr
      cases hr
theorem effF_other : ∀ {xs : List (Nat × Option Blk)} {lk : Nat → Option Blk} {q : Nat}, (∀ b, (q, b) ∉ xs) → effF lk xs q = lk q
  | [], _, _, _ => rfl
  | (r, b) :: xs, lk, q, h => by
    simp only [effF]
    rw [effF_other (fun b hb => h b (List.mem_cons_of_mem _ hb)), updN_ne _ _ (fun e => h b (by rw [e]; simp))]
/-- The names of the rows that a call tells. -/
def ownId (d : Nat) (k : Nat) (q : Nat) : Prop := ∃ i, i < k ∧ q = d + 100000 * i
theorem ownEff_at {rts : List Nat} {ys : List D} : ∀ {os : List (Nat × List Nat)} {d : Nat} {lk : Nat → Option Blk} {i : Nat} {o : Nat × List Nat}, os[i]? = some o → effF lk (ownEff P rts ys os d) (d + 100000 * i) = (ownT P rts o).map fun e => .row e ((ys.getD o.1 .nil).path o.2).els true
  | o' :: os, d, lk, 0, o, h => by
    simp at h
    subst h
    simp only [ownEff, effF, Nat.mul_zero, Nat.add_zero]
    rw [effF_other, updN_same]
    intro b hb
    have : ∀ (os : List (Nat × List Nat)) (d' : Nat), (d, b) ∈ ownEff P rts ys os d' → d' ≤ d := by
      intro os
      induction os with
      | nil => intro d' hb; simp [ownEff] at hb
      | cons o os ih =>
        intro d' hb
        simp only [ownEff, List.mem_cons, Prod.mk.injEq] at hb
        rcases hb with ⟨h1, _⟩ | hb
        · omega
        · have := ih _ hb; omega
    have := this os _ hb
    omega
  | o' :: os, d, lk, i + 1, o, h => by
    simp only [List.getElem?_cons_succ] at h
    simp only [ownEff, effF]
    rw [show d + 100000 * (i + 1) = d + 100000 + 100000 * i by omega]
    exact ownEff_at h
  | [], d, lk, i, o, h => by simp at h
theorem ownEff_mem {rts : List Nat} {ys : List D} : ∀ {os : List (Nat × List Nat)} {d q : Nat} {b : Option Blk}, (q, b) ∈ ownEff P rts ys os d → ownId d os.length q
  | o :: os, d, q, b, h => by
    simp only [ownEff, List.mem_cons, Prod.mk.injEq] at h
    rcases h with ⟨rfl, _⟩ | h
    · exact ⟨0, by simp, by simp⟩
    · obtain ⟨i, hi, rfl⟩ := ownEff_mem h
      exact ⟨i + 1, by simpa using hi, by omega⟩
  | [], d, q, b, h => by simp [ownEff] at h
theorem ownEff_is {rts : List Nat} {ys : List D} {os : List (Nat × List Nat)} {d q : Nat} (h : ownId d os.length q) (lk lk' : Nat → Option Blk) : effF lk (ownEff P rts ys os d) q = effF lk' (ownEff P rts ys os d) q := by
  obtain ⟨i, hi, rfl⟩ := h
  rw [ownEff_at (List.getElem?_eq_getElem hi), ownEff_at (List.getElem?_eq_getElem hi)]
theorem ownEff_not {rts : List Nat} {ys : List D} {os : List (Nat × List Nat)} {d q : Nat} (h : ¬ ownId d os.length q) (lk : Nat → Option Blk) : effF lk (ownEff P rts ys os d) q = lk q :=
  effF_other (fun _ hb => h (ownEff_mem hb))
theorem ownEff_row {rts : List Nat} {ys : List D} {os : List (Nat × List Nat)} {d q : Nat} {lk : Nat → Option Blk} {b : Blk} (h : ownId d os.length q) (hb : effF lk (ownEff P rts ys os d) q = some b) : ∃ e es, b = .row e es true := by
  obtain ⟨i, hi, rfl⟩ := h
  rw [ownEff_at (List.getElem?_eq_getElem hi)] at hb
  obtain ⟨e, _, rfl⟩ := Option.map_eq_some_iff.1 hb
  exact ⟨_, _, rfl⟩
theorem setL_ids : ∀ {p : List Nat} {t : Nat} {l l' : L} {d : Nat}, setL P t p l (.row d) = some l' → (∀ r ∈ l'.ids, r ∈ l.ids ∨ r = d) ∧ (∀ ks, l' ≠ .tup ks)
  | [], t, l, l', d, h => by
    simp only [setL, Option.some.injEq] at h
    subst h
    exact ⟨fun r hr => .inr (by simpa [L.ids] using hr), by simp⟩
  | i :: p, t, l, l', d, h => by
    simp only [setL] at h
    split at h
    · cases h
    · rename_i fs hfs
      split at h
      · cases h
      · rename_i ls hls
        split at h
        · rename_i f k hf hk
          simp only [Option.map_eq_some_iff] at h
          obtain ⟨z, hz, rfl⟩ := h
          refine ⟨fun r hr => ?_, by simp⟩
          have ih := setL_ids hz
          have hin : ∀ (q : Nat) (m : L), ls[q]? = some m → ∀ r ∈ m.ids, r ∈ l.ids := by
            unfold partsOf at hls
            split at hls
            · split at hls
              · injection hls with hls; subst hls
                intro q m hm r hr
                simp only [L.ids]; exact mem_idsL hm r hr
              · cases hls
            · split at hls
              · injection hls with hls; subst hls
                intro q m hm r hr
                have hi : q < fs.length := by rw [← expand_len (P := P) fs _ 0]; exact (List.getElem?_eq_some_iff.1 hm).1
                rw [expand_at (List.getElem?_eq_getElem hi)] at hm
                injection hm with hm
                subst hm
                rw [ofD_ids] at hr
                cases hr
              · cases hls
            · cases hls
          simp only [L.ids] at hr
          have hset : ∀ (xs : List L) (j : Nat) (u : L), r ∈ L.idsL (xs.set j u) → (∃ (q : Nat) (m : L), xs[q]? = some m ∧ r ∈ m.ids) ∨ r ∈ u.ids := by
            intro xs
            induction xs with
            | nil => intro j u hu; simp [L.idsL] at hu
            | cons x xs ihx =>
              intro j u hu
              cases j with
              | zero =>
                simp only [List.set_cons_zero, L.idsL, List.mem_append] at hu
                rcases hu with hu | hu
                · exact .inr hu
                · have : ∀ ys : List L, r ∈ L.idsL ys → ∃ (q : Nat) (m : L), ys[q]? = some m ∧ r ∈ m.ids := by
                    intro ys
                    induction ys with
                    | nil => intro h; simp [L.idsL] at h
                    | cons y ys ihy =>
                      intro h
                      simp only [L.idsL, List.mem_append] at h
                      rcases h with h | h
                      · exact ⟨0, y, rfl, h⟩
                      · obtain ⟨q, m, h1, h2⟩ := ihy h; exact ⟨q + 1, m, by simpa using h1, h2⟩
                  obtain ⟨q, m, h1, h2⟩ := this xs hu
                  exact .inl ⟨q + 1, m, by simpa using h1, h2⟩
              | succ j =>
                simp only [List.set_cons_succ, L.idsL, List.mem_append] at hu
                rcases hu with hu | hu
                · exact .inl ⟨0, x, rfl, hu⟩
                · rcases ihx j u hu with ⟨q, m, h1, h2⟩ | h
                  · exact .inl ⟨q + 1, m, by simpa using h1, h2⟩
                  · exact .inr h
          rcases hset _ _ _ hr with ⟨q, m, h1, h2⟩ | h1
          · exact .inl (hin q m h1 r h2)
          · rcases ih.1 r h1 with h1 | h1
            · exact .inl (hin i k hk r h1)
            · exact .inr h1
        · cases h
theorem setOwn_ids {rts : List Nat} : ∀ {os : List (Nat × List Nat)} {d : Nat} {ls ls' : List L}, setOwn P rts os d ls = some ls' → ls'.length = ls.length ∧ ((∀ l ∈ ls, ∀ ks, l ≠ .tup ks) → ∀ l ∈ ls', ∀ ks, l ≠ .tup ks) ∧ ∀ l ∈ ls', ∀ r ∈ l.ids, (∃ k ∈ ls, r ∈ k.ids) ∨ ownId d os.length r
  | [], d, ls, ls', h => by
    simp only [setOwn, Option.some.injEq] at h
    subst h
    exact ⟨rfl, fun h => h, fun l hl r hr => .inl ⟨l, hl, hr⟩⟩
  | o :: os, d, ls, ls', h => by
    simp only [setOwn] at h
    split at h
    · rename_i t l ht hl
      split at h
      · rename_i l' hl'
        obtain ⟨h1, h2, h3⟩ := setOwn_ids h
        obtain ⟨g1, g2⟩ := setL_ids hl'
        refine ⟨by simpa using h1, fun hn => h2 (fun k hk => ?_), fun k hk r hr => ?_⟩
        · rcases List.mem_or_eq_of_mem_set hk with hk | rfl
          · exact hn k hk
          · exact g2
        · rcases h3 k hk r hr with ⟨m, hm, hr'⟩ | ⟨i, hi, rfl⟩
          · rcases List.mem_or_eq_of_mem_set hm with hm | rfl
            · exact .inl ⟨m, hm, hr'⟩
            · rcases g1 r hr' with hr' | rfl
              · exact .inl ⟨l, List.mem_of_getElem? hl, hr'⟩
              · exact .inr ⟨0, by simp, by simp⟩
          · exact .inr ⟨i + 1, by simpa using hi, by omega⟩
      · cases h
    · cases h
theorem resL_ids {rts : List Nat} {ys : List D} {k : Nat} : ∀ l ∈ resL P rts ys k, l.ids = [] ∧ ∀ ks, l ≠ .tup ks := by
  intro l hl
  obtain ⟨i, hi⟩ := List.getElem?_of_mem hl
  have hlt : i < rts.length := by rw [← resL_len (P := P) rts ys k]; exact (List.getElem?_eq_some_iff.1 hi).1
  rw [resL_at (List.getElem?_eq_getElem hlt)] at hi
  injection hi with hi
  subst hi
  exact ⟨ofD_ids _ _, ofD_tup _ _⟩
/-- ████ A call. -/
theorem op_call (h : R P md w0 N0 M0 slot look used ds n β a w) (hsub : ∀ r b, lookR r = some b → look r = some b) {o : Oper} {f : Nat} {cts : List CT} {xs ys : List D} {vs : List Value} {ps rts rs : List Nat} {d : Nat} {ls : List L} {lentEff : List (Nat × Option Blk)} (hrun : (execOp a.eval o).run P w = .ok (.enter f vs.toArray) w) (hs : Spec P md f cts xs ys) (hps : ∀ fn, P.funcs[f]? = some fn → fn.params.toList = ps ∧ fn.resultTypes.toList = rts)
    (hargs : ArgsOk P md w (Mof M0 (effF look (fzEff lookR rs)) β) (md f) (ps.map .ty ++ cts) xs vs) (hfresh : ∀ q, ownId d (md f).own.length q → ¬ used q) (hls : setOwn P rts (md f).own d (resL P rts ys 0) = some ls) (hoo : ownOk P rts (md f).own = true)
    (hL : (lentEff = [] ∧ (∀ b, ¬ lentN (md f) vs b) ∧ (md f).back = false) ∨ (∃ r es p, effF look (fzEff lookR rs) r = some (.row (lentE P ps (md f)) es true) ∧ (md f).arg = some p ∧ vs[p]? = some (β r) ∧ lentEff = if (md f).back then [(r, some (.row (lentE P ps (md f)) (ys.getD rts.length .nil).els true))] else [(r, none)]))
    (hpl : ∀ p, (md f).arg = some p → ∃ t e es v, (ps.map CT.ty ++ cts)[p]? = some (.ty t) ∧ tElem P t = some e ∧ one P t = true ∧ xs[p]? = some (.sl es) ∧ vs[p]? = some v ∧ RowV P md w (Mof M0 (effF look (fzEff lookR rs)) β) e es v) :
    Does P o a w (Outc P md w0 N0 M0 slot look used ds n a (tupL ls) (fzEff lookR rs ++ lentEff ++ ownEff P rts ys (md f).own d)) := by
  obtain ⟨fn, hfn, _, _, hcalls⟩ := hs
  obtain ⟨rfl, rfl⟩ := hps fn hfn
  have h1 := h.fz hsub rs
  generalize hlk1 : effF look (fzEff lookR rs) = look1 at *
  -- the row that is lent
  obtain ⟨lr, hlr1, hlr2, hlr3⟩ : ∃ lr : Option Nat, (∀ b, lentN (md f) vs b ↔ ∃ r, lr = some r ∧ ownB (β r) = some b) ∧ (∀ r, lr = some r → ∃ es p, look1 r = some (.row (lentE P fn.params.toList (md f)) es true) ∧ (md f).arg = some p ∧ vs[p]? = some (β r) ∧ lentEff = if (md f).back then [(r, some (.row (lentE P fn.params.toList (md f)) (ys.getD fn.resultTypes.toList.length .nil).els true))] else [(r, none)]) ∧ (lr = none → lentEff = [] ∧ (md f).back = false) := by
    rcases hL with ⟨e1, e2, e3⟩ | ⟨r, es, p, g1, g2, g3, g4⟩
    · exact ⟨none, fun b => ⟨fun hb => (e2 b hb).elim, fun ⟨r, hr, _⟩ => by cases hr⟩, (fun r hr => by cases hr), fun _ => ⟨e1, e3⟩⟩
    · refine ⟨some r, fun b => ⟨fun ⟨p', v, hp', hv, hB⟩ => ?_, fun ⟨q, hq, hB⟩ => ?_⟩, fun q hq => ?_, fun hn => by cases hn⟩
      · rw [g2] at hp'
        injection hp' with hp'
        subst hp'
        rw [g3] at hv
        injection hv with hv
        subst hv
        exact ⟨r, rfl, hB⟩
      · injection hq with hq
        subst hq
        exact ⟨p, _, g2, g3, hB⟩
      · injection hq with hq
        subst hq
        exact ⟨es, p, g1, g2, g3, g4⟩
  clear hL
  have hMc : ∀ b, (Mof M0 look1 β b ∧ ¬ lentN (md f) vs b) ∨ lentN (md f) vs b ↔ Mof M0 look1 β b := by
    intro b
    constructor
    · rintro (hb | hb)
      · exact hb.1
      · obtain ⟨r, hr, hB⟩ := (hlr1 b).1 hb
        obtain ⟨es, p, g1, _⟩ := hlr2 r hr
        exact .inr ⟨r, _, g1, rfl, hB⟩
    · intro hb
      by_cases hl : lentN (md f) vs b
      · exact .inr hl
      · exact .inl ⟨hb, hl⟩
  have hMce : (fun b => (Mof M0 look1 β b ∧ ¬ lentN (md f) vs b) ∨ lentN (md f) vs b) = Mof M0 look1 β := funext fun b => propext (hMc b)
  have hlrused : ∀ r, lr = some r → used r := fun r hr => by
    obtain ⟨es, p, g1, _⟩ := hlr2 r hr
    exact (h1.usedB r _ g1).1
  refine does_call hrun ((hcalls w (fun b => Mof M0 look1 β b ∧ ¬ lentN (md f) vs b) vs d (lr.getD (d + 50000)) (fun k hk e => ?_) ⟨hargs.lenx, hargs.lenv, fun b hb => ⟨h1.Mlt hb.1, hb.2⟩, fun i ct x v q1 q2 q3 q4 => by rw [hMce]; exact hargs.rd i ct x v q1 q2 q3 q4, fun p hp => by rw [hMce]; exact hpl p hp⟩).mono ?_)
  · cases hl : lr with
    | none => rw [hl] at e; simp at e; omega
    | some r => rw [hl] at e; simp at e; exact hfresh r ⟨k, hk, e⟩ (hlrused r hl)
  rintro e w' ⟨us, β', hp⟩
  obtain ⟨hpE, hpLen, hpStp, hpVl0, hpBlks, hpOwn, hpSep, hpBack⟩ := hp
  have hpVl := hpVl0 ls hls
  clear hpVl0
  refine ⟨retV us, hpE, ?_⟩
  generalize hlk : postLook P (md f) fn.params.toList fn.resultTypes.toList ys d (lr.getD (d + 50000)) = lk at *
  have hOI : ∀ q, ownId d (md f).own.length q → lk q = effF look1 (ownEff P fn.resultTypes.toList ys (md f).own d) q := by
    intro q hq
    rw [← hlk, postLook, effF_append]
    exact ownEff_is hq _ _
  have hlkNot : ∀ q b, lk q = some b → ownId d (md f).own.length q ∨ (∃ r, lr = some r ∧ q = r ∧ (md f).back = true ∧ b = .row (lentE P fn.params.toList (md f)) (ys.getD fn.resultTypes.toList.length .nil).els true) := by
    intro q b hq
    by_cases ho : ownId d (md f).own.length q
    · exact .inl ho
    · rw [← hlk, postLook, effF_append, ownEff_not ho] at hq
      cases hb : (md f).back with
      | false => rw [backEff, hb] at hq; simp [effF] at hq
      | true =>
        rw [backEff, hb] at hq
        simp only [if_true, effF] at hq
        by_cases hqb : q = lr.getD (d + 50000)
        · subst hqb
          rw [updN_same] at hq
          injection hq with hq
          cases hl : lr with
          | none => have := (hlr3 hl).2; rw [hb] at this; cases this
          | some r => exact .inr ⟨r, rfl, rfl, rfl, hq.symm⟩
        · rw [updN_ne _ _ hqb] at hq; cases hq
  have hlkBack : ∀ r, lr = some r → (md f).back = true → lk r = some (.row (lentE P fn.params.toList (md f)) (ys.getD fn.resultTypes.toList.length .nil).els true) ∧ β' r = β r := by
    intro r hr hb
    obtain ⟨es, p, g1, g2, g3, _⟩ := hlr2 r hr
    have hno : ¬ ownId d (md f).own.length r := fun ho => hfresh r ho (hlrused r hr)
    refine ⟨?_, ?_⟩
    · rw [← hlk, postLook, effF_append, ownEff_not hno, backEff, hb, hr]
      simp [effF, updN]
    · have := hpBack hb p (β r) g2 g3
      rw [hr] at this
      exact this
  have hlook2 : effF look (fzEff lookR rs ++ lentEff ++ ownEff P fn.resultTypes.toList ys (md f).own d) = effF (effF look1 lentEff) (ownEff P fn.resultTypes.toList ys (md f).own d) := by rw [effF_append, effF_append, hlk1]
  unfold Outc
  rw [hlook2]
  generalize hl2 : effF (effF look1 lentEff) (ownEff P fn.resultTypes.toList ys (md f).own d) = look2 at *
  have hl2O : ∀ q, ownId d (md f).own.length q → look2 q = lk q := fun q hq => by rw [← hl2, hOI q hq]; exact ownEff_is hq _ _
  have hl2N : ∀ q, ¬ ownId d (md f).own.length q → lr ≠ some q → look2 q = look1 q := fun q hq hr => by
    rw [← hl2, ownEff_not hq]
    cases hl : lr with
    | none => rw [(hlr3 hl).1]; rfl
    | some r =>
      obtain ⟨es, p, _, _, _, g4⟩ := hlr2 r hl
      rw [g4]
      have hne : q ≠ r := fun e => hr (by rw [hl, e])
      split <;> simp [effF, updN_ne _ _ hne]
  have hl2L : ∀ r, lr = some r → look2 r = (if (md f).back then lk r else none) := fun r hr => by
    have hno : ¬ ownId d (md f).own.length r := fun ho => hfresh r ho (hlrused r hr)
    obtain ⟨es, p, _, _, _, g4⟩ := hlr2 r hr
    rw [← hl2, ownEff_not hno, g4]
    split
    · rename_i hb; rw [(hlkBack r hr hb).1]; simp [effF, updN]
    · simp [effF, updN]
  obtain ⟨β2, hβO, hβN⟩ : ∃ β2 : Nat → Value, (∀ q, ownId d (md f).own.length q → β2 q = β' q) ∧ (∀ q, ¬ ownId d (md f).own.length q → β2 q = β q) := by
    classical
    exact ⟨fun q => if ownId d (md f).own.length q then β' q else β q, fun q hq => by simp [hq], fun q hq => by simp [hq]⟩
  -- the blocks that may be written
  have hM2 : ∀ b, Mof M0 look2 β2 b → b < w'.heap.size → Mof (fun b => Mof M0 look1 β b ∧ ¬ lentN (md f) vs b) lk β' b := by
    intro b hb _
    rcases hb with hb | ⟨q, k, hq, hk, hB⟩
    · refine .inl ⟨.inl hb, fun hl => ?_⟩
      obtain ⟨r, hr, hB⟩ := (hlr1 b).1 hl
      obtain ⟨es, p, g1, _⟩ := hlr2 r hr
      exact h1.M0own g1 hB hb
    · by_cases ho : ownId d (md f).own.length q
      · rw [hl2O q ho] at hq
        rw [hβO q ho] at hB
        exact .inr ⟨q, k, hq, hk, hB⟩
      · rw [hβN q ho] at hB
        by_cases hr : lr = some q
        · rw [hl2L q hr] at hq
          split at hq
          · rename_i hbk
            obtain ⟨b1, b2⟩ := hlkBack q hr hbk
            exact .inr ⟨q, k, hq, hk, by rw [b2]; exact hB⟩
          · cases hq
        · rw [hl2N q ho hr] at hq
          refine .inl ⟨.inr ⟨q, k, hq, hk, hB⟩, fun hl => ?_⟩
          obtain ⟨r, hr', hB'⟩ := (hlr1 b).1 hl
          obtain ⟨es, p, g1, _⟩ := hlr2 r hr'
          exact hr (by rw [hr', h1.sep q r k _ b hq g1 hB hB'])
  have hM1 : ∀ b, Mof M0 look2 β2 b → b < w.heap.size → Mof M0 look1 β b := by
    intro b hb hlt
    rcases hM2 b hb (Nat.lt_of_lt_of_le hlt hpStp.size) with hb | ⟨q, k, hq, hk, hB⟩
    · exact hb.1
    · rcases (hpOwn q k b hq hB).1 with h2 | h2
      · omega
      · exact (hMc b).1 (.inr h2)
  have hbrT : ∀ q b, look2 q = some b → lk q = some b → β2 q = β' q → BR P md w' (Mof M0 look2 β2) look2 β2 q b := by
    intro q b hq hlq hβq
    have hids : b.ids = [] := by
      rcases hlkNot q b hlq with ho | ⟨_, _, _, _, rfl⟩
      · rw [hOI q ho] at hlq
        obtain ⟨_, _, rfl⟩ := ownEff_row ho hlq
        rfl
      · rfl
    exact (hpBlks q b hlq).mono (Nat.le_refl _) (fun _ _ _ => rfl) hM2 (fun _ _ => rfl) (by rw [hids]; intro r hr; cases hr) hβq
  have hou : ∀ q b, ownId d (md f).own.length q → look2 q = some b → usedF used (fzEff lookR rs ++ lentEff ++ ownEff P fn.resultTypes.toList ys (md f).own d) q := by
    intro q b hq hb
    obtain ⟨i, hi, rfl⟩ := hq
    have hat := ownEff_at (P := P) (rts := fn.resultTypes.toList) (ys := ys) (d := d) (lk := look1) (List.getElem?_eq_getElem hi)
    rw [hl2O _ ⟨i, hi, rfl⟩, hOI _ ⟨i, hi, rfl⟩, hat] at hb
    have hmem : ∀ (os : List (Nat × List Nat)) (d : Nat) (i : Nat) (hi : i < os.length), (d + 100000 * i, (ownT P fn.resultTypes.toList os[i]).map fun e => Blk.row e ((ys.getD (os[i]).1 .nil).path (os[i]).2).els true) ∈ ownEff P fn.resultTypes.toList ys os d := by
      intro os
      induction os with
      | nil => intro d i hi; simp at hi
      | cons o os ih =>
        intro d i hi
        cases i with
        | zero => simp [ownEff]
        | succ i =>
          simp only [ownEff, List.mem_cons]
          refine .inr ?_
          have := ih (d + 100000) i (by simpa using hi)
          rwa [show d + 100000 + 100000 * i = d + 100000 * (i + 1) by omega] at this
    have := hmem (md f).own d i hi
    rw [hb] at this
    exact .inr ⟨b, List.mem_append_right _ this⟩
  have hR : R P md w0 N0 M0 slot look2 (usedF used (fzEff lookR rs ++ lentEff ++ ownEff P fn.resultTypes.toList ys (md f).own d)) ds n β2 a w' := by
    refine h1.step (lentN (md f) vs) hpStp (fun b hb => ?_) (fun q hq k hk => ?_) (fun q k hq => ?_) hM1 (fun q1 q2 k1 k2 B g1 g2 g3 g4 => ?_) (fun _ hu => .inl hu)
    · obtain ⟨r, hr, hB⟩ := (hlr1 b).1 hb
      obtain ⟨es, p, g1, _⟩ := hlr2 r hr
      exact ⟨r, _, g1, rfl, hB⟩
    · have ho : ¬ ownId d (md f).own.length q := fun ho => hfresh q ho hq
      rw [hβN q ho]
      by_cases hr : lr = some q
      · rw [hl2L q hr] at hk
        split at hk
        · rename_i hbk
          obtain ⟨es, p, g1, _⟩ := hlr2 q hr
          obtain ⟨b1, b2⟩ := hlkBack q hr hbk
          refine ⟨_, g1, ?_, rfl⟩
          have hrow1 : RowV P md w (Mof M0 look1 β) _ es (β q) := h1.blks q _ g1
          have hbr := hpBlks q k hk
          rw [b1] at hk
          injection hk with hk
          subst hk
          have hrow2 : RowV P md w' _ _ (ys.getD fn.resultTypes.toList.length .nil).els (β' q) := hbr
          rw [b2] at hrow2
          obtain ⟨A1, c1, v1, _⟩ := hrow1
          obtain ⟨A2, c2, v2, _⟩ := hrow2
          rw [v1] at v2
          injection v2 with _ v2 _
          exact ⟨rfl, v2⟩
        · cases hk
      · rw [hl2N q ho hr] at hk
        exact ⟨k, hk, likeB.refl _, rfl⟩
    · by_cases ho : ownId d (md f).own.length q
      · have hlq : lk q = some k := by rw [← hl2O q ho]; exact hq
        refine .inr ⟨hbrT q k hq hlq (hβO q ho), ?_, hou q k ho hq, fun B hB => ?_⟩
        · rw [hOI q ho] at hlq
          obtain ⟨_, _, rfl⟩ := ownEff_row ho hlq
          intro r hr; simp [Blk.ids] at hr
        · rw [hβO q ho] at hB
          obtain ⟨o1, o2⟩ := hpOwn q k B hlq hB
          refine ⟨?_, o2⟩
          rcases o1 with o1 | o1
          · exact .inl (Nat.le_trans h1.stp.size o1)
          · obtain ⟨r, hr, hB'⟩ := (hlr1 B).1 o1
            obtain ⟨es, p, g1, _⟩ := hlr2 r hr
            exact (h1.own r _ B g1 hB').1
      · by_cases hr : lr = some q
        · have hq' := hq
          rw [hl2L q hr] at hq'
          split at hq'
          · rename_i hbk
            obtain ⟨b1, b2⟩ := hlkBack q hr hbk
            refine .inr ⟨hbrT q k hq hq' (by rw [hβN q ho, b2]), ?_, .inl (hlrused q hr), fun B hB => ?_⟩
            · rw [b1] at hq'
              injection hq' with hq'
              subst hq'
              intro r hr; simp [Blk.ids] at hr
            · rw [hβN q ho] at hB
              obtain ⟨es, p, g1, _⟩ := hlr2 q hr
              exact ⟨(h1.own q _ B g1 hB).1, Nat.lt_of_lt_of_le (h1.own q _ B g1 hB).2 hpStp.size⟩
          · cases hq'
        · rw [hl2N q ho hr] at hq
          refine .inl ⟨hq, hβN q ho, fun B hB hl => ?_⟩
          obtain ⟨r, hr', hB'⟩ := (hlr1 B).1 hl
          obtain ⟨es, p, g1, _⟩ := hlr2 r hr'
          exact hr (by rw [hr', h1.sep q r k _ B hq g1 hB hB'])
    · -- no two have one block
      have cls : ∀ q k, look2 q = some k → ∀ B, ownB (β2 q) = some B → (lk q = some k ∧ ownB (β' q) = some B) ∨ (look1 q = some k ∧ ownB (β q) = some B ∧ lr ≠ some q) := by
        intro q k hq B hB
        by_cases ho : ownId d (md f).own.length q
        · exact .inl ⟨by rw [← hl2O q ho]; exact hq, by rw [← hβO q ho]; exact hB⟩
        · rw [hβN q ho] at hB
          by_cases hr : lr = some q
          · rw [hl2L q hr] at hq
            split at hq
            · rename_i hbk
              obtain ⟨b1, b2⟩ := hlkBack q hr hbk
              exact .inl ⟨hq, by rw [b2]; exact hB⟩
            · cases hq
          · rw [hl2N q ho hr] at hq
            exact .inr ⟨hq, hB, hr⟩
      have mix : ∀ q q' k k', lk q = some k → ownB (β' q) = some B → look1 q' = some k' → ownB (β q') = some B → lr ≠ some q' → False := by
        intro q q' k k' x1 x2 x3 x4 x5
        rcases (hpOwn q k B x1 x2).1 with o1 | o1
        · have := (h1.own q' k' B x3 x4).2; omega
        · obtain ⟨r, hr, hB'⟩ := (hlr1 B).1 o1
          obtain ⟨es, p, y1, _⟩ := hlr2 r hr
          exact x5 (by rw [hr, h1.sep q' r k' _ B x3 y1 x4 hB'])
      rcases cls q1 k1 g1 B g3 with ⟨a1, a2⟩ | ⟨a1, a2, a3⟩ <;> rcases cls q2 k2 g2 B g4 with ⟨b1, b2⟩ | ⟨b1, b2, b3⟩
      · exact hpSep q1 q2 k1 k2 B a1 b1 a2 b2
      · exact (mix q1 q2 k1 k2 a1 a2 b1 b2 b3).elim
      · exact (mix q2 q1 k2 k1 b1 b2 a1 a2 a3).elim
      · exact h1.sep q1 q2 k1 k2 B a1 b1 a2 b2
  obtain ⟨so1, so2, so3⟩ := setOwn_ids hls
  have hlids : ∀ l ∈ ls, ∀ r ∈ l.ids, ownId d (md f).own.length r := fun l hl r hr => by
    rcases so3 l hl r hr with ⟨k, hk, hr'⟩ | ho
    · rw [(resL_ids k hk).1] at hr'; cases hr'
    · exact ho
  refine ⟨β2, hR, tup_vl (by rw [hpLen, so1, resL_len]) (so2 fun l hl => (resL_ids l hl).2) (fun i l u hl hu => ?_), fun r hr => ?_⟩
  · refine (hpVl i l u hl hu).mono (Nat.le_refl _) (fun _ _ _ => rfl) hM2 (fun r hr k hk => ?_)
    have ho := hlids l (List.mem_of_getElem? hl) r hr
    rw [hl2O r ho] at hk
    exact ⟨k, hk, likeB.refl _, hβO r ho⟩
  · have hmem : r ∈ L.idsL ls := by
      match ls, hr with
      | [], hr => simp [tupL, L.ids, L.idsL] at hr
      | [l], hr => simpa [tupL, L.idsL] using hr
      | l1 :: l2 :: ls, hr => simpa [tupL, L.ids] using hr
    have hex : ∃ l ∈ ls, r ∈ l.ids := by
      have : ∀ ys : List L, r ∈ L.idsL ys → ∃ l ∈ ys, r ∈ l.ids := by
        intro ys
        induction ys with
        | nil => intro h; simp [L.idsL] at h
        | cons y ys ihy =>
          intro h
          simp only [L.idsL, List.mem_append] at h
          rcases h with h | h
          · exact ⟨y, by simp, h⟩
          · obtain ⟨l, h1, h2⟩ := ihy h; exact ⟨l, by simp [h1], h2⟩
      exact this _ hmem
    obtain ⟨l, hl, hr'⟩ := hex
    have ho := hlids l hl r hr'
    obtain ⟨b, hb⟩ : ∃ b, look2 r = some b := by
      obtain ⟨i, hi, rfl⟩ := ho
      rw [hl2O _ ⟨i, hi, rfl⟩, hOI _ ⟨i, hi, rfl⟩, ownEff_at (List.getElem?_eq_getElem hi)]
      have := List.all_eq_true.1 hoo _ (List.getElem_mem hi)
      obtain ⟨e, he⟩ := Option.isSome_iff_exists.1 this
      rw [he]
      exact ⟨_, rfl⟩
    exact hou r b ho hb
end

end Go.Proofs.YtjmddikeadbmjaaGreat
namespace Go.Proofs.YtjmddikeadbmjaaGreat
open Go.RowKit

/-- What an operation comes to is so. -/
def OpOk (P : Program) (md : Nat → FMode) (w0 : World) (N0 M0 : Nat → Prop) (slot : Nat → L) (look lookR : Nat → Option Blk) (used : Nat → Prop) (ds : Dfs) (n : Nat) (a : Act) (w : World) (o : Oper) (r : OpR) : Prop :=
  (∀ b ∈ r.conds, b = true) → match r.out with
  | .val l eff => (∀ q ∈ madeBy o, ¬ used q) → Does P o a w (Outc P md w0 N0 M0 slot look used ds n a l eff)
  | .call f cts xs rts fz lent => ∀ ys d l, o.dst = some d → (∀ q ∈ ownIds d (md f).own.length, ¬ used q) → Spec P md f cts xs ys → callL P (md f) rts d ys = some l → Does P o a w (Outc P md w0 N0 M0 slot look used ds n a l (callEff P (md f) lookR rts fz lent d ys))

section
variable {P : Program} {md : Nat → FMode} {w0 w w' : World} {N0 M0 M : Nat → Prop} {slot : Nat → L} {look lookR : Nat → Option Blk} {used : Nat → Prop} {ds : Dfs} {β : Nat → Value} {a : Act} {n : Nat}
theorem eval_int (h : R P md w0 N0 M0 slot look used ds n β a w) {x : Operand} {i : Int} (hx : intOfL (opd slot x) = some i) : ∃ k, opd slot x = .i k i ∧ a.eval x = .int k i := by
  have hv := opd_vl h x
  unfold intOfL at hx
  split at hx
  · rename_i k m e; injection hx with hx; subst hx; rw [e] at hv; exact ⟨k, e, (vl_i hv).1⟩
  · cases hx
theorem bound_run {k : IntKind} {i : Int} {y : Nat} {code : BoundsCode} (h0 : 0 ≤ i) (h1 : i ≤ y) : (Instr.sliceBound (.int k i) y code).run P w = .ok i.toNat w := by
  simp [Instr.sliceBound, asIntOf, h0, h1]
theorem mem_dec {p : Prop} [Decidable p] {bs : List Bool} (h : ∀ b ∈ bs, b = true) (hm : decide p ∈ bs) : p := of_decide_eq_true (h _ hm)
theorem op_slice_all (hP : WfP P) (h : R P md w0 N0 M0 slot look used ds n β a w) (hsub : ∀ r b, lookR r = some b → look r = some b) {o : Oper} {t : TypeId} {x : Operand} {lo hi mx : Option Operand} (ho : o.op = .slice t x lo hi mx) {r : OpR} (he : evOp P md o (opd slot) lookR = some r) : OpOk P md w0 N0 M0 slot look lookR used ds n a w o r := by
  simp only [evOp, ho] at he
  split at he
  · rename_i s ex
    split at he
    · rename_i e1 e2
      obtain rfl : lo = none := by cases lo <;> first | rfl | cases e1
      obtain rfl : hi = none := by cases hi <;> first | rfl | cases e2
      split at he
      · rename_i ht
        injection he with he; subst he
        intro hc _
        have := op_slice_s h ho ex ht (l := 0) (k := s.size) (Nat.zero_le _) (Nat.le_refl _) (by simp [Instr.sliceBounds])
        rwa [show s.extract 0 s.size = s by simp] at this
      · cases he
    · rename_i l e1 e2
      obtain ⟨y, rfl, hy⟩ : ∃ y, lo = some y ∧ intOfL (opd slot y) = some l := by cases lo with | none => cases e1 | some y => exact ⟨y, rfl, by simpa using e1⟩
      obtain rfl : hi = none := by cases hi <;> first | rfl | cases e2
      obtain ⟨k, _, hv⟩ := eval_int h hy
      split at he
      · rename_i ht
        injection he with he; subst he
        intro hc _
        have c1 := mem_dec hc (p := 0 ≤ l) (by simp)
        have c2 := mem_dec hc (p := l ≤ s.size) (by simp)
        refine op_slice_s h ho ex ht (by omega) (Nat.le_refl _) ?_
        simp [Instr.sliceBounds, hv, bound_run (P := P) (w := w) c1 c2]
      · cases he
    · rename_i u e1 e2
      obtain ⟨y, rfl, hy⟩ : ∃ y, hi = some y ∧ intOfL (opd slot y) = some u := by cases hi with | none => cases e2 | some y => exact ⟨y, rfl, by simpa using e2⟩
      obtain rfl : lo = none := by cases lo <;> first | rfl | cases e1
      obtain ⟨k, _, hv⟩ := eval_int h hy
      split at he
      · rename_i ht
        injection he with he; subst he
        intro hc _
        have c1 := mem_dec hc (p := 0 ≤ u) (by simp)
        have c2 := mem_dec hc (p := u ≤ s.size) (by simp)
        refine op_slice_s h ho ex ht (Nat.zero_le _) (by omega) ?_
        simp [Instr.sliceBounds, hv, bound_run (P := P) (w := w) c1 c2]
      · cases he
    · rename_i l u e1 e2
      obtain ⟨y, rfl, hy⟩ : ∃ y, lo = some y ∧ intOfL (opd slot y) = some l := by cases lo with | none => cases e1 | some y => exact ⟨y, rfl, by simpa using e1⟩
      obtain ⟨z, rfl, hz⟩ : ∃ y, hi = some y ∧ intOfL (opd slot y) = some u := by cases hi with | none => cases e2 | some y => exact ⟨y, rfl, by simpa using e2⟩
      obtain ⟨k, _, hv⟩ := eval_int h hy
      obtain ⟨k', _, hv'⟩ := eval_int h hz
      split at he
      · rename_i ht
        injection he with he; subst he
        intro hc _
        have c1 := mem_dec hc (p := 0 ≤ l) (by simp)
        have c2 := mem_dec hc (p := l ≤ u) (by simp)
        have c3 := mem_dec hc (p := u ≤ s.size) (by simp)
        refine op_slice_s h ho ex ht (by omega) (by omega) ?_
        simp [Instr.sliceBounds, hv, hv', bound_run (P := P) (w := w) (show 0 ≤ u by omega) c3, bound_run (P := P) (w := w) (y := u.toNat) c1 (by omega)]
      · cases he
    · cases he
  · split at he
    · cases he
    · rename_i es hes
      split at he
      · cases he
      · rename_i hpos
        have hp : ∀ e, tElem P t = some e → 0 < P.cellsOf e := by
          intro e hte
          simp [posElem, hte] at hpos
          omega
        split at he
        · rename_i hz
          injection he with he; subst he
          intro _ _
          simp only [Bool.and_eq_true] at hz
          obtain ⟨⟨z1, z2⟩, z3⟩ := hz
          obtain rfl : lo = none := by simpa using z1
          have zz : ∀ q : Option Operand, isZ q = true → ∃ k, q = some (.const (.int k 0)) := by
            intro q hq
            unfold isZ at hq
            split at hq
            · rename_i k m
              have : m = 0 := by simpa using hq
              subst this
              exact ⟨k, rfl⟩
            · cases hq
          obtain ⟨k1, rfl⟩ := zz hi z2
          obtain ⟨k2, rfl⟩ := zz mx z3
          exact op_slice_mt h hsub ho hes hp rfl rfl
        · split at he
          · rename_i u m e1 e2 e3
            obtain rfl : lo = none := by cases lo <;> first | rfl | cases e1
            obtain ⟨z, rfl, hz⟩ : ∃ y, hi = some y ∧ intOfL (opd slot y) = some u := by cases hi with | none => cases e2 | some y => exact ⟨y, rfl, by simpa using e2⟩
            obtain ⟨y, rfl, hy⟩ : ∃ y, mx = some y ∧ intOfL (opd slot y) = some m := by cases mx with | none => cases e3 | some y => exact ⟨y, rfl, by simpa using e3⟩
            obtain ⟨k, _, hv⟩ := eval_int h hy
            obtain ⟨k', _, hv'⟩ := eval_int h hz
            injection he with he; subst he
            intro hc _
            have c1 := mem_dec hc (p := 0 ≤ u) (by simp)
            have c2 := mem_dec hc (p := u ≤ m) (by simp)
            have c3 := mem_dec hc (p := m ≤ es.length) (by simp)
            refine op_slice hP h hsub ho hes hp (l := 0) (k := u.toNat) (m := u.toNat) (Nat.zero_le _) (by omega) (Nat.le_refl _) (fun cap hcap => ⟨m.toNat, by omega, by omega, ?_⟩)
            simp [Instr.sliceBounds, hv, hv', bound_run (P := P) (w := w) (show 0 ≤ m by omega) (show m ≤ cap by omega), bound_run (P := P) (w := w) (y := m.toNat) c1 (by omega)]
          · rename_i u e1 e2 e3
            obtain rfl : lo = none := by cases lo <;> first | rfl | cases e1
            obtain ⟨z, rfl, hz⟩ : ∃ y, hi = some y ∧ intOfL (opd slot y) = some u := by cases hi with | none => cases e2 | some y => exact ⟨y, rfl, by simpa using e2⟩
            obtain rfl : mx = none := by cases mx <;> first | rfl | cases e3
            obtain ⟨k', _, hv'⟩ := eval_int h hz
            injection he with he; subst he
            intro hc _
            have c1 := mem_dec hc (p := 0 ≤ u) (by simp)
            have c2 := mem_dec hc (p := u ≤ es.length) (by simp)
            refine op_slice hP h hsub ho hes hp (l := 0) (k := u.toNat) (m := u.toNat) (Nat.zero_le _) (by omega) (Nat.le_refl _) (fun cap hcap => ⟨cap, by omega, by omega, ?_⟩)
            simp [Instr.sliceBounds, hv', bound_run (P := P) (w := w) c1 (show u ≤ cap by omega)]
          · rename_i l e1 e2 e3
            obtain ⟨z, rfl, hz⟩ : ∃ y, lo = some y ∧ intOfL (opd slot y) = some l := by cases lo with | none => cases e1 | some y => exact ⟨y, rfl, by simpa using e1⟩
            obtain rfl : hi = none := by cases hi <;> first | rfl | cases e2
            obtain rfl : mx = none := by cases mx <;> first | rfl | cases e3
            obtain ⟨k', _, hv'⟩ := eval_int h hz
            injection he with he; subst he
            intro hc _
            have c1 := mem_dec hc (p := 0 ≤ l) (by simp)
            have c2 := mem_dec hc (p := l ≤ es.length) (by simp)
            have := op_slice hP h hsub ho hes hp (l := l.toNat) (k := es.length) (m := es.length) (by omega) (Nat.le_refl _) (Nat.le_refl _) (fun cap hcap => ⟨cap, hcap, Nat.le_refl _, by simp [Instr.sliceBounds, hv', bound_run (P := P) (w := w) c1 c2]⟩)
            rwa [List.take_length] at this
          · rename_i l u e1 e2 e3
            obtain ⟨y, rfl, hy⟩ : ∃ y, lo = some y ∧ intOfL (opd slot y) = some l := by cases lo with | none => cases e1 | some y => exact ⟨y, rfl, by simpa using e1⟩
            obtain ⟨z, rfl, hz⟩ : ∃ y, hi = some y ∧ intOfL (opd slot y) = some u := by cases hi with | none => cases e2 | some y => exact ⟨y, rfl, by simpa using e2⟩
            obtain rfl : mx = none := by cases mx <;> first | rfl | cases e3
            obtain ⟨k, _, hv⟩ := eval_int h hy
            obtain ⟨k', _, hv'⟩ := eval_int h hz
            injection he with he; subst he
            intro hc _
            have c1 := mem_dec hc (p := 0 ≤ l) (by simp)
            have c2 := mem_dec hc (p := l ≤ u) (by simp)
            have c3 := mem_dec hc (p := u ≤ es.length) (by simp)
            refine op_slice hP h hsub ho hes hp (l := l.toNat) (k := u.toNat) (m := u.toNat) (by omega) (by omega) (Nat.le_refl _) (fun cap hcap => ⟨cap, by omega, by omega, ?_⟩)
            simp [Instr.sliceBounds, hv, hv', bound_run (P := P) (w := w) (show 0 ≤ u by omega) (show u ≤ cap by omega), bound_run (P := P) (w := w) (y := u.toNat) c1 (by omega)]
          · cases he

theorem mem_ownIds {d q : Nat} : ∀ {k : Nat}, ownId d k q → q ∈ ownIds d k
  | 0, ⟨i, hi, _⟩ => by omega
  | k + 1, ⟨i, hi, hq⟩ => by
    simp only [ownIds, List.mem_cons]
    by_cases e : i = k
    · subst e; exact .inl hq
    · exact .inr (mem_ownIds ⟨i, by omega, hq⟩)
theorem own_nil {rs : List Nat} {os : List (Nat × List Nat)} (h1 : ownOk P rs os = true) (h2 : rs.all (scalarT P) = true) : os = [] := by
  cases os with
  | nil => rfl
  | cons o os =>
    exfalso
    have h := List.all_eq_true.1 h1 o (by simp)
    unfold ownT at h
    split at h
    · rename_i t ht
      have hs := List.all_eq_true.1 h2 t (List.mem_of_getElem? ht)
      split at h
      · rename_i u hu
        split at h
        · cases ho : o.2 with
          | nil =>
            rw [ho] at hu
            simp only [typeAt, Option.some.injEq] at hu
            subst hu
            unfold tElem at h
            unfold scalarT at hs
            split at h
            · rename_i e he; rw [he] at hs; cases hs
            · cases h
          | cons i p =>
            rw [ho] at hu
            simp only [typeAt] at hu
            split at hu
            · cases hu
            · rename_i fs hfs
              obtain ⟨⟨b, hb, _⟩, _⟩ := fieldsOf_under hfs
              unfold scalarT at hs
              rw [hb] at hs
              cases hs
        · cases h
      · cases h
    · cases h
/-- What is captured, or known: its arguments behind the others. -/
def CapOk (P : Program) (md : Nat → FMode) (w : World) (M0 : Nat → Prop) (look lookR : Nat → Option Blk) (β : Nat → Value) (fz0 : List Nat) (cts : List CT) (dd : List D) (cvs : List Value) : Prop :=
  ∀ rs : List Nat, (∀ r ∈ fz0, r ∈ rs) → cts.length = dd.length ∧ cvs.length = dd.length ∧ ∀ (i : Nat) (ct : CT) (x : D) (v : Value), cts[i]? = some ct → dd[i]? = some x → cvs[i]? = some v → Rd P md w (Mof M0 (effF look (fzEff lookR rs)) β) ct x v
theorem mem_fzOfs {ls : List L} {l : L} (h : l ∈ ls) {r : Nat} (hr : r ∈ fzOf lookR l) : r ∈ fzOfs lookR ls := by
  simp only [fzOfs, List.mem_flatMap]; exact ⟨l, h, hr⟩
theorem callR_ok (hP : WfP P) (h : R P md w0 N0 M0 slot look used ds n β a w) (hsub : ∀ r b, lookR r = some b → look r = some b) {o : Oper} {f : Nat} {ps rs : List Nat} {cts : List CT} {dd : List D} {args : List Operand} {fz0 tys : List Nat} {r : OpR} {cvs : List Value}
    (he : callR P md (md f) f ps rs cts dd lookR (args.map (opd slot)) fz0 tys = some r) (hps : ∀ fn, P.funcs[f]? = some fn → fn.params.toList = ps ∧ fn.resultTypes.toList = rs)
    (hrun : ∀ fn, P.funcs[f]? = some fn → fn.body.isSome = true → (fn.name == "runtime.NumGoroutine") = false → (execOp a.eval o).run P w = .ok (.enter f (args.map a.eval ++ cvs).toArray) w) (hcap : CapOk P md w M0 look lookR β fz0 cts dd cvs) :
    OpOk P md w0 N0 M0 slot look lookR used ds n a w o r := by
  unfold callR at he
  split at he
  · cases he
  · rename_i xs hxs
    split at he
    · rename_i hcond
      simp only [Bool.and_eq_true, beq_iff_eq] at hcond
      obtain ⟨⟨⟨⟨_, hoo⟩, _⟩, _⟩, _⟩ := hcond
      have hrun' : ∀ ys, Spec P md f cts (xs ++ dd) ys → (execOp a.eval o).run P w = .ok (.enter f (args.map a.eval ++ cvs).toArray) w := by
        rintro ys ⟨fn, h1, h2, h3, _⟩
        exact hrun fn h1 h2 h3
      obtain ⟨e1, e2, e3⟩ := convs_at hxs
      rw [List.length_map] at e1
      split at he
      · rename_i harg
        split at he
        · cases he
        · rename_i hback
          have hb : (md f).back = false := by simpa using hback
          have hno : ∀ b, ¬ lentN (md f) (args.map a.eval ++ cvs) b := by rintro b ⟨p, v, hp, _⟩; rw [harg] at hp; cases hp
          injection he with he
          subst he
          intro _ ys d l hd hfr hspec hl
          have hA := args_ok (fm := md f) (rs := fz0 ++ fzOfs lookR (args.map (opd slot))) hP h hsub hxs (fun i x hx _ r hr => List.mem_append_right _ (mem_fzOfs (List.mem_map.2 ⟨x, List.mem_of_getElem? hx, rfl⟩) hr)) (hcap _ (fun r hr => List.mem_append_left _ hr)) (fun p hp => by rw [harg] at hp; cases hp)
          simp only [callL, Option.map_eq_some_iff] at hl
          obtain ⟨ls, hls, rfl⟩ := hl
          by_cases hsc : rs.all (scalarT P) = true
          · have hown := own_nil hoo hsc
            rw [hown] at hls
            simp only [setOwn, Option.some.injEq] at hls
            subst hls
            simp only [callEff, hsc, if_true, fzEff, hown, ownEff, List.append_nil]
            exact op_call_scalar h hsub (hrun' ys hspec) hspec hps harg hown hA hsc
          · simp only [callEff, hsc, Bool.false_eq_true, if_false]
            exact op_call h hsub (hrun' ys hspec) hspec hps hA (fun q hq => hfr q (mem_ownIds hq)) hls hoo (.inl ⟨rfl, hno, hb⟩) (fun p hp => by rw [harg] at hp; cases hp)
      · rename_i p harg
        split at he
        · rename_i lr hlr
          split at he
          · rename_i hfree
            injection he with he
            subst he
            intro _ ys d l hd hfr hspec hl
            simp only [callL, Option.map_eq_some_iff] at hl
            obtain ⟨ls, hls, rfl⟩ := hl
            have hplt : ∀ q, (md f).arg = some q → q < ps.length := by
              intro q hq
              rw [harg] at hq
              injection hq with hq
              subst hq
              unfold lentR at hlr
              split at hlr
              · rename_i h1; exact (List.getElem?_eq_some_iff.1 h1).1
              · rename_i h1; exact (List.getElem?_eq_some_iff.1 h1).1
              · cases hlr
            have hA := args_ok (fm := md f) (rs := fz0 ++ fzOfs lookR ((args.map (opd slot)).eraseIdx p)) hP h hsub hxs (fun i x hx hne r hr => List.mem_append_right _ (mem_fzOfs (mem_eraseIdx (i := i) (by rw [List.getElem?_map, hx]; rfl) (fun e => hne (by rw [harg, e]))) hr)) (hcap _ (fun r hr => List.mem_append_left _ hr)) hplt
            generalize hrs : fz0 ++ fzOfs lookR ((args.map (opd slot)).eraseIdx p) = rs' at *
            unfold lentR at hlr
            split at hlr
            · rename_i q t hq ht
              split at hlr
              · rename_i e es hrow
                split at hlr
                · rename_i hc
                  simp only [Bool.and_eq_true, beq_iff_eq] at hc
                  obtain ⟨⟨hte, hone⟩, _⟩ := hc
                  injection hlr with hlr
                  subst hlr
                  have hqf : q ∉ rs' := by simpa using hfree
                  have hE : lentE P ps (md f) = e := by simp [lentE, harg, ht, hte]
                  rw [List.getElem?_map, Option.map_eq_some_iff] at hq
                  obtain ⟨x, hx, hxq⟩ := hq
                  have hpl' : p < args.length := (List.getElem?_eq_some_iff.1 hx).1
                  have hvx : (args.map a.eval ++ cvs)[p]? = some (β q) := by
                    rw [List.getElem?_append_left (by simpa using hpl'), List.getElem?_map, hx]
                    have := opd_vl h x
                    rw [hxq] at this
                    simp [vl_row this (hsub _ _ hrow)]
                  have hlq : effF look (fzEff lookR rs') q = some (.row e es true) := by rw [fz_other _ _ _ hqf]; exact hsub _ _ hrow
                  have hD := op_call h hsub (rs := rs') (d := d) (ls := ls) (lentEff := if (md f).back then [(q, some (.row (lentE P ps (md f)) (ys.getD rs.length .nil).els true))] else [(q, none)]) (hrun' ys hspec) hspec hps hA (fun q hq => hfr q (mem_ownIds hq)) hls hoo (.inr ⟨q, es, p, by rw [hE]; exact hlq, harg, hvx, rfl⟩) (fun p' hp' => by
                    rw [harg] at hp'
                    injection hp' with hp'
                    subst hp'
                    refine ⟨t, e, es, β q, ?_, hte, hone, ?_, hvx, (h.fz hsub rs').blks q _ hlq⟩
                    · rw [List.getElem?_append_left (by rw [List.length_map]; exact (List.getElem?_eq_some_iff.1 ht).1), List.getElem?_map, ht]; rfl
                    · have hpx : p < xs.length := by rw [e2]; exact (List.getElem?_eq_some_iff.1 ht).1
                      have := e3 p (.row q) t xs[p] (by rw [List.getElem?_map, hx]; simp [hxq]) ht (List.getElem?_eq_getElem hpx)
                      simp only [conv, conv0, hrow, hte, beq_self_eq_true, if_true, Option.some.injEq] at this
                      rw [List.getElem?_append_left hpx, List.getElem?_eq_getElem hpx, ← this])
                  rw [hE] at hD
                  exact hD
                · cases hlr
              · cases hlr
            · rename_i t hq ht
              split at hlr
              · cases hlr
              · rename_i hback
                have hb : (md f).back = false := by simpa using hback
                split at hlr
                · rename_i e hte
                  split at hlr
                  · rename_i hone
                    injection hlr with hlr
                    subst hlr
                    rw [List.getElem?_map, Option.map_eq_some_iff] at hq
                    obtain ⟨x, hx, hxq⟩ := hq
                    have hpl' : p < args.length := (List.getElem?_eq_some_iff.1 hx).1
                    obtain ⟨A, hvx⟩ : ∃ A, (args.map a.eval ++ cvs)[p]? = some (.slice A 0 0) := by
                      have := opd_vl h x
                      rw [hxq] at this
                      obtain ⟨A, hA'⟩ := vl_mt this
                      exact ⟨A, by rw [List.getElem?_append_left (by simpa using hpl'), List.getElem?_map, hx]; simp [hA']⟩
                    have hno : ∀ b, ¬ lentN (md f) (args.map a.eval ++ cvs) b := by
                      rintro b ⟨p', v, hp', hv, hB⟩
                      rw [harg] at hp'
                      injection hp' with hp'
                      subst hp'
                      rw [hvx] at hv
                      injection hv with hv
                      subst hv
                      cases A <;> simp [ownB] at hB
                    exact op_call h hsub (rs := rs') (d := d) (ls := ls) (lentEff := []) (hrun' ys hspec) hspec hps hA (fun q hq => hfr q (mem_ownIds hq)) hls hoo (.inl ⟨rfl, hno, hb⟩) (fun p' hp' => by
                      rw [harg] at hp'
                      injection hp' with hp'
                      subst hp'
                      refine ⟨t, e, [], .slice A 0 0, ?_, hte, hone, ?_, hvx, ⟨A, 0, rfl, .inl ⟨rfl, rfl⟩⟩⟩
                      · rw [List.getElem?_append_left (by rw [List.length_map]; exact (List.getElem?_eq_some_iff.1 ht).1), List.getElem?_map, ht]; rfl
                      · have hpx : p < xs.length := by rw [e2]; exact (List.getElem?_eq_some_iff.1 ht).1
                        have := e3 p .mt t xs[p] (by rw [List.getElem?_map, hx]; simp [hxq]) ht (List.getElem?_eq_getElem hpx)
                        simp only [conv, conv0, hte, Option.isSome_some, if_true, Option.some.injEq] at this
                        rw [List.getElem?_append_left hpx, List.getElem?_eq_getElem hpx, ← this])
                  · cases hlr
                · cases hlr
            · cases hlr
          · cases he
        · cases he
    · cases he

theorem cap_fn (h : R P md w0 N0 M0 slot look used ds n β a w) (hsub : ∀ r b, lookR r = some b → look r = some b) {caps : List L} {vs : Array Value} {cts : List CT} {dd : List D} (hsz : vs.size = caps.length) (hv : ∀ (i : Nat) (l : L) (u : Value), caps[i]? = some l → vs[i]? = some u → LC P md w (Mof M0 look β) look β l (fun j => u.cells[j]?) ∧ szOk P l u)
    (h1 : capCTs lookR caps = some cts) (h2 : capDs P lookR caps = some dd) : CapOk P md w M0 look lookR β (caps.flatMap (capRows lookR)) cts dd vs.toList := by
  intro rs hrs
  obtain ⟨c1, c2⟩ := capCTs_at h1
  obtain ⟨d1, d2⟩ := capDs_at h2
  refine ⟨by rw [c1, d1], by simp [hsz, d1], fun i ct x v hct hx hvi => ?_⟩
  have hi : i < caps.length := by rw [← c1]; exact (List.getElem?_eq_some_iff.1 hct).1
  have hli := List.getElem?_eq_getElem hi
  rw [Array.getElem?_toList] at hvi
  obtain ⟨g1, g2⟩ := hv i _ v hli hvi
  have := capD_rd hsub (fz_M h hsub rs) h.blks h.blt g1 g2 (c2 i _ ct hli hct) (d2 i _ x hli hx) (fun r hr => fz_away h hsub rs r (hrs r (List.mem_flatMap.2 ⟨_, List.getElem_mem hi, hr⟩)))
  exact ⟨this.1, this.2.1, this.2.2⟩
theorem run_call {o : Oper} {c : Call} {g : Operand} {f : Nat} {vs : Array Value} (ho : o.op = .call c) (hc : c.callee = .value g) (hg : a.eval g = .func (.func f) #[] vs) {fn : Func} (h1 : P.funcs[f]? = some fn) (h2 : fn.body.isSome = true) (h3 : (fn.name == "runtime.NumGoroutine") = false) :
    (execOp a.eval o).run P w = .ok (.enter f (c.args.toList.map a.eval ++ vs.toList).toArray) w := by
  have := run_callFunc (w := w) (vs := c.args.map a.eval ++ vs) h1 h2 h3
  have e : (c.args.toList.map a.eval ++ vs.toList).toArray = c.args.map a.eval ++ vs := by rw [← Array.toList_inj]; simp
  rw [e]
  simp [execOp, ho, resolve, hc, hg, Deferred.ofValue, invoke, this]
theorem plain_eq {m : FMode} (h : m.plain = true) : m = {} := by
  obtain ⟨o, ar, b, nn⟩ := m
  simp [FMode.plain] at h
  obtain ⟨⟨⟨h1, h2⟩, h3⟩, h4⟩ := h
  subst h1; subst h2; subst h3; subst h4; rfl
theorem op_call_all (hP : WfP P) (h : R P md w0 N0 M0 slot look used ds n β a w) (hsub : ∀ r b, lookR r = some b → look r = some b) {o : Oper} {c : Call} (ho : o.op = .call c) {r : OpR} (he : evOp P md o (opd slot) lookR = some r) : OpOk P md w0 N0 M0 slot look lookR used ds n a w o r := by
  simp only [evOp, ho] at he
  have args1 : ∀ v, c.args.toList.map (opd slot) = [v] → ∃ x, c.args.toList = [x] ∧ opd slot x = v := by
    intro v hv
    match hargs : c.args.toList, hv with
    | [x], hv => exact ⟨x, rfl, by simpa using hv⟩
    | [], hv => simp at hv
    | _ :: _ :: _, hv => simp at hv
  have args2 : ∀ v u, c.args.toList.map (opd slot) = [v, u] → ∃ x y, c.args.toList = [x, y] ∧ opd slot x = v ∧ opd slot y = u := by
    intro v u hv
    match hargs : c.args.toList, hv with
    | [x, y], hv => simp at hv; exact ⟨x, y, rfl, hv.1, hv.2⟩
    | [], hv => simp at hv
    | [_], hv => simp at hv
    | _ :: _ :: _ :: _, hv => simp at hv
  split at he
  · rename_i v hc hargs
    obtain ⟨x, hx, rfl⟩ := args1 v hargs
    split at he
    · cases he
    · rename_i hne
      have hne' : c.argTypes.size ≠ 0 := by simpa using hne
      split at he
      · rename_i s hs
        split at he
        · rename_i ht
          injection he with he; subst he
          intro _ _
          exact op_len_s h ho hc hx hne' hs ht
        · cases he
      · rename_i es hes _
        injection he with he; subst he
        intro _ _
        exact op_len h hsub ho hc hx hne' hes
      · cases he
  · rename_i v u hc hargs
    obtain ⟨x, y, hx, rfl, rfl⟩ := args2 v u hargs
    split at he
    · rename_i d e xs hd hte hxs
      split at he
      · rename_i hcond
        simp only [Bool.and_eq_true, beq_iff_eq] at hcond
        obtain ⟨⟨⟨k1, k2⟩, k3⟩, k4⟩ := hcond
        rw [k2] at hxs
        have hmade : madeBy o = [d] := by simp [madeBy, ho, hc, hd]
        split at he
        · rename_i hmt
          injection he with he; subst he
          intro hcs hm
          exact op_append_mt hP h hsub ho hc hx k1 k2 (hm d (by simp [hmade])) hte k3 k4 hxs hmt (mem_dec hcs (by simp))
        · rename_i q hq
          split at he
          · rename_i e' es hrow
            split at he
            · rename_i hcc
              simp only [Bool.and_eq_true, beq_iff_eq] at hcc
              obtain ⟨rfl, _⟩ := hcc
              injection he with he; subst he
              intro hcs hm
              exact op_append_row hP h hsub ho hc hx k1 k2 (hm d (by simp [hmade])) hte k3 k4 hxs hq (hsub _ _ hrow) (mem_dec hcs (by simp))
            · cases he
          · cases he
        · cases he
      · cases he
    · cases he
  · rename_i q u hc hargs
    obtain ⟨x, y, hx, hq, rfl⟩ := args2 _ u hargs
    split at he
    · rename_i e es xs hrow hxs
      split at he
      · rename_i hcond
        simp only [Bool.and_eq_true, beq_iff_eq] at hcond
        obtain ⟨⟨⟨⟨k1, k2⟩, k3⟩, k4⟩, k5⟩ := hcond
        injection he with he; subst he
        intro hcs hm
        exact op_copy hP h hsub ho hc hx k1 k2 k3 k5 hxs hq (hsub _ _ hrow) (by simpa using k4)
      · cases he
    · cases he
  · rename_i hc
    simp only [Option.map_eq_some_iff] at he
    obtain ⟨l, hl, rfl⟩ := he
    intro _ _
    exact op_maxmin (mx := true) h ho (by simpa using hc) hl
  · rename_i hc
    simp only [Option.map_eq_some_iff] at he
    obtain ⟨l, hl, rfl⟩ := he
    intro _ _
    exact op_maxmin (mx := false) h ho (by simpa using hc) hl
  · rename_i g hc
    split at he
    · rename_i f caps hg
      split at he
      · rename_i fn cts dd hfn hcts hds
        have hv := opd_vl h g
        rw [hg] at hv
        obtain ⟨vs, v1, v2, v3⟩ := vl_fn hv
        refine callR_ok (cvs := vs.toList) hP h hsub he (fun fn' hfn' => ?_) (fun fn' h1 h2 h3 => run_call ho hc v1 h1 h2 h3) (cap_fn h hsub v2 v3 hcts hds)
        rw [hfn] at hfn'
        injection hfn' with hfn'
        subst hfn'
        exact ⟨rfl, rfl⟩
      · cases he
    · rename_i t x hg
      split at he
      · rename_i ps rs va hu
        have hv := opd_vl h g
        rw [hg] at hv
        obtain ⟨hl, hsz⟩ := vl_ne hv (by simp) (by simp) (by simp)
        have hcc := one_c hsz (by simp [L.isAgg, isAggT, hu])
        cases hl with
        | d hrd =>
          cases hrd with
          | int ht _ _ _ => rw [show P.underlying t = _ from ht] at hu; cases hu
          | bool ht _ => rw [show P.underlying t = _ from ht] at hu; cases hu
          | str ht _ _ => rw [show P.underlying t = _ from ht] at hu; cases hu
          | sl ht _ _ _ _ _ => rw [show P.underlying t = _ from ht] at hu; cases hu
          | struct ht _ _ => obtain ⟨⟨b, hb, _⟩, _⟩ := fieldsOf_under ht; rw [hb] at hu; cases hu
          | ref ht _ _ _ _ => rw [show P.underlying t = _ from ht] at hu; cases hu
          | @fn _ ps' rs' va' f fn cts dd vs c ht hf hp hr hm hc' hl hl2 hel hs =>
            have ht' : P.underlying t = some (.func ps' rs' va') := ht
            rw [hu] at ht'
            injection ht' with ht'
            injection ht' with q1 q2 q3
            subst q1; subst q2
            have hfv : a.eval g = .func (.func f) #[] vs := by
              have hc'' : (a.eval g).cells[0]? = some (.func (.func f) #[] vs) := hc'
              rw [hcc] at hc''
              simpa using hc''
            simp only [D.fnId, D.fnCts, D.fnDs] at he
            rw [← plain_eq hm] at he
            refine callR_ok (cvs := vs.toList) hP h hsub he (fun fn' hfn' => ?_) (fun fn' h1 h2 h3 => run_call ho hc hfv h1 h2 h3) (fun rs _ => ⟨hl, by simpa using hl2, fun i ct x v h1 h2 h3 => ?_⟩)
            · rw [hf] at hfn'
              injection hfn' with hfn'
              subst hfn'
              rw [hp, hr]
              exact ⟨rfl, rfl⟩
            · rw [Array.getElem?_toList] at h3
              have := hs i ct v h1 h3
              exact ⟨(hel i ct x v h1 h2 h3).mono (Nat.le_refl _) (fun _ _ _ => rfl) (fun b hb _ => fz_M h hsub rs b hb), this.1, this.2⟩
      · cases he
    · cases he
  · cases he

/-- ████ Every operation. -/
theorem op_all (hP : WfP P) (h : R P md w0 N0 M0 slot look used ds n β a w) (hsub : ∀ r b, lookR r = some b → look r = some b) {o : Oper} {r : OpR} (he : evOp P md o (opd slot) lookR = some r) : OpOk P md w0 N0 M0 slot look lookR used ds n a w o r := by
  cases ho : o.op with
  | slice t x lo hi mx => exact op_slice_all hP h hsub ho he
  | call c => exact op_call_all hP h hsub ho he
  | move x =>
    simp only [evOp, ho, Option.some.injEq] at he; subst he
    intro _ _; exact op_move h (.inl ho)
  | assign x =>
    simp only [evOp, ho, Option.some.injEq] at he; subst he
    intro _ _; exact op_move h (.inr ho)
  | pick c x y =>
    simp only [evOp, ho] at he
    split at he
    · rename_i hc
      injection he with he; subst he
      intro _ _; exact op_pick h ho (b := true) (by rw [hc]; rfl) (opd_vl h x) (opd_ids h x)
    · rename_i hc
      injection he with he; subst he
      intro _ _; exact op_pick h ho (b := false) (by rw [hc]; rfl) (opd_vl h y) (opd_ids h y)
    · rename_i b hc
      split at he
      · rename_i p q hp hq
        injection he with he; subst he
        intro _ _
        refine op_pick h ho (b := b) (by rw [hc]; rfl) ?_ (by simp [L.ids])
        cases b
        · simp only [Bool.false_eq_true, if_false, cond_false]; rw [vl_tob (opd_vl h y) hq]; exact mk_b
        · simp only [if_true, cond_true]; rw [vl_tob (opd_vl h x) hp]; exact mk_b
      · cases he
    · cases he
  | alloc t =>
    simp only [evOp, ho] at he
    split at he
    · rename_i d z hd hz
      injection he with he; subst he
      intro _ hm; exact op_alloc h ho (hm d (by simp [madeBy, ho, hd])) hz
    · cases he
  | box t x =>
    simp only [evOp, ho] at he
    split at he
    · rename_i d hd
      split at he
      · rename_i hc
        simp only [Bool.and_eq_true, decide_eq_true_eq] at hc
        injection he with he; subst he
        intro _ hm; exact op_box h ho (hm d (by simp [madeBy, ho, hd])) hc.1 hc.2
      · cases he
    · cases he
  | build t ps =>
    simp only [evOp, ho] at he
    split at he
    · rename_i fs t' zs hfs hz
      split at he
      · rename_i hc
        simp only [Bool.and_eq_true, beq_iff_eq] at hc
        obtain ⟨rfl, _⟩ := hc
        simp only [Option.map_eq_some_iff] at he
        obtain ⟨ls, hls, rfl⟩ := he
        intro _ _; exact op_build hP h ho hfs hz hls
      · cases he
    · cases he
  | buildSlice t m ps =>
    simp only [evOp, ho] at he
    split at he
    · rename_i d e hd hte
      split at he
      · rename_i hc
        simp only [Bool.and_eq_true, beq_iff_eq, decide_eq_true_eq] at hc
        obtain ⟨⟨⟨k1, k2⟩, k3⟩, k4⟩ := hc
        split at he
        · rename_i es hes
          injection he with he; subst he
          intro _ hm; exact op_buildSlice hP h hsub ho (hm d (by simp [madeBy, ho, hd])) hte k1 k2 k3 k4 hes
        · cases he
      · cases he
    · cases he
  | load t x =>
    simp only [evOp, ho] at he
    split at he
    · rename_i r p hx
      split at he
      · rename_i t0 l lv hr
        split at he
        · rename_i t' l' hs
          split at he
          · rename_i hc
            simp only [Bool.and_eq_true, beq_iff_eq] at hc
            obtain ⟨rfl, hok⟩ := hc
            injection he with he; subst he
            intro _ _; exact op_load_ptr hP h ho hx (hsub _ _ hr) hs hok
          · cases he
        · cases he
      · cases he
    · rename_i r j p hx
      split at he
      · rename_i e es lv hr
        split at he
        · rename_i hc
          injection he with he; subst he
          intro _ _; exact op_load_row hP h ho hx (hsub _ _ hr) (by simpa using hc)
        · cases he
      · cases he
    · rename_i t' y hx
      split at he
      · rename_i hc
        simp only [Bool.and_eq_true, beq_iff_eq, decide_eq_true_eq] at hc
        obtain ⟨rfl, hp⟩ := hc
        injection he with he; subst he
        intro _ _; exact op_load_at hP h ho hx hp
      · cases he
    · cases he
  | store t x v =>
    simp only [evOp, ho] at he
    split at he
    · rename_i r p hx
      split at he
      · rename_i t0 l hr
        split at he
        · rename_i hc
          simp only [Bool.and_eq_true, beq_iff_eq] at hc
          simp only [Option.map_eq_some_iff] at he
          obtain ⟨l', hl', rfl⟩ := he
          intro _ _; exact op_store_ptr h ho hx (hsub _ _ hr) hc.1 hc.2 hl'
        · cases he
      · cases he
    · rename_i r j p hx
      split at he
      · rename_i e es z hr hz
        split at he
        · rename_i hc
          simp only [Bool.and_eq_true, beq_iff_eq] at hc
          injection he with he; subst he
          intro _ _; exact op_store_row hP h hsub ho hx (hsub _ _ hr) hz hc.1 (by simpa using hc.2)
        · cases he
      · cases he
    · cases he
  | binOp op t x y t' =>
    simp only [evOp, ho] at he
    split at he
    · rename_i l hb
      injection he with he; subst he
      intro _ _; exact op_nil h ho hb
    · simp only [Option.map_eq_some_iff] at he
      obtain ⟨⟨cs, l⟩, hb, rfl⟩ := he
      intro hc _; exact op_bin h ho hb hc
  | unOp op t x =>
    simp only [evOp, ho, Option.map_eq_some_iff] at he
    obtain ⟨l, hb, rfl⟩ := he
    intro _ _; exact op_un h ho hb
  | convert s t x =>
    simp only [evOp, ho] at he
    split at he
    · rename_i k' m k d hx ht hs
      injection he with he; subst he
      intro _ _; exact op_conv h ho hx ht hs
    · cases he
  | makeFunc tg first caps =>
    cases tg with
    | func f =>
      simp only [evOp, ho] at he
      split at he
      · rename_i hc
        simp only [Bool.and_eq_true] at hc
        injection he with he; subst he
        intro _ _; exact op_makeFunc h ho hc.1 hc.2
      · cases he
    | _ => simp [evOp, ho] at he
  | makeSlice t l c =>
    simp only [evOp, ho] at he
    split at he
    · rename_i d e i m hd hte hi hm'
      split at he
      · rename_i hok
        split at he
        · rename_i z hz
          split at he
          · rename_i u hu
            injection he with he; subst he
            obtain ⟨k1, g1, _⟩ := eval_int h hi
            obtain ⟨k2, g2, _⟩ := eval_int h hm'
            intro hc hm
            exact op_make h hsub ho (hm d (by simp [madeBy, ho, hd])) g1 g2 hte hok hz hu (mem_dec hc (by simp)) (mem_dec hc (by simp)) (mem_dec hc (by simp))
          · cases he
        · cases he
      · cases he
    · cases he
  | fieldAddr t x i =>
    simp only [evOp, ho] at he
    split at he
    · cases he
    · rename_i fs hfs
      split at he
      · rename_i f r p hf hx
        split at he
        · rename_i t0 l lv hr
          split at he
          · rename_i hc
            injection he with he; subst he
            intro _ _; exact op_fieldAddr h ho hfs hf (.inl ⟨r, p, t0, l, lv, hx, hsub _ _ hr, by simpa using hc, rfl⟩)
          · cases he
        · cases he
      · rename_i f r j p hf hx
        split at he
        · rename_i e es lv hr
          split at he
          · rename_i hc
            injection he with he; subst he
            intro _ _; exact op_fieldAddr h ho hfs hf (.inr (.inl ⟨r, j, p, e, es, lv, hx, hsub _ _ hr, by simpa using hc, rfl⟩))
          · cases he
        · cases he
      · rename_i f t' y hf hx
        split at he
        · rename_i hc
          have : t' = t := by simpa using hc
          subst this
          injection he with he; subst he
          intro _ _; exact op_fieldAddr h ho hfs hf (.inr (.inr ⟨y, hx, rfl⟩))
        · cases he
      · cases he
  | field t x i =>
    simp only [evOp, ho] at he
    split at he
    · rename_i t' l hs
      split at he
      · rename_i hok
        injection he with he; subst he
        intro _ _; exact op_field hP h ho hs hok
      · cases he
    · cases he
  | indexAddr t x y =>
    simp only [evOp, ho] at he
    split at he
    · rename_i i e hi hte
      obtain ⟨k, g, _⟩ := eval_int h hi
      split at he
      · rename_i hp
        simp only [decide_eq_true_eq] at hp
        split at he
        · rename_i t' z hx
          split at he
          · rename_i hc
            have : t' = t := by simpa using hc
            subst this
            injection he with he; subst he
            intro hc _; exact op_indexAddr_d h ho hte hp g hx (mem_dec hc (by simp)) (mem_dec hc (by simp))
          · cases he
        · rename_i r hx
          split at he
          · rename_i e' es lv hr
            split at he
            · rename_i hc
              have : e' = e := by simpa using hc
              subst this
              injection he with he; subst he
              intro hc _; exact op_indexAddr_row h ho hte hp g hx (hsub _ _ hr) (mem_dec hc (by simp)) (mem_dec hc (by simp))
            · cases he
          · cases he
        · cases he
      · cases he
    · cases he
  | index t x y =>
    simp only [evOp, ho] at he
    split at he
    · rename_i s i hx hi
      obtain ⟨k, g, _⟩ := eval_int h hi
      split at he
      · rename_i ht
        injection he with he; subst he
        intro hc _; exact op_index h ho ht g hx (mem_dec hc (by simp)) (mem_dec hc (by simp))
      · cases he
    · cases he
  | extract x i =>
    simp only [evOp, ho] at he
    split at he
    · rename_i ls hx
      split at he
      · rename_i l hl
        injection he with he; subst he
        intro _ _; exact op_extract h ho hx hl
      · cases he
    · cases he
  | _ => simp [evOp, ho] at he
end

end Go.Proofs.YtjmddikeadbmjaaGreat
namespace Go.Proofs.YtjmddikeadbmjaaGreat
open Go.RowKit

/-- What holds of a value in a world. -/
def VP : Type := Value → World → Prop
/-- It stays so while memory grows. -/
def Stay (φ : VP) : Prop := ∀ v w w', φ v w → Ext w w' → φ v w'
def EqV (x : Value) : VP := fun u _ => u = x
theorem EqV.rfl_ {x : Value} {w : World} : EqV x x w := rfl
theorem stay_eq (x : Value) : Stay (EqV x) := fun _ _ _ h _ => h
def upd (f : Nat → VP) (i : Nat) (φ : VP) : Nat → VP := fun k => if k = i then φ else f k

/-- With the values that are looked at, in their slots. -/
def Need (f : Nat → VP) (w : World) (K : Act → Prop) : List (Nat × Tmp) → Act → Prop
  | [], a => K a
  | (j, d) :: r, a => ∀ v, f j v w → Need f w K r (a.put (some d) v)

/-- An operation, carried out in a world, tells a value of which this holds. -/
def RunOp (P : Program) (ops : Array Oper) (o : Oper) (φ : VP) (w : World) (a : Act) : Prop :=
  ∀ K : Act → World → Prop, (∀ v w', Ext w w' → φ v w' → K (a.put o.dst v) w') →
    wpList P ops (Exit.then K (fun _ _ _ => False)) [o] a w

/-- The operations one behind the other, each with what holds of its value. -/
def Grow (P : Program) (ops : Array Oper) (a0 : Act) (w0 : World) (fin : (Nat → VP) → Prop) : Nat → List Oper → List (List (Nat × Tmp)) → (Nat → VP) → Prop
  | _, [], _, f => fin f
  | i, o :: os, ns, f => ∃ φ : VP, Stay φ ∧ (∀ w, Ext w0 w → Need f w (RunOp P ops o φ w) (ns.headD []) a0) ∧ Grow P ops a0 w0 fin (i + 1) os ns.tail (upd f i φ)

theorem Grow.step {P : Program} {ops : Array Oper} {a0 : Act} {w0 : World} {fin : (Nat → VP) → Prop} {i : Nat} {o : Oper} {os : List Oper} {n : List (Nat × Tmp)} {ns : List (List (Nat × Tmp))} {f : Nat → VP} {φ : VP}
    (h : ∀ w, Ext w0 w → Need f w (RunOp P ops o φ w) n a0) (hs : Stay φ) (hr : Grow P ops a0 w0 fin (i + 1) os ns (upd f i φ)) : Grow P ops a0 w0 fin i (o :: os) (n :: ns) f :=
  ⟨φ, hs, h, hr⟩

/-- All that stands ahead of an operation, as bits. -/
def aheads (ops : Array Oper) : Nat → List Nat
  | 0 => []
  | n + 1 => aheads ops n ++ [((ops[n]?).map fun o => o.after.toList.foldl (fun s e => if Region.binds .any e then s ||| 2 ^ e.on ||| (aheads ops n).getD e.on 0 else s) 0).getD 0]

theorem aheads_len (ops : Array Oper) (n : Nat) : (aheads ops n).length = n := by
  induction n with
  | zero => rfl
  | succ n ih => simp [aheads, ih]
theorem aheads_at (ops : Array Oper) (k n : Nat) (h : k < n) : (aheads ops n).getD k 0 = ((ops[k]?).map fun o => o.after.toList.foldl (fun s e => if Region.binds .any e then s ||| 2 ^ e.on ||| (aheads ops k).getD e.on 0 else s) 0).getD 0 := by
  induction n with
  | zero => omega
  | succ n ih =>
    simp only [aheads]
    by_cases hk : k < n
    · rw [← ih hk, List.getD_eq_getElem?_getD, List.getD_eq_getElem?_getD, List.getElem?_append_left (by rw [aheads_len]; exact hk)]
    · obtain rfl : k = n := by omega
      rw [List.getD_eq_getElem?_getD, List.getElem?_append_right (by rw [aheads_len]; exact Nat.le_refl _), aheads_len]
      simp

/-- In what has come up, all that stands ahead has. -/
theorem aheads_listed {ops : Array Oper} {l : Array Bool} (down : ∀ (j : Nat) (o : Oper), l.getD j false = true → ops[j]? = some o → ∀ e ∈ o.after, Region.binds .any e = true → l.getD e.on false = true) :
    ∀ (k : Nat) (o : Oper), ops[k]? = some o → (∀ e ∈ o.after, Region.binds .any e = true → l.getD e.on false = true) → (∀ e ∈ o.after, Region.binds .any e = true → e.on < k) →
      (∀ j o, j < k → ops[j]? = some o → ∀ e ∈ o.after, Region.binds .any e = true → e.on < j) → ∀ j, ((aheads ops (k + 1)).getD k 0).testBit j = true → l.getD j false = true := by
  intro k
  induction k using Nat.strongRecOn with
  | _ k ih =>
    intro o ho hl hlt hall j hj
    rw [aheads_at ops k (k + 1) (by omega), ho, Option.map_some, Option.getD_some] at hj
    have key : ∀ (es : List Edge) (s : Nat), (∀ e ∈ es, e ∈ o.after) → (s.testBit j = true → l.getD j false = true) →
        (es.foldl (fun s e => if Region.binds .any e then s ||| 2 ^ e.on ||| (aheads ops k).getD e.on 0 else s) s).testBit j = true → l.getD j false = true := by
      intro es
      induction es with
      | nil => intro s _ hs h; exact hs h
      | cons e es ihe =>
        intro s hes hs h
        rw [List.foldl_cons] at h
        refine ihe _ (fun e' he' => hes e' (by simp [he'])) (fun hb => ?_) h
        split at hb
        · rename_i hbind
          rw [Nat.testBit_or, Nat.testBit_or, Bool.or_eq_true, Bool.or_eq_true] at hb
          have hon := hlt e (hes e (by simp)) hbind
          have hle := hl e (hes e (by simp)) hbind
          rcases hb with (hb | hb) | hb
          · exact hs hb
          · rw [Nat.testBit_two_pow] at hb
            have : e.on = j := by simpa using hb
            rw [← this]; exact hle
          · have hon' : e.on < ops.size := by
              have : k < ops.size := (Array.getElem?_eq_some_iff.1 ho).1
              omega
            refine ih e.on hon (ops[e.on]'hon') (Array.getElem?_eq_getElem hon') (fun e' he' hb' => down e.on _ hle (Array.getElem?_eq_getElem hon') e' he' hb') (fun e' he' hb' => hall e.on _ hon (Array.getElem?_eq_getElem hon') e' he' hb') (fun j' o' hj' => hall j' o' (by omega)) j ?_
            rw [aheads_at ops e.on (e.on + 1) (by omega)]
            rw [aheads_at ops e.on k hon] at hb
            exact hb
        · exact hs hb
    exact key _ 0 (fun e he => by simpa using he) (fun h => by simp at h) hj

/-- The check of what is looked at: each is told by an operation that stands ahead; no slot is written twice (m: how many operations there are but for the last ones). -/
def chkOne (ops : Array Oper) (m : Nat) (i : Nat) (o : Oper) (n : List (Nat × Tmp)) : Bool :=
  (n.all fun (j, d) => decide (j < i) && ((ops[j]?).bind (·.dst)) == some d && o.after.any fun e => e.on == j && Region.binds .any e) &&
  ((o.looksAt ops).all fun t => (List.range m).all fun j => j == i || ((ops[j]?).bind (·.dst)) != some t || n.contains (j, t) || ((ops[j]?).map fun o' => o'.after.any fun e => e.on == i && Region.binds .any e).getD false)
def chkAll (ops : Array Oper) (m : Nat) (ns : List (List (Nat × Tmp))) : Bool :=
  decide (ns.length ≤ m) && decide (m ≤ ops.size) && Region.noSelect ops && ((List.range ops.size).all fun i => ((ops[i]?).map fun o => o.after.all fun e => !Region.binds .any e || decide (e.on < i)).getD true) &&
  ((List.range m).all fun i => ((ops[i]?).map fun o => chkOne ops m i o (ns.getD i [])).getD true) &&
  ((List.range m).all fun i => (List.range m).all fun j => i == j || ((ops[i]?).bind (·.dst)) == none || ((ops[i]?).bind (·.dst)) != ((ops[j]?).bind (·.dst))) &&
  ((List.range ops.size).all fun k => decide (k < m) || (List.range k).all fun j => ((aheads ops (k + 1)).getD k 0).testBit j)
/-- All slots that the first operations write. -/
def allDst (ops : Array Oper) (m : Nat) : List (Nat × Tmp) := (ops.toList.take m).zipIdx.filterMap fun (o, i) => o.dst.map fun d => (i, d)

section
variable {P : Program} {ops : Array Oper} {a0 : Act} {w0 : World}

theorem put_size (a : Act) (d : Option Tmp) (v : Value) : (a.put d v).tmps.size = a.tmps.size := by cases d <;> simp [Act.put]
theorem put_at (a : Act) (d : Tmp) (v : Value) (t : Tmp) : (a.put (some d) v).tmps[t]? = if d = t ∧ d < a.tmps.size then some v else a.tmps[t]? := by
  simp only [Act.put, Array.getElem?_setIfInBounds]
  by_cases h : d = t
  · subst h
    by_cases h2 : d < a.tmps.size
    · simp [h2]
    · simp [h2]
  · simp [h]

/-- The state when some operations have come up. -/
structure Stands (ops : Array Oper) (a0 : Act) (w0 : World) (f : Nat → VP) (l : Array Bool) (a : Act) (w : World) : Prop where
  ext : Ext w0 w
  size : a.tmps.size = a0.tmps.size
  defers : a.defers = a0.defers
  old : ∀ t, (∀ j, l.getD j false = true → ((ops[j]?).bind (·.dst)) ≠ some t) → a.tmps[t]? = a0.tmps[t]?
  down : ∀ (j : Nat) (o : Oper), l.getD j false = true → ops[j]? = some o → ∀ e ∈ o.after, Region.binds .any e = true → l.getD e.on false = true
  got : ∀ j d, l.getD j false = true → ((ops[j]?).bind (·.dst)) = some d → d < a0.tmps.size → ∃ v, a.tmps[d]? = some v ∧ f j v w

/-- Two frames that agree where an operation looks. -/
theorem run_congr {o : Oper} {a b : Act} {w : World} (hs : ∀ cs x, o.op ≠ .select cs x) (hag : ∀ t, t ∈ o.looksAt ops → a.tmps[t]? = b.tmps[t]?) :
    execOp a.eval o = execOp b.eval o ∧ Region.wanted o (yielded ops a.tmps) = Region.wanted o (yielded ops b.tmps) := by
  constructor
  · refine execOp_congr o hs fun x hx => ?_
    cases x with
    | tmp t =>
      have := hag t (List.mem_append_left _ (List.mem_filterMap.2 ⟨.tmp t, by simpa using hx, rfl⟩))
      simp [Act.eval, this]
    | _ => rfl
  · unfold Region.wanted
    cases hg : o.guard with
    | none => rfl
    | some gw =>
      obtain ⟨g, want⟩ := gw
      have hy : yielded ops a.tmps g = yielded ops b.tmps g := by
        unfold yielded
        cases ht : (ops[g]?).bind (·.dst) with
        | none => rfl
        | some t =>
          have := hag t (by simp [Oper.looksAt, hg, ht])
          simp [this]
      simp only [hy]

def putAll (n : List (Nat × Tmp)) (vs : Tmp → Value) (b : Act) : Act := n.foldl (fun a p => a.put (some p.2) (vs p.2)) b
theorem need_of {f : Nat → VP} {w : World} {K : Act → Prop} : ∀ (n : List (Nat × Tmp)) (b : Act), Need f w K n b →
    (vs : Tmp → Value) → (∀ j d, (j, d) ∈ n → f j (vs d) w) → K (putAll n vs b)
  | [], _, h, _, _ => h
  | (j, d) :: r, b, h, vs, hv => by
    show K (putAll r vs (b.put (some d) (vs d)))
    exact need_of r _ (h _ (hv j d (by simp))) vs (fun j' d' hm => hv j' d' (List.mem_cons_of_mem _ hm))

open Classical in
theorem putAll_at (n : List (Nat × Tmp)) (vs : Tmp → Value) (t : Tmp) : ∀ b : Act, (putAll n vs b).tmps[t]? = if (∃ j, (j, t) ∈ n) ∧ t < b.tmps.size then some (vs t) else b.tmps[t]? := by
  induction n with
  | nil => intro b; simp [putAll]
  | cons p r ih =>
    intro b
    obtain ⟨j, d⟩ := p
    show (putAll r vs (b.put (some d) (vs d))).tmps[t]? = _
    rw [ih, put_size, put_at]
    by_cases hd : d = t
    · subst hd
      by_cases hlt : d < b.tmps.size
      · simp [hlt]
      · simp [hlt]
    · by_cases h2 : (∃ j, (j, t) ∈ r) ∧ t < b.tmps.size
      · rw [if_pos h2, if_pos ⟨by obtain ⟨⟨j', hj'⟩, _⟩ := h2; exact ⟨j', List.mem_cons_of_mem _ hj'⟩, h2.2⟩]
      · rw [if_neg h2, if_neg (by simp [hd]), if_neg]
        rintro ⟨⟨j', hj'⟩, hlt⟩
        rcases List.mem_cons.1 hj' with h | h
        · injection h with _ h; exact hd h.symm
        · exact h2 ⟨⟨j', h⟩, hlt⟩

theorem putAll_size (n : List (Nat × Tmp)) (vs : Tmp → Value) : ∀ b : Act, (putAll n vs b).tmps.size = b.tmps.size ∧ (putAll n vs b).defers = b.defers := by
  induction n with
  | nil => intro b; exact ⟨rfl, rfl⟩
  | cons p r ih => intro b; have := ih (b.put (some p.2) (vs p.2)); exact ⟨this.1.trans (put_size _ _ _), this.2⟩

theorem upon_move {o : Oper} {a b : Act} {K K' : Act → World → Prop} {Q : Exit → Act → World → Prop} {r : Result Next} (h : o.upon P b (wpList P ops (Exit.then K (fun _ _ _ => False)) []) (Exit.then K (fun _ _ _ => False)) r)
    (hv : ∀ v w', K (b.put o.dst v) w' → K' (a.put o.dst v) w') (hdf : ∀ d w', ¬ K (({ b with defers := d :: b.defers } : Act).put o.dst undef) w') : o.upon P a K' Q r := by
  cases r with
  | ok n w' =>
    cases n <;> simp only [Oper.upon] at h ⊢
    case value v => exact hv _ _ h
    case skip => exact hv _ _ h
    case defer d => exact absurd h (hdf d w')
    case enter f args =>
      refine Calls.mono h fun e w'' he => ?_
      cases e with
      | returned u => exact hv _ _ he
      | panicked c => exact (show False from he).elim
      | outgrown => obtain ⟨_, _, hf⟩ := he; exact (show False from hf).elim
    case row row args => exact Rows.mono h fun u w'' he => hv _ _ he
  | halt x w' => cases x <;> simp only [Oper.upon] at h ⊢ <;> exact (show False from h).elim

theorem need_congr {f g : Nat → VP} {w : World} {K : Act → Prop} : ∀ (n : List (Nat × Tmp)) (b : Act), (∀ j d, (j, d) ∈ n → f j = g j) → Need f w K n b → Need g w K n b
  | [], _, _, h => h
  | (j, d) :: r, b, he, h => fun v hv => need_congr r _ (fun j' d' hm => he j' d' (List.mem_cons_of_mem _ hm)) (h v (by rw [he j d (by simp)]; exact hv))

/-- What the walk gives, all at once. -/
theorem grow_fin {fin : (Nat → VP) → Prop} : ∀ (os : List Oper) (i : Nat) (ns : List (List (Nat × Tmp))) (f : Nat → VP), (∀ k n, ns[k]? = some n → ∀ j d, (j, d) ∈ n → j < i + k) → Grow P ops a0 w0 fin i os ns f →
    ∃ g : Nat → VP, (∀ k, k < i → g k = f k) ∧ (∀ k o, os[k]? = some o → Stay (g (i + k)) ∧ ∀ w, Ext w0 w → Need g w (RunOp P ops o (g (i + k)) w) (ns.getD k []) a0) ∧ fin g
  | [], _, _, f, _, h => ⟨f, fun _ _ => rfl, fun k o ho => by simp at ho, h⟩
  | o :: os, i, ns, f, hns, ⟨φ, hs, hrun, hr⟩ => by
    obtain ⟨g, h1, h2, h3⟩ := grow_fin os (i + 1) ns.tail (upd f i φ) (fun k n hn j d hm => by
      have := hns (k + 1) n (by simpa using hn) j d hm
      omega) hr
    have hgi : g i = φ := by rw [h1 i (by omega)]; simp [upd]
    refine ⟨g, fun k hk => by rw [h1 k (by omega)]; simp [upd, Nat.ne_of_lt hk], fun k o' ho => ?_, h3⟩
    cases k with
    | zero =>
      simp only [List.getElem?_cons_zero, Option.some.injEq] at ho
      subst ho
      rw [Nat.add_zero, hgi]
      refine ⟨hs, fun w hw => ?_⟩
      have := hrun w hw
      rw [show ns.getD 0 [] = ns.headD [] by cases ns <;> rfl]
      refine need_congr _ _ (fun j d hm => ?_) this
      have hj : j < i := by
        cases ns with
        | nil => simp at hm
        | cons n ns => have := hns 0 n (by simp) j d (by simpa using hm); omega
      rw [h1 j (by omega)]; simp [upd, Nat.ne_of_lt hj]
    | succ k =>
      have := h2 k o' (by simpa using ho)
      rw [show i + (k + 1) = i + 1 + k by omega]
      rw [show ns.getD (k + 1) [] = ns.tail.getD k [] by cases ns <;> rfl]
      exact this

theorem countP_lt (p q : Nat → Bool) (h : ∀ x, q x = true → p x = true) (i : Nat) (hp : p i = true) (hq : q i = false) : ∀ L : List Nat, i ∈ L → L.countP q < L.countP p
  | x :: L, hm => by
    have hle : ∀ M : List Nat, M.countP q ≤ M.countP p := fun M => List.countP_mono_left fun x _ hx => h x hx
    rcases List.mem_cons.1 hm with rfl | hm
    · rw [List.countP_cons, List.countP_cons, if_pos hp, if_neg (by simp [hq])]
      have := hle L; omega
    · have := countP_lt p q h i hp hq L hm
      rw [List.countP_cons, List.countP_cons]
      by_cases hx : q x = true
      · rw [if_pos hx, if_pos (h x hx)]; omega
      · rw [if_neg hx]; split <;> omega

def left_ (n : Nat) (l : Array Bool) : Nat := (List.range n).countP fun j => !l.getD j true

/-- The last operations, each of which all others stand ahead of, come up one behind the other. -/
theorem tail_run {Q : Exit → Act → World → Prop} {m : Nat} (hed : ∀ (i : Nat) (o : Oper), ops[i]? = some o → ∀ e ∈ o.after, Region.binds .any e = true → e.on < i)
    (htl : ∀ k, m ≤ k → k < ops.size → ∀ j, j < k → ((aheads ops (k + 1)).getD k 0).testBit j = true) :
    ∀ (r k fuel : Nat) (l : Array Bool) (a : Act) (w : World), r = ops.size - k → m ≤ k → k ≤ ops.size → l.size = ops.size → r ≤ fuel → (∀ j, j < ops.size → (l.getD j false = true ↔ j < k)) →
      wpList P ops Q (ops.toList.drop k) a w → wpAny P .any ops Q fuel l a w := by
  intro r
  induction r with
  | zero =>
    intro k fuel l a w hr hmk hk hl hf hlk h
    have hks : k = ops.size := by omega
    have hrd : Region.ready .any ops l = [] := by
      cases hh : Region.ready .any ops l with
      | nil => rfl
      | cons i r =>
        obtain ⟨hun, o, ho, _⟩ := mem_ready.1 (show i ∈ Region.ready .any ops l by rw [hh]; simp)
        have his : i < ops.size := (Array.getElem?_eq_some_iff.1 ho).1
        have := (hlk i his).2 (by omega)
        rw [Array.getD_eq_getD_getElem?, Array.getElem?_eq_getElem (by omega)] at this hun
        simp at this hun
        rw [this] at hun; cases hun
    rw [List.drop_of_length_le (by simp; omega)] at h
    exact wpAny_done hrd h fuel
  | succ r ih =>
    intro k fuel l a w hr hmk hk hl hf hlk h
    have hks : k < ops.size := by omega
    obtain ⟨fuel, rfl⟩ : ∃ f, fuel = f + 1 := ⟨fuel - 1, by omega⟩
    have down : ∀ (j : Nat) (o : Oper), l.getD j false = true → ops[j]? = some o → ∀ e ∈ o.after, Region.binds .any e = true → l.getD e.on false = true := by
      intro j o hj ho e he hb
      have hjs : j < ops.size := (Array.getElem?_eq_some_iff.1 ho).1
      have h1 := hed j o ho e he hb
      have h2 := (hlk j hjs).1 hj
      exact (hlk e.on (by omega)).2 (by omega)
    have unl : ∀ j, j < ops.size → l.getD j true = false → k ≤ j := by
      intro j hj hun
      rcases Nat.lt_or_ge j k with hh | hh
      · have := (hlk j hj).2 hh
        rw [Array.getD_eq_getD_getElem?, Array.getElem?_eq_getElem (by omega)] at this hun
        simp at this hun
        rw [this] at hun; cases hun
      · exact hh
    have only : ∀ i, i ∈ Region.ready .any ops l → i = k := by
      intro i hi
      obtain ⟨hun, o, ho, haft⟩ := mem_ready.1 hi
      have his : i < ops.size := (Array.getElem?_eq_some_iff.1 ho).1
      have hge := unl i his hun
      rcases Nat.lt_or_ge k i with hh | hh
      · have := aheads_listed down i o ho haft (hed i o ho) (fun j o' _ ho' => hed j o' ho') k (htl i (by omega) his k hh)
        have := (hlk k hks).1 this
        omega
      · omega
    have hkr : k ∈ Region.ready .any ops l := by
      refine mem_ready.2 ⟨?_, ops[k], Array.getElem?_eq_getElem hks, fun e he hb => ?_⟩
      · have : ¬ l.getD k false = true := fun hh => by have := (hlk k hks).1 hh; omega
        rw [Array.getD_eq_getD_getElem?, Array.getElem?_eq_getElem (by omega)] at this ⊢
        simp at this ⊢
        exact this
      · have := hed k _ (Array.getElem?_eq_getElem hks) e he hb
        exact (hlk e.on (by omega)).2 this
    refine ⟨fun hr0 => (by rw [hr0] at hkr; cases hkr), fun i hi => ?_⟩
    obtain rfl := only i hi
    rw [List.drop_eq_getElem_cons (by simpa using hks)] at h
    have nxt : ∀ a w, wpList P ops Q (ops.toList.drop (i + 1)) a w → wpAny P .any ops Q fuel (l.setIfInBounds i true) a w := fun a w hh =>
      ih (i + 1) fuel _ a w (by omega) (by omega) (by omega) (by simpa using hl) (by omega) (fun j hj => by
        by_cases hij : i = j
        · subst hij; simp [hl, hj]
        · rw [getD_set_ne false hij, hlk j hj]; omega) hh
    unfold wpOp
    simp only [Array.getElem?_eq_getElem hks]
    unfold wpList at h
    simp only [Array.getElem_toList] at h
    split
    · rename_i hw
      rw [if_pos hw] at h
      exact h.imp (Oper.wp_mono nxt) id
    · rename_i hw
      rw [if_neg hw] at h
      exact nxt _ _ h

theorem grow_any {Q : Exit → Act → World → Prop} {m : Nat} {ns : List (List (Nat × Tmp))} (hc : chkAll ops m ns = true) (g : Nat → VP)
    (hg : ∀ (i : Nat) (o : Oper), i < m → ops[i]? = some o → Stay (g i) ∧ ∀ w, Ext w0 w → Need g w (RunOp P ops o (g i) w) (ns.getD i []) a0)
    (hd : ∀ (i : Nat) (o : Oper) (d : Tmp), i < m → ops[i]? = some o → o.dst = some d → d < a0.tmps.size)
    (hQ : ∀ a w, (∀ l : Array Bool, (∀ j, j < m → l.getD j false = true) → (∀ j, l.getD j false = true → j < m) → Stands ops a0 w0 g l a w → wpList P ops Q (ops.toList.drop m) a w)) :
    ∀ (fuel : Nat) (l : Array Bool) (a : Act) (w : World), l.size = ops.size → left_ ops.size l ≤ fuel → (∀ j, l.getD j false = true → j < m) → Stands ops a0 w0 g l a w → wpAny P .any ops Q fuel l a w := by
  simp only [chkAll, Bool.and_eq_true, List.all_eq_true, List.mem_range, decide_eq_true_eq] at hc
  obtain ⟨⟨⟨⟨⟨⟨_, hms⟩, hsel⟩, hedge⟩, hone⟩, hdst⟩, htail⟩ := hc
  have hsel' := Region.noSelect_spec hsel
  have hed : ∀ (i : Nat) (o : Oper), ops[i]? = some o → ∀ e ∈ o.after, Region.binds .any e = true → e.on < i := by
    intro i o ho e he hb
    have h := hedge i (Array.getElem?_eq_some_iff.1 ho).1
    rw [ho, Option.map_some, Option.getD_some] at h
    have := Array.all_eq_true_iff_forall_mem.1 h e he
    simpa [hb] using this
  have htl : ∀ k, m ≤ k → k < ops.size → ∀ j, j < k → ((aheads ops (k + 1)).getD k 0).testBit j = true := by
    intro k hmk hk j hj
    have h := htail k hk
    simp only [Bool.or_eq_true, decide_eq_true_eq, List.all_eq_true, List.mem_range] at h
    rcases h with h | h
    · omega
    · exact h j hj
  have one : ∀ (i : Nat) (o : Oper), i < m → ops[i]? = some o → (∀ j d, (j, d) ∈ ns.getD i [] → j < i ∧ ((ops[j]?).bind (·.dst)) = some d ∧ ∃ e ∈ o.after, e.on = j ∧ Region.binds .any e = true) ∧
      (∀ t, t ∈ o.looksAt ops → ∀ j, j < m → j = i ∨ ((ops[j]?).bind (·.dst)) ≠ some t ∨ (j, t) ∈ ns.getD i [] ∨ ∃ o', ops[j]? = some o' ∧ ∃ e ∈ o'.after, e.on = i ∧ Region.binds .any e = true) := by
    intro i o him ho
    have h := hone i him
    rw [ho] at h
    simp only [Option.map_some, Option.getD_some, chkOne, Bool.and_eq_true, List.all_eq_true, List.mem_range, Bool.or_eq_true, beq_iff_eq, bne_iff_ne, decide_eq_true_eq, List.contains_iff_mem] at h
    obtain ⟨h2, h3⟩ := h
    refine ⟨fun j d hm => ?_, fun t ht j hj => ?_⟩
    · obtain ⟨⟨ha, hb⟩, hc⟩ := h2 (j, d) hm
      obtain ⟨e, he, hb'⟩ := Array.any_eq_true'.1 hc
      simp only [Bool.and_eq_true, beq_iff_eq] at hb'
      exact ⟨ha, hb, e, he, hb'.1, hb'.2⟩
    · rcases h3 t ht j hj with ((h | h) | h) | h
      · exact .inl h
      · exact .inr (.inl h)
      · exact .inr (.inr (.inl h))
      · refine .inr (.inr (.inr ?_))
        cases ho' : ops[j]? with
        | none => rw [ho'] at h; simp at h
        | some o' =>
          rw [ho', Option.map_some, Option.getD_some] at h
          obtain ⟨e, he, hb'⟩ := Array.any_eq_true'.1 h
          simp only [Bool.and_eq_true, beq_iff_eq] at hb'
          exact ⟨o', rfl, e, he, hb'.1, hb'.2⟩
  have lone_ : ∀ (i j : Nat) (d : Tmp), i < m → j < m → ((ops[i]?).bind Oper.dst) = some d → ((ops[j]?).bind Oper.dst) = some d → i = j := by
    intro i j d hi hj h1 h2
    have h := hdst i hi j hj
    simp only [Bool.or_eq_true, beq_iff_eq, bne_iff_ne] at h
    rcases h with (h | h) | h
    · exact h
    · rw [h1] at h; cases h
    · exact absurd (h1.trans h2.symm) h
  have getD_tf : ∀ (l : Array Bool) (i : Nat), l.size = ops.size → i < ops.size → (l.getD i true = l.getD i false) := by
    intro l i hl hi
    rw [Array.getD_eq_getD_getElem?, Array.getD_eq_getD_getElem?, Array.getElem?_eq_getElem (by omega)]; rfl
  intro fuel
  induction fuel with
  | zero =>
    intro l a w hl hleft hlm hst
    have hall : ∀ j, j < ops.size → l.getD j false = true := by
      intro j hj
      cases hx : l.getD j false with
      | true => rfl
      | false =>
        have hp := List.countP_pos_iff (p := fun j => !l.getD j true) (l := List.range ops.size) |>.2 ⟨j, List.mem_range.2 hj, by rw [getD_tf l j hl hj, hx]; rfl⟩
        unfold left_ at hleft
        omega
    exact tail_run hed htl _ m 0 l a w rfl (Nat.le_refl _) hms hl (by
      rcases Nat.lt_or_ge m ops.size with hh | hh
      · have := hlm m (hall m hh); omega
      · omega) (fun j hj => ⟨fun h => hlm j h, fun _ => hall j hj⟩) (hQ a w l (fun j hj => hall j (by omega)) hlm hst)
  | succ fuel ih =>
    intro l a w hl hleft hlm hst
    by_cases hfront : ∀ j, j < m → l.getD j false = true
    · have hle : ops.size - m ≤ fuel + 1 := by
        have : ops.size - m ≤ left_ ops.size l := by
          unfold left_
          have h1 : (List.range ops.size) = List.range m ++ (List.range' m (ops.size - m)) := by
            have h := @List.range'_append_1 0 m (ops.size - m)
            rw [Nat.zero_add] at h
            rw [List.range_eq_range', List.range_eq_range', h]
            congr 1
            omega
          rw [h1, List.countP_append]
          have h2 : (List.range' m (ops.size - m)).countP (fun j => !l.getD j true) = (List.range' m (ops.size - m)).length := by
            rw [List.countP_eq_length]
            intro j hj
            rw [List.mem_range'_1] at hj
            rw [getD_tf l j hl (by omega)]
            cases hx : l.getD j false with
            | false => rfl
            | true => have := hlm j hx; omega
          rw [h2, List.length_range']
          omega
        omega
      exact tail_run hed htl _ m (fuel + 1) l a w rfl (Nat.le_refl _) hms hl hle (fun j hj => ⟨fun h => hlm j h, fun h => hfront j h⟩) (hQ a w l hfront hlm hst)
    refine ⟨fun hr => ?_, fun i hi => ?_⟩
    · exfalso
      apply hfront
      have hall : ∀ n, n ≤ m → ∀ i, i < n → l.getD i false = true := by
        intro n
        induction n with
        | zero => intro _ i hi; omega
        | succ n ihn =>
          intro hn i hi
          rcases Nat.lt_or_ge i n with h | h
          · exact ihn (by omega) i h
          · obtain rfl : i = n := by omega
            cases hx : l.getD i false with
            | true => rfl
            | false =>
              have : i ∈ Region.ready .any ops l := mem_ready.2 ⟨by rw [getD_tf l i hl (by omega)]; exact hx, ops[i]'(by omega), Array.getElem?_eq_getElem (by omega), fun e he hb => ihn (by omega) e.on (hed i _ (Array.getElem?_eq_getElem (by omega)) e he hb)⟩
              rw [hr] at this; cases this
      exact fun j hj => hall m (Nat.le_refl _) j hj
    obtain ⟨hun, o, ho, haft⟩ := mem_ready.1 hi
    have his : i < ops.size := (Array.getElem?_eq_some_iff.1 ho).1
    have him : i < m := by
      rcases Nat.lt_or_ge i m with hh | hh
      · exact hh
      · exact absurd (fun j hj => aheads_listed hst.down i o ho haft (hed i o ho) (fun j o' _ ho' => hed j o' ho') j (htl i hh his j (by omega))) hfront
    obtain ⟨one2, one3⟩ := one i o him ho
    have hli : l.getD i false = false := by rw [← getD_tf l i hl his]; exact hun
    have next : ∀ v w', Ext w w' → g i v w' → wpAny P .any ops Q fuel (l.setIfInBounds i true) (a.put o.dst v) w' := by
      intro v w' hx hv
      have hsame : ∀ j, (l.setIfInBounds i true).getD j false = true → j ≠ i → l.getD j false = true := fun j hj hne => by
        rw [getD_set_ne false (Ne.symm hne)] at hj; exact hj
      refine ih _ _ _ (by simpa using hl) ?_ (fun j hj => ?_) ?_
      · have : left_ ops.size (l.setIfInBounds i true) < left_ ops.size l := by
          refine countP_lt _ _ (fun x hx => ?_) i (by simp only [hun]; rfl) ?_ _ (List.mem_range.2 his)
          · by_cases hxi : i = x
            · subst hxi; simp only [hun]; rfl
            · rw [getD_set_ne true hxi] at hx; exact hx
          · simp [hl, his]
        omega
      · by_cases hji : j = i
        · omega
        · exact hlm j (hsame j hj hji)
      · refine ⟨hst.ext.trans hx, (put_size _ _ _).trans hst.size, by cases o.dst <;> exact hst.defers, fun t ht => ?_, fun j o' hj ho' e he hb => ?_, fun j d hj hd' hlt => ?_⟩
        · have hti : o.dst ≠ some t := by
            have := ht i (by simp [hl, his])
            rw [ho] at this; exact this
          have hput : (a.put o.dst v).tmps[t]? = a.tmps[t]? := by
            cases hd' : o.dst with
            | none => rfl
            | some d => rw [put_at, if_neg (by rintro ⟨rfl, _⟩; exact hti hd')]
          rw [hput]
          refine hst.old t fun j hj => ?_
          exact ht j (getD_set_true hj)
        · refine getD_set_true ?_
          by_cases hji : j = i
          · subst hji
            rw [ho] at ho'
            injection ho' with ho'
            subst ho'
            exact haft e he hb
          · exact hst.down j o' (hsame j hj hji) ho' e he hb
        · by_cases hji : j = i
          · subst hji
            rw [ho] at hd'
            have hd'' : o.dst = some d := hd'
            rw [hd'', put_at, if_pos ⟨rfl, by rw [hst.size]; exact hlt⟩]
            exact ⟨v, rfl, hv⟩
          · have hjl := hsame j hj hji
            obtain ⟨u, hu, hf⟩ := hst.got j d hjl hd' hlt
            refine ⟨u, ?_, (by
              obtain ⟨oj, hoj, _⟩ := Option.bind_eq_some_iff.1 hd'
              exact (hg j oj (hlm j hjl) hoj).1 _ _ _ hf hx)⟩
            cases hdo : o.dst with
            | none => exact hu
            | some e =>
              rw [put_at, if_neg]
              · exact hu
              · rintro ⟨rfl, _⟩
                exact hji (lone_ j i _ (hlm j hjl) him hd' (by rw [ho]; exact hdo))
    have hn := need_of (ns.getD i []) a0 ((hg i o him ho).2 w hst.ext) (fun d => (a.tmps[d]?).getD undef) (fun j d hm => by
      obtain ⟨hji, hjd, e, he, hej, heb⟩ := one2 j d hm
      have hlj : l.getD j false = true := by have := haft e he heb; rw [hej] at this; exact this
      obtain ⟨oj, hoj, hdj⟩ := Option.bind_eq_some_iff.1 hjd
      obtain ⟨v, hv, hf⟩ := hst.got j d hlj hjd (hd j oj d (by omega) hoj hdj)
      rw [hv]; exact hf)
    have hag : ∀ t, t ∈ o.looksAt ops → a.tmps[t]? = (putAll (ns.getD i []) (fun d => (a.tmps[d]?).getD undef) a0).tmps[t]? := by
      intro t ht
      rw [putAll_at]
      split
      · rename_i h
        obtain ⟨⟨j, hm⟩, hlt⟩ := h
        rw [Array.getElem?_eq_getElem (by rw [hst.size]; exact hlt)]
        rfl
      · rename_i h
        refine hst.old t fun j hj hjt => ?_
        have hjm := hlm j hj
        rcases one3 t ht j hjm with e | e | e | ⟨o', ho', e', he', hee, heb⟩
        · subst e; rw [hli] at hj; cases hj
        · exact e hjt
        · obtain ⟨oj, hoj, hdj⟩ := Option.bind_eq_some_iff.1 hjt
          exact h ⟨⟨j, e⟩, hd j oj t hjm hoj hdj⟩
        · have := hst.down j o' hj ho' e' he' heb
          rw [hee, hli] at this; cases this
    obtain ⟨hex, hwa⟩ := run_congr (ops := ops) (w := w) (fun cs b => hsel' i o cs b ho) hag
    unfold wpOp
    simp only [ho]
    generalize hbb : putAll (ns.getD i []) (fun d => (a.tmps[d]?).getD undef) a0 = b at *
    have hbs : b.tmps.size = a0.tmps.size ∧ b.defers = a0.defers := by rw [← hbb]; exact putAll_size _ _ _
    have hK := hn (fun b' w' => (∃ v, b' = b.put o.dst v) ∧ ∀ u, b' = b.put o.dst u → wpAny P .any ops Q fuel (l.setIfInBounds i true) (a.put o.dst u) w') (fun v w' hx hv => ⟨⟨v, rfl⟩, fun u hu => by
      have : a.put o.dst u = a.put o.dst v := by
        cases hdo : o.dst with
        | none => rfl
        | some d =>
          rw [hdo] at hu
          have h1 := put_at b d v d
          have h2 := put_at b d u d
          rw [hu] at h1
          have hlt : d < b.tmps.size := by rw [hbs.1]; exact hd i o d him ho hdo
          rw [h1] at h2
          simp only [hlt, and_self, if_true, Option.some.injEq] at h2
          rw [h2]
      rw [this]; exact next v w' hx hv⟩)
    split
    · rename_i hw
      rw [hwa] at hw
      unfold wpList at hK
      rw [if_pos hw] at hK
      refine .inl ?_
      replace hK := hK.resolve_right (by rintro ⟨_, _, _, hf⟩; exact hf)
      unfold Oper.wp at hK ⊢
      rw [hex]
      refine upon_move hK (fun v w' h => h.2 v rfl) (fun d w' h => ?_)
      obtain ⟨⟨v, hv⟩, _⟩ := h
      have := congrArg Act.defers hv
      have pd : ∀ (x : Act) (y : Option Tmp) (z : Value), (x.put y z).defers = x.defers := fun x y z => by cases y <;> rfl
      rw [pd, pd] at this
      have h2 := congrArg List.length this
      simp at h2
    · rename_i hw
      rw [hwa] at hw
      unfold wpList at hK
      rw [if_neg hw] at hK
      exact (show _ ∧ _ from hK).2 undef rfl

theorem chk_ns {m : Nat} {ns : List (List (Nat × Tmp))} (hc : chkAll ops m ns = true) : ∀ k n, ns[k]? = some n → ∀ j d, (j, d) ∈ n → j < 0 + k := by
  simp only [chkAll, Bool.and_eq_true, List.all_eq_true, List.mem_range, decide_eq_true_eq] at hc
  obtain ⟨⟨⟨⟨⟨⟨hl, hms⟩, _⟩, _⟩, hone⟩, _⟩, _⟩ := hc
  intro k n hn j d hm
  have hk : k < ns.length := (List.getElem?_eq_some_iff.1 hn).1
  have h := hone k (by omega)
  rw [Array.getElem?_eq_getElem (by omega)] at h
  simp only [Option.map_some, Option.getD_some, chkOne, Bool.and_eq_true, List.all_eq_true, List.getD_eq_getElem?_getD, hn] at h
  have := (h.1 (j, d) hm).1.1
  simp only [decide_eq_true_eq] at this
  omega

theorem mem_allDst {m i : Nat} {d : Tmp} : (i, d) ∈ allDst ops m ↔ i < m ∧ ((ops[i]?).bind Oper.dst) = some d := by
  unfold allDst
  rw [List.mem_filterMap]
  constructor
  · rintro ⟨⟨o, k⟩, hm, he⟩
    rw [List.mem_zipIdx_iff_getElem?] at hm
    simp only [Option.map_eq_some_iff, Prod.mk.injEq] at he
    obtain ⟨d', hd, rfl, rfl⟩ := he
    rw [List.getElem?_take] at hm
    split at hm
    · rename_i hk
      simp only [Array.getElem?_toList] at hm
      exact ⟨hk, by rw [hm]; exact hd⟩
    · cases hm
  · rintro ⟨hi, h⟩
    obtain ⟨o, ho, hd⟩ := Option.bind_eq_some_iff.1 h
    refine ⟨(o, i), ?_, by simp [hd]⟩
    rw [List.mem_zipIdx_iff_getElem?, List.getElem?_take, if_pos hi]
    simpa using ho

/-- ████ The rule. -/
theorem region_grow {id m : Nat} {Q : Exit → Act → World → Prop} {w : World} (ns : List (List (Nat × Tmp))) (hm : P.follows .mixedOrders = true) (hc : chkAll ops m ns = true)
    (hd : (ops.all fun o => o.dst.all fun d => decide (d < a0.tmps.size)) = true)
    (h : Grow P ops a0 w.drew (fun f => ∀ w', Ext w.drew w' → Need f w' (fun a => wpList P ops Q (ops.toList.drop m) a w') (allDst ops m) a0) 0 (ops.toList.take m) ns (fun _ _ _ => False)) : (Code.region id ops true).wp P Q a0 w := by
  refine wp_region_any hm ?_
  obtain ⟨g, _, hg, hfin⟩ := grow_fin (ops.toList.take m) 0 ns _ (chk_ns hc) h
  have hd' : ∀ (i : Nat) (o : Oper) (d : Tmp), i < m → ops[i]? = some o → o.dst = some d → d < a0.tmps.size := fun i o d _ ho hdo => by
    have := Array.all_eq_true_iff_forall_mem.1 hd o (Array.mem_of_getElem? ho)
    rw [hdo] at this
    simpa using this
  refine grow_any (w0 := w.drew) (a0 := a0) hc g (fun i o him ho => by have := hg i o (by rw [List.getElem?_take, if_pos him]; simpa using ho); simpa using this) hd' (fun a w' l hfr hlm hst => ?_) ops.size _ a0 _ (by simp) ?_ (fun j hj => ?_) ⟨Ext.refl _, rfl, rfl, fun _ _ => rfl, fun j o hj => ?_, fun j d hj => ?_⟩
  · have hk := need_of (allDst ops m) a0 (hfin w' hst.ext) (fun d => (a.tmps[d]?).getD undef) (fun j d hm => by
      obtain ⟨hjm, hjd⟩ := mem_allDst.1 hm
      obtain ⟨oj, hoj, hdj⟩ := Option.bind_eq_some_iff.1 hjd
      obtain ⟨v, hv, hf⟩ := hst.got j d (hfr j hjm) hjd (hd' j oj d hjm hoj hdj)
      rw [hv]; exact hf)
    have he : putAll (allDst ops m) (fun d => (a.tmps[d]?).getD undef) a0 = a := by
      have h1 := putAll_size (allDst ops m) (fun d => (a.tmps[d]?).getD undef) a0
      have h2 : (putAll (allDst ops m) (fun d => (a.tmps[d]?).getD undef) a0).tmps = a.tmps := by
        apply Array.ext_getElem?
        intro t
        rw [putAll_at]
        split
        · rename_i h
          rw [Array.getElem?_eq_getElem (by rw [hst.size]; exact h.2)]
          rfl
        · rename_i h
          refine (hst.old t fun j hj hjt => h ⟨⟨j, mem_allDst.2 ⟨hlm j hj, hjt⟩⟩, ?_⟩).symm
          obtain ⟨oj, hoj, hdj⟩ := Option.bind_eq_some_iff.1 hjt
          exact hd' j oj t (hlm j hj) hoj hdj
      have h3 : (putAll (allDst ops m) (fun d => (a.tmps[d]?).getD undef) a0).defers = a.defers := h1.2.trans hst.defers.symm
      cases ha : putAll (allDst ops m) (fun d => (a.tmps[d]?).getD undef) a0
      rw [ha] at h2 h3
      cases a
      simp_all
    rw [he] at hk
    exact hk
  · exact Nat.le_trans List.countP_le_length (by simp)
  all_goals
    have hjs : ¬ ((Array.replicate ops.size false).getD j false = true) := by
      rw [Array.getD_eq_getD_getElem?, Array.getElem?_replicate]; split <;> simp
    exact absurd hj hjs
end

theorem region_growL {P : Program} {os : List Oper} {a0 : Act} {id : Nat} {Q : Exit → Act → World → Prop} {w : World} (m : Nat) (ns : List (List (Nat × Tmp))) (ds : List (Nat × Tmp)) (hm : P.follows .mixedOrders = true) (hc : chkAll os.toArray m ns = true)
    (hds : allDst os.toArray m = ds) (hd : (os.toArray.all fun o => o.dst.all fun d => decide (d < a0.tmps.size)) = true)
    (h : Grow P os.toArray a0 w.drew (fun f => ∀ w', Ext w.drew w' → Need f w' (fun a => wpList P os.toArray Q (os.drop m) a w') ds a0) 0 (os.take m) ns (fun _ _ _ => False)) : (Code.region id os.toArray true).wp P Q a0 w := by
  subst hds
  exact region_grow ns hm hc hd h
theorem Grow.last {P : Program} {ops : Array Oper} {a0 : Act} {w0 : World} {fin : (Nat → VP) → Prop} {i : Nat} {ns : List (List (Nat × Tmp))} {f : Nat → VP} (h : fin f) : Grow P ops a0 w0 fin i [] ns f := h
theorem Need.done {f : Nat → VP} {w : World} {K : Act → Prop} {a : Act} (h : K a) : Need f w K [] a := h
theorem Ext.frozens {a b : World} (h : Ext a b) : ∀ p : Addr, p.block < a.heap.size → b.frozen? p = a.frozen? p := fun _ hp => h.frozen hp
theorem Ext.cells {a b : World} (h : Ext a b) : ∀ p : Addr, p.block < a.heap.size → b.cell? p = a.cell? p := fun _ hp => h.cell hp

end Go.Proofs.YtjmddikeadbmjaaGreat
namespace Go.Proofs.YtjmddikeadbmjaaGreat
open Go.RowKit

/-- What holds of all that a tree may come to. -/
def Tree.wp (P : Program) (md : Nat → FMode) : Tree → (List D → Prop) → Prop
  | .ret ys, Φ => Φ ys
  | .fail, _ => False
  | .br b t e, Φ => (b = true → t.wp P md Φ) ∧ (b = false → e.wp P md Φ)
  | .call f cts xs k, Φ => ∃ ys, Spec P md f cts xs ys ∧ (k ys).wp P md Φ
  | .amb e t f, Φ => (e = true → t.wp P md Φ) ∧ f.wp P md Φ
/-- What an operation does to the state. -/
structure E where
  dst : Option Nat
  l : L
  eff : List (Nat × Option Blk)
  made : List Nat
  tr : Tr
def putF (n : Nat) (d : Option Nat) (l : L) (slot : Nat → L) : Nat → L := fun t => if d = some t ∧ t < n then l else slot t

section
variable (P : Program) (md : Nat → FMode)
/-- An operation, carried out or not, at a state. -/
inductive One (ops : Array Oper) (o : Oper) (s : St) : E → St → Prop where
  | skip (hp : ∀ d, o.dst = some d → d ∉ s.pins) (hw : wants ops s.slot o = some false) : One ops o s ⟨o.dst, .skip, [], [], ⟨o.looksAt ops, o.dst.toList, [], []⟩⟩ (s.put o.dst .skip)
  | does {r : OpR} {l l' : L} {eff : List (Nat × Option Blk)} {mk : List Nat} {s1 : St} (hp : ∀ d, o.dst = some d → d ∉ s.pins) (hw : wants ops s.slot o = some true) (he : evOp P md o (opd s.slot) (restrict (reach s.look (needOp (opd s.slot) o.op)) s.look) = some r) (hc : ∀ b ∈ r.conds, b = true) (hmk : ∀ q ∈ mk, q ∉ s.used)
      (hout : match r.out with
        | .val l0 eff0 => l0 = l ∧ eff0 = eff ∧ mk = madeBy o
        | .call f cts xs rts fz lent => ∃ ys d, o.dst = some d ∧ Spec P md f cts xs ys ∧ callL P (md f) rts d ys = some l ∧ eff = callEff P (md f) (restrict (reach s.look (needOp (opd s.slot) o.op)) s.look) rts fz lent d ys ∧ mk = ownIds d (md f).own.length)
      (hl : l' = l ∨ ∃ x, l = .b x ∧ l' = .lit x) (heff : s.eff eff = some s1) :
      One ops o s ⟨o.dst, l', eff, mk, ⟨o.looksAt ops, o.dst.toList, reach s.look (needOp (opd s.slot) o.op), mk ++ eff.map (·.1)⟩⟩ (s1.put o.dst l')
inductive Many (ops : Array Oper) : List Oper → St → List E → St → Prop where
  | nil {s : St} : Many ops [] s [] s
  | cons {o : Oper} {os : List Oper} {s s1 s2 : St} {e : E} {es : List E} (h : One P md ops o s e s1) (hr : Many ops os s1 es s2) : Many ops (o :: os) s (e :: es) s2
end

section
variable {P : Program} {md : Nat → FMode}
theorem wp_conds {Φ : List D → Prop} : ∀ {bs : List Bool} {t : Tree}, (Tree.conds bs t).wp P md Φ → (∀ b ∈ bs, b = true) ∧ t.wp P md Φ
  | [], t, h => ⟨by simp, h⟩
  | b :: bs, t, h => by
    simp only [Tree.conds, Tree.wp] at h
    cases b with
    | false => exact (h.2 rfl).elim
    | true =>
      obtain ⟨h1, h2⟩ := wp_conds (h.1 rfl)
      exact ⟨fun x hx => by rcases List.mem_cons.1 hx with hx | hx <;> first | exact hx | exact h1 x hx, h2⟩
/-- ████ Operations one behind the other: what they do. -/
theorem evOps_many {ops : Array Oper} {Φ : List D → Prop} {k : St → List Tr → Tree} : ∀ {os : List Oper} {i : Nat} {s : St} {tr : List Tr}, (evOps P md ops os i s tr k).wp P md Φ → ∃ es s', Many P md ops os s es s' ∧ (k s' (tr.reverse ++ es.map (·.tr))).wp P md Φ
  | [], i, s, tr, h => ⟨[], s, .nil, by simpa [evOps] using h⟩
  | o :: os, i, s, tr, h => by
    simp only [evOps] at h
    have done : ∀ (e : E) (s1 : St), One P md ops o s e s1 → (evOps P md ops os (i + 1) s1 (e.tr :: tr) k).wp P md Φ → ∃ es s', Many P md ops (o :: os) s es s' ∧ (k s' (tr.reverse ++ es.map (·.tr))).wp P md Φ := by
      intro e s1 h1 h2
      obtain ⟨es, s', g1, g2⟩ := evOps_many h2
      exact ⟨e :: es, s', .cons h1 g1, by simpa using g2⟩
    cases hpp : o.dst.any s.pins.contains with
    | true => rw [hpp] at h; exact h.elim
    | false =>
    rw [hpp] at h
    simp only [cond_false] at h
    have hp : ∀ d, o.dst = some d → d ∉ s.pins := by
      intro d hd
      rw [hd] at hpp
      simpa using hpp
    split at h
    · exact h.elim
    · rename_i hw
      exact done _ _ (.skip hp hw) h
    · rename_i hw
      split at h
      · exact h.elim
      · rename_i r he
        obtain ⟨hc, h⟩ := wp_conds h
        have fin : ∀ (l : L) (eff : List (Nat × Option Blk)) (mk : List Nat), (∀ q ∈ mk, q ∉ s.used) → (match r.out with
              | .val l0 eff0 => l0 = l ∧ eff0 = eff ∧ mk = madeBy o
              | .call f cts xs rts fz lent => ∃ ys d, o.dst = some d ∧ Spec P md f cts xs ys ∧ callL P (md f) rts d ys = some l ∧ eff = callEff P (md f) (restrict (reach s.look (needOp (opd s.slot) o.op)) s.look) rts fz lent d ys ∧ mk = ownIds d (md f).own.length) →
            (guardK (isGuard ops i) l (fun l' => effK s eff (fun s1 => evOps P md ops os (i + 1) (s1.put o.dst l') (⟨o.looksAt ops, o.dst.toList, reach s.look (needOp (opd s.slot) o.op), mk ++ eff.map (fun x => x.1)⟩ :: tr) k))).wp P md Φ →
            ∃ es s', Many P md ops (o :: os) s es s' ∧ (k s' (tr.reverse ++ es.map (·.tr))).wp P md Φ := by
          intro l eff mk hmk hout h
          have fin1 : ∀ l', (l' = l ∨ ∃ x, l = .b x ∧ l' = .lit x) → (effK s eff (fun s1 => evOps P md ops os (i + 1) (s1.put o.dst l') (⟨o.looksAt ops, o.dst.toList, reach s.look (needOp (opd s.slot) o.op), mk ++ eff.map (fun x => x.1)⟩ :: tr) k)).wp P md Φ → ∃ es s', Many P md ops (o :: os) s es s' ∧ (k s' (tr.reverse ++ es.map (·.tr))).wp P md Φ := by
            intro l' hl' h'
            unfold effK at h'
            split at h'
            · exact h'.elim
            · rename_i s1 hs
              exact done _ _ (.does hp hw he hc hmk hout hl' hs) h'
          unfold guardK at h
          cases hg : isGuard ops i with
          | false => rw [hg] at h; exact fin1 l (.inl rfl) h
          | true =>
            rw [hg] at h
            simp only [cond_true] at h
            split at h
            · rename_i x
              cases x with
              | true => exact fin1 (.lit true) (.inr ⟨true, rfl, rfl⟩) (h.1 rfl)
              | false => exact fin1 (.lit false) (.inr ⟨false, rfl, rfl⟩) (h.2 rfl)
            · exact fin1 _ (.inl rfl) h
        split at h
        · rename_i l eff hro
          cases hall : (madeBy o).all (fun q => !s.used.contains q) with
          | false => rw [hall] at h; exact h.elim
          | true =>
            rw [hall] at h
            refine fin l eff (madeBy o) (fun q hq => ?_) (by rw [hro]; exact ⟨rfl, rfl, rfl⟩) h
            have := List.all_eq_true.1 hall q hq
            simpa using this
        · rename_i f cts xs rts fz lent hro
          cases hall : (ownIds (o.dst.getD 0) (md f).own.length).all (fun q => !s.used.contains q) with
          | false => rw [hall] at h; exact h.elim
          | true =>
            rw [hall] at h
            obtain ⟨ys, hspec, h⟩ := h
            simp only [] at h
            split at h
            · rename_i d l hd hl
              rw [hd] at hall hl
              refine fin l _ (ownIds d (md f).own.length) (fun q hq => ?_) (by rw [hro]; exact ⟨ys, d, hd, hspec, hl, rfl, rfl⟩) h
              have := List.all_eq_true.1 hall q hq
              simpa using this
            · exact h.elim
end

end Go.Proofs.YtjmddikeadbmjaaGreat
namespace Go.Proofs.YtjmddikeadbmjaaGreat
open Go.RowKit

section
variable {P : Program} {md : Nat → FMode} {w0 w w' : World} {N0 M0 M : Nat → Prop} {slot : Nat → L} {look lookR : Nat → Option Blk} {used : Nat → Prop} {ds : Dfs} {β : Nat → Value} {a : Act} {n : Nat}
/-- An operation asks for its operands alone. -/
theorem evOp_congr {o : Oper} {ρ ρ' : Operand → L} (h : ∀ x ∈ o.op.operands, ρ x = ρ' x) : evOp P md o ρ look = evOp P md o ρ' look := by
  have hl : ∀ (q : Option Operand), (∀ x, q = some x → ρ x = ρ' x) → q.map (fun l => intOfL (ρ l)) = q.map (fun l => intOfL (ρ' l)) := by
    intro q hq
    cases q with
    | none => rfl
    | some x => simp [hq x rfl]
  cases ho : o.op <;> simp only [ho, Op.operands] at h <;> simp only [evOp, ho]
  case move x => rw [h x (by simp)]
  case assign x => rw [h x (by simp)]
  case pick c x y => rw [h c (by simp), h x (by simp), h y (by simp)]
  case box t x => rw [h x (by simp)]
  case build t ps =>
    have : ps.toList.map (fun p => (p.1, ρ p.2)) = ps.toList.map (fun p => (p.1, ρ' p.2)) := List.map_congr_left fun p hp => by rw [h p.2 (by simp; exact ⟨p.1, by simpa using hp⟩)]
    rw [this]
  case buildSlice t m ps =>
    have : ps.toList.map (fun p => ρ p.2) = ps.toList.map (fun p => ρ' p.2) := List.map_congr_left fun p hp => by rw [h p.2 (by simp; exact ⟨p.1, by simpa using hp⟩)]
    rw [this]
  case load t x => rw [h x (by simp)]
  case store t x v => rw [h x (by simp), h v (by simp)]
  case binOp op t x y t' => rw [h x (by simp), h y (by simp)]
  case unOp op t x => rw [h x (by simp)]
  case convert s t x => rw [h x (by simp)]
  case makeFunc tg first caps =>
    have : caps.toList.map ρ = caps.toList.map ρ' := List.map_congr_left fun p hp => h p (by simp; exact .inr (by simpa using hp))
    cases tg <;> simp only [this]
  case makeSlice t l c => rw [h l (by simp), h c (by simp)]
  case slice t x lo hi mx =>
    rw [h x (by simp), hl lo (fun y hy => h y (by simp [hy])), hl hi (fun y hy => h y (by simp [hy])), hl mx (fun y hy => h y (by simp [hy]))]
  case fieldAddr t x f => rw [h x (by simp)]
  case field t x f => rw [h x (by simp)]
  case indexAddr t x y => rw [h x (by simp), h y (by simp)]
  case index t x y => rw [h x (by simp), h y (by simp)]
  case extract x i => rw [h x (by simp)]
  case call c =>
    have hm : c.args.toList.map ρ = c.args.toList.map ρ' := List.map_congr_left fun p hp => h p (by simp [Call.operands]; exact .inr (by simpa using hp))
    rw [hm]
    have hg : ∀ g, c.callee = .value g → ρ g = ρ' g := fun g hg => h g (by simp [Call.operands, hg])
    cases hc : c.callee with
    | value g =>
      simp only []
      rw [hg g hc]
    | builtin b =>
      generalize List.map ρ' c.args.toList = vs
      rcases vs with _ | ⟨v, _ | ⟨u, _ | ⟨z, vs⟩⟩⟩ <;> cases b <;> first | rfl | (cases v <;> rfl)
    | invoke r nm =>
      generalize List.map ρ' c.args.toList = vs
      rcases vs with _ | ⟨v, _ | ⟨u, _ | ⟨z, vs⟩⟩⟩ <;> rfl

theorem hget_hset {c : Blk} : ∀ {h : List (Nat × Blk)} {j : Nat}, (∃ b, hget h j = some b) → ∀ q, hget (hset h j c) q = if q = j then some c else hget h q
  | [], j, ⟨b, hb⟩, q => by simp [hget] at hb
  | (i, b) :: h, j, hx, q => by
    by_cases e : i = j
    · subst e
      simp only [hset, beq_self_eq_true, cond_true, hget]
      by_cases e2 : i = q
      · subst e2; simp
      · have h1 : (i == q) = false := by simp [e2]
        have h2 : ¬ q = i := fun h => e2 h.symm
        simp [h1, h2]
    · have h1 : (i == j) = false := by simp [e]
      simp only [hset, h1, cond_false, hget]
      have hx' : ∃ b, hget h j = some b := by simpa [hget, h1] using hx
      by_cases e2 : i = q
      · subst e2
        have h2 : ¬ i = j := e
        simp [h2]
      · have h3 : (i == q) = false := by simp [e2]
        simp only [h3, cond_false]
        exact hget_hset hx' q
theorem hget_hdel : ∀ {h : List (Nat × Blk)} {j q : Nat}, hget (hdel h j) q = if q = j then none else hget h q
  | [], j, q => by simp [hdel, hget]
  | (i, b) :: h, j, q => by
    by_cases e : i = j
    · subst e
      simp only [hdel, beq_self_eq_true, cond_true, hget]
      rw [hget_hdel]
      by_cases e2 : q = i
      · simp [e2]
      · have h1 : (i == q) = false := by simp; exact fun h => e2 h.symm
        simp [e2, h1]
    · have h1 : (i == j) = false := by simp [e]
      simp only [hdel, h1, cond_false, hget]
      rw [hget_hdel]
      by_cases e2 : i = q
      · subst e2; simp [e]
      · have h3 : (i == q) = false := by simp [e2]
        simp [h3]
/-- What becomes of blocks. -/
theorem eff_spec : ∀ {eff : List (Nat × Option Blk)} {s s1 : St}, s.eff eff = some s1 → s1.look = effF s.look eff ∧ s1.tmps = s.tmps ∧ s1.dp = s.dp ∧ (∀ r ∈ s.used, r ∈ s1.used) ∧
    ((∀ r b, s.look r = some b → r ∈ s.used) → (∀ r b, s1.look r = some b → r ∈ s1.used) ∧ ∀ r b, (r, some b) ∈ eff → r ∈ s1.used)
  | [], s, s1, h => by
    simp only [St.eff, Option.some.injEq] at h
    subst h
    exact ⟨rfl, rfl, rfl, fun _ h => h, fun h => ⟨h, by simp⟩⟩
  | (q, none) :: eff, s, s1, h => by
    simp only [St.eff] at h
    obtain ⟨h1, h2, h3, h4, h5⟩ := eff_spec h
    have hlk : St.look { s with heap := hdel s.heap q } = updN s.look q none := by
      funext r
      show hget (hdel s.heap q) r = _
      rw [hget_hdel]; rfl
    refine ⟨by rw [h1, hlk]; rfl, h2, h3, h4, fun hu => ?_⟩
    obtain ⟨g1, g2⟩ := h5 (fun r b hr => by
      rw [hlk] at hr
      by_cases e : r = q
      · subst e; rw [updN_same] at hr; cases hr
      · rw [updN_ne _ _ e] at hr; exact hu r b hr)
    exact ⟨g1, fun r b hr => by rcases List.mem_cons.1 hr with hr | hr; · cases hr
                                · exact g2 r b hr⟩
  | (q, some k) :: eff, s, s1, h => by
    simp only [St.eff] at h
    split at h
    · rename_i b0 hb0
      obtain ⟨h1, h2, h3, h4, h5⟩ := eff_spec h
      have hlk : St.look { s with heap := hset s.heap q k } = updN s.look q (some k) := by
        funext r
        show hget (hset s.heap q k) r = _
        rw [hget_hset ⟨b0, hb0⟩]; rfl
      refine ⟨by rw [h1, hlk]; rfl, h2, h3, h4, fun hu => ?_⟩
      have hq : q ∈ s.used := hu q b0 hb0
      obtain ⟨g1, g2⟩ := h5 (fun r b hr => by
        rw [hlk] at hr
        by_cases e : r = q
        · subst e; exact hq
        · rw [updN_ne _ _ e] at hr; exact hu r b hr)
      exact ⟨g1, fun r b hr => by
        rcases List.mem_cons.1 hr with hr | hr
        · injection hr with hr _; subst hr; exact h4 _ hq
        · exact g2 r b hr⟩
    · rename_i hn
      cases hc : s.used.contains q with
      | true => rw [hc] at h; cases h
      | false =>
        rw [hc] at h
        simp only [cond_false] at h
        obtain ⟨h1, h2, h3, h4, h5⟩ := eff_spec h
        have hlk : St.look { s with heap := (q, k) :: s.heap, used := q :: s.used } = updN s.look q (some k) := by
          funext r
          show hget ((q, k) :: s.heap) r = _
          simp only [hget]
          by_cases e : r = q
          · subst e; simp [updN]
          · have : (q == r) = false := by simp; exact fun h => e h.symm
            simp [this, updN, e]; rfl
        refine ⟨by rw [h1, hlk]; rfl, h2, h3, fun r hr => h4 r (by simp [hr]), fun hu => ?_⟩
        obtain ⟨g1, g2⟩ := h5 (fun r b hr => by
          rw [hlk] at hr
          by_cases e : r = q
          · subst e; simp
          · rw [updN_ne _ _ e] at hr; simp [hu r b hr])
        exact ⟨g1, fun r b hr => by
          rcases List.mem_cons.1 hr with hr | hr
          · injection hr with hr _; subst hr; exact h4 _ (by simp)
          · exact g2 r b hr⟩
theorem put_spec (s : St) (d : Option Nat) (l : L) : (s.put d l).slot = putF s.tmps.length d l s.slot ∧ (s.put d l).look = s.look ∧ (s.put d l).tmps.length = s.tmps.length ∧ (s.put d l).dp = s.dp ∧ (s.put d l).used = s.used := by
  cases d with
  | none => exact ⟨by funext t; simp [St.put, putF], rfl, rfl, rfl, rfl⟩
  | some t =>
    refine ⟨?_, rfl, by simp [St.put], rfl, rfl⟩
    funext q
    simp only [St.put, St.slot, putF, List.getD_eq_getElem?_getD, List.getElem?_set, Option.some.injEq]
    by_cases e : t = q
    · subst e
      by_cases hl : t < s.tmps.length
      · simp [hl]
      · simp [hl]
    · simp [e]
/-- The state behind an operation. -/
theorem one_st {ops : Array Oper} {o : Oper} {s s1 : St} {e : E} (h : One P md ops o s e s1) : s1.slot = putF s.tmps.length e.dst e.l s.slot ∧ s1.look = effF s.look e.eff ∧ s1.tmps.length = s.tmps.length ∧ s1.dp = s.dp ∧ (∀ r ∈ s.used, r ∈ s1.used) ∧
    ((∀ r b, s.look r = some b → r ∈ s.used) → (∀ r b, s1.look r = some b → r ∈ s1.used) ∧ ∀ r b, (r, some b) ∈ e.eff → r ∈ s1.used) ∧ e.tr.sr = o.looksAt ops ∧ e.tr.sw = e.dst.toList ∧ e.tr.hw = e.made ++ e.eff.map (·.1) ∧ e.dst = o.dst ∧ (∀ q ∈ e.made, q ∉ s.used) := by
  cases h with
  | skip _ hw =>
    obtain ⟨p1, p2, p3, p4, p5⟩ := put_spec s o.dst .skip
    refine ⟨p1, p2, p3, p4, fun r hr => by rw [p5]; exact hr, fun hu => ⟨fun r b hr => by rw [p2] at hr; rw [p5]; exact hu r b hr, by simp⟩, rfl, rfl, rfl, rfl, by simp⟩
  | @does r l l' eff mk s2 _ hw he hc hmk hout hl heff =>
    obtain ⟨e1, e2, e3, e4, e5⟩ := eff_spec heff
    obtain ⟨p1, p2, p3, p4, p5⟩ := put_spec s2 o.dst l'
    refine ⟨?_, p2.trans e1, by rw [p3, e2], p4.trans e3, fun r hr => by rw [p5]; exact e4 r hr, fun hu => ⟨fun r b hr => ?_, fun r b hr => ?_⟩, rfl, rfl, rfl, rfl, hmk⟩
    · rw [p1, e2]
      congr 1
      funext t
      simp [St.slot, e2]
    · rw [p2] at hr; rw [p5]; exact (e5 hu).1 r b hr
    · rw [p5]; exact (e5 hu).2 r b hr
theorem R.putSlot (h : R P md w0 N0 M0 slot look used ds n β a w) (d : Option Nat) (hp : ∀ t, d = some t → t ∉ ds.dp.2) (l : L) (v : Value) (hv : VL P md w (Mof M0 look β) look β l v) (hids : ∀ r ∈ l.ids, used r) : R P md w0 N0 M0 (putF n d l slot) look used ds n β (a.put d v) w := by
  cases d with
  | none =>
    have : putF n none l slot = slot := by funext t; simp [putF]
    rw [this]; exact h
  | some t =>
    by_cases ht : t < n
    · have := h.put (some t) (fun q hq => by injection hq with hq; subst hq; exact ht) hp l v hv hids
      have e : putF n (some t) l slot = updN slot t l := by
        funext q
        simp only [putF, updN, Option.some.injEq]
        by_cases e : q = t
        · subst e; simp [ht]
        · have : ¬ t = q := fun h => e h.symm
          simp [e, this]
      rw [e]; exact this
    · have e : putF n (some t) l slot = slot := by
        funext q
        simp only [putF, Option.some.injEq]
        split
        · rename_i hh; omega
        · rfl
      have e2 : a.put (some t) v = a := by
        have := h.size
        cases a
        simp only [Act.put] at *
        congr 1
        exact Array.setIfInBounds_eq_of_size_le (by omega)
      rw [e, e2]; exact h
/-- ████ An operation, at a state that is like the one where it was looked at. -/
theorem one_run (hP : WfP P) {ops : Array Oper} {o : Oper} {s s1 : St} {e : E} (ho : One P md ops o s e s1) (h : R P md w0 N0 M0 slot look used ds n β a w) (hs : ∀ t ∈ e.tr.sr, slot t = s.slot t) (hl : ∀ q ∈ e.tr.hr, look q = s.look q) (hm : ∀ q ∈ e.made, ¬ used q) (hds : ds.dp.2 = s.pins)
    {K : Act → World → Prop} {Q : Exit → Act → World → Prop} (hK : ∀ v w' β', R P md w0 N0 M0 (putF n e.dst e.l slot) (effF look e.eff) (usedF used e.eff) ds n β' (a.put o.dst v) w' → K (a.put o.dst v) w') :
    if Region.wanted o (yielded ops a.tmps) then o.wp P a w K Q ∨ (o.asks P a w ∧ LetsOut Q) else K (a.put o.dst undef) w := by
  have hopd : ∀ x ∈ o.op.operands, (∀ t ∈ o.looksAt ops, slot t = s.slot t) → opd slot x = opd s.slot x := by
    intro x hx hs
    cases x with
    | tmp t => exact hs t (List.mem_append_left _ (List.mem_filterMap.2 ⟨.tmp t, by simpa using hx, rfl⟩))
    | _ => rfl
  have hwant : ∀ b, (∀ t ∈ o.looksAt ops, slot t = s.slot t) → wants ops s.slot o = some b → Region.wanted o (yielded ops a.tmps) = b := by
    intro b hs hw
    unfold wants at hw
    unfold Region.wanted
    cases hg : o.guard with
    | none => rw [hg] at hw; simp at hw; rw [hw]
    | some gw =>
      obtain ⟨g, want⟩ := gw
      rw [hg] at hw
      simp only at hw ⊢
      split at hw
      · rename_i d hd
        have hsd : slot d = s.slot d := hs d (by simp [Oper.looksAt, hg, hd])
        have hv := h.slots d
        rw [hsd] at hv
        unfold yielded
        rw [hd]
        split at hw
        · rename_i c hc
          rw [hc] at hv
          have hv' := vl_lit hv
          have : a.tmps[d]? = some (.bool c) := by
            rw [Array.getD_eq_getD_getElem?] at hv'
            cases hx : a.tmps[d]? with
            | none => rw [hx] at hv'; simp [undef] at hv'
            | some u => rw [hx] at hv'; simp at hv'; rw [hv']
          simp only [Option.bind_some, this]
          simpa using hw
        · rename_i hc
          rw [hc] at hv
          injection hw with hw
          subst hw
          have hu : a.tmps.getD d undef = undef := by
            rcases hv with hv | hv | ⟨hv, _⟩
            · cases hv
            · exact hv.2
            · cases hv
          have : ∀ c, a.tmps[d]? ≠ some (.bool c) := by
            intro c hc'
            rw [Array.getD_eq_getD_getElem?, hc'] at hu
            simp [undef] at hu
          simp only [Option.bind_some]
          cases hx : a.tmps[d]? with
          | none => rfl
          | some u => cases u <;> first | rfl | exact absurd hx (this _)
        · cases hw
      · cases hw
  cases ho with
  | skip hp hw =>
    rw [if_neg (by rw [hwant false hs hw]; simp)]
    refine hK undef w β ?_
    have : usedF used [] = used := used_nil used
    simp only [effF, this]
    exact h.putSlot o.dst (by rw [hds]; exact hp) .skip undef (.inr (.inl ⟨rfl, rfl⟩)) (by simp [L.ids])
  | @does r l l' eff mk s2 hp hw he hc hmk hout hll heff =>
    rw [if_pos (by rw [hwant true hs hw])]
    refine .inl ?_
    have hsub : ∀ q b, restrict (reach s.look (needOp (opd s.slot) o.op)) s.look q = some b → look q = some b := by
      intro q b hq
      unfold restrict at hq
      cases hcq : (reach s.look (needOp (opd s.slot) o.op)).contains q with
      | false => rw [hcq] at hq; cases hq
      | true => rw [hcq] at hq; rw [hl q (by simpa using hcq)]; exact hq
    have he' : evOp P md o (opd slot) (restrict (reach s.look (needOp (opd s.slot) o.op)) s.look) = some r := by
      rw [evOp_congr (fun x hx => hopd x hx hs)]; exact he
    have hok := op_all hP h hsub he' hc
    have hD : Does P o a w (Outc P md w0 N0 M0 slot look used ds n a l eff) := by
      cases hro : r.out with
      | val l0 eff0 =>
        rw [hro] at hok hout
        obtain ⟨rfl, rfl, rfl⟩ := hout
        exact hok hm
      | call f cts xs rts fz lent =>
        rw [hro] at hok hout
        obtain ⟨ys, d, hd, hspec, hcl, rfl, rfl⟩ := hout
        exact hok ys d l hd hm hspec hcl
    refine hD K Q (fun v w' hv => ?_)
    obtain ⟨β', g1, g2, g3⟩ := hv
    refine hK v w' β' ?_
    rcases hll with rfl | ⟨x, rfl, rfl⟩
    · exact g1.putSlot o.dst (by rw [hds]; exact hp) _ v g2 g3
    · refine g1.putSlot o.dst (by rw [hds]; exact hp) _ v ?_ (by simp [L.ids])
      rw [vl_b g2]
      exact mk_lit
end

end Go.Proofs.YtjmddikeadbmjaaGreat
namespace Go.Proofs.YtjmddikeadbmjaaGreat
open Go.RowKit

/-- The state as functions. -/
structure FSt where
  slot : Nat → L
  look : Nat → Option Blk
  used : Nat → Prop
def FSt.app (n : Nat) (f : FSt) (e : E) : FSt := ⟨putF n e.dst e.l f.slot, effF f.look e.eff, usedF f.used e.eff⟩
/-- Some of the operations, in the text's order. -/
def replay (n : Nat) (S : Nat → Bool) : Nat → List E → FSt → FSt
  | _, [], f => f
  | i, e :: es, f => replay n S (i + 1) es (bif S i then f.app n e else f)
def St.fs (s : St) : FSt := ⟨s.slot, s.look, fun r => r ∈ s.used⟩

theorem putF_other {n : Nat} {d : Option Nat} {l : L} {slot : Nat → L} {t : Nat} (h : t ∉ d.toList) : putF n d l slot t = slot t := by
  unfold putF
  rw [if_neg]
  rintro ⟨rfl, _⟩
  simp at h
theorem putF_at {n : Nat} {d : Option Nat} {l : L} {slot slot' : Nat → L} {t : Nat} (h : slot t = slot' t) : putF n d l slot t = putF n d l slot' t := by
  unfold putF; split <;> first | rfl | exact h
theorem effF_at : ∀ {eff : List (Nat × Option Blk)} {lk lk' : Nat → Option Blk} {q : Nat}, lk q = lk' q → effF lk eff q = effF lk' eff q
  | [], _, _, _, h => h
  | (r, b) :: eff, lk, lk', q, h => by
    simp only [effF]
    refine effF_at ?_
    unfold updN; split <;> first | rfl | exact h
theorem effF_in : ∀ {eff : List (Nat × Option Blk)} {lk lk' : Nat → Option Blk} {q : Nat}, q ∈ eff.map (·.1) → effF lk eff q = effF lk' eff q
  | (r, b) :: eff, lk, lk', q, h => by
    simp only [effF]
    by_cases hq : q ∈ eff.map (·.1)
    · exact effF_in hq
    · have : q = r := by simpa [hq] using h
      subst this
      exact effF_at (by simp [updN])
theorem effF_out {eff : List (Nat × Option Blk)} {lk : Nat → Option Blk} {q : Nat} (h : q ∉ eff.map (·.1)) : effF lk eff q = lk q :=
  effF_other (fun b hb => h (List.mem_map.2 ⟨_, hb, rfl⟩))
/-- What two operations write is apart. -/
structure Apart (e e' : E) : Prop where
  slot : ∀ t, t ∈ e.dst.toList → t ∉ e'.dst.toList
  blk : ∀ q, q ∈ e.eff.map (·.1) → q ∉ e'.eff.map (·.1)
theorem app_comm {n : Nat} {f : FSt} {e e' : E} (h : Apart e e') : (f.app n e).app n e' = (f.app n e').app n e := by
  unfold FSt.app
  congr 1
  · funext t
    by_cases h1 : t ∈ e.dst.toList
    · have h2 := h.slot t h1
      rw [putF_other h2]
      exact putF_at (putF_other h2).symm
    · rw [putF_other (d := e.dst) h1]
      exact putF_at (putF_other h1)
  · funext q
    by_cases h1 : q ∈ e.eff.map (·.1)
    · have h2 := h.blk q h1
      rw [effF_out h2]
      exact effF_at (effF_out h2).symm
    · rw [effF_out (eff := e.eff) h1]
      exact effF_at (effF_out h1)
  · funext r
    apply propext
    simp only [usedF]
    constructor
    · rintro ((h | h) | h)
      · exact .inl (.inl h)
      · exact .inr h
      · exact .inl (.inr h)
    · rintro ((h | h) | h)
      · exact .inl (.inl h)
      · exact .inr h
      · exact .inl (.inr h)

section
variable {n : Nat}
theorem replay_congr {S S' : Nat → Bool} : ∀ {es : List E} {k : Nat} {f : FSt}, (∀ j, j < es.length → S (k + j) = S' (k + j)) → replay n S k es f = replay n S' k es f
  | [], _, _, _ => rfl
  | e :: es, k, f, h => by
    simp only [replay]
    rw [show S k = S' k by have := h 0 (by simp); simpa using this]
    exact replay_congr (fun j hj => by have := h (j + 1) (by simpa using hj); rwa [show k + (j + 1) = k + 1 + j by omega] at this)
theorem replay_shift {S : Nat → Bool} : ∀ {es : List E} {k : Nat} {f : FSt}, replay n S (k + 1) es f = replay n (fun j => S (j + 1)) k es f
  | [], _, _ => rfl
  | e :: es, k, f => by simp only [replay]; exact replay_shift
theorem replay_none {S : Nat → Bool} : ∀ {es : List E} {k : Nat} {f : FSt}, (∀ j, k ≤ j → S j = false) → replay n S k es f = f
  | [], _, _, _ => rfl
  | e :: es, k, f, h => by
    simp only [replay, h k (Nat.le_refl _), cond_false]
    exact replay_none (fun j hj => h j (by omega))
theorem slot_agree {S S' : Nat → Bool} {t : Nat} : ∀ {es : List E} {k : Nat} {f f' : FSt}, f.slot t = f'.slot t → (∀ (j : Nat) (e : E), es[j]? = some e → S (k + j) = S' (k + j) ∨ t ∉ e.dst.toList) → (replay n S k es f).slot t = (replay n S' k es f').slot t
  | [], _, _, _, h, _ => h
  | e :: es, k, f, f', h, hs => by
    simp only [replay]
    refine slot_agree ?_ (fun j e' he' => by have := hs (j + 1) e' (by simpa using he'); rwa [show k + (j + 1) = k + 1 + j by omega] at this)
    have h0 := hs 0 e rfl
    simp only [Nat.add_zero] at h0
    rcases h0 with h0 | h0
    · rw [h0]
      cases S' k with
      | false => exact h
      | true => exact putF_at h
    · have hp : ∀ g : FSt, (g.app n e).slot t = g.slot t := fun g => putF_other h0
      cases S k <;> cases S' k <;> simp only [cond_true, cond_false, hp, h]
theorem look_agree {S S' : Nat → Bool} {q : Nat} : ∀ {es : List E} {k : Nat} {f f' : FSt}, f.look q = f'.look q → (∀ (j : Nat) (e : E), es[j]? = some e → S (k + j) = S' (k + j) ∨ q ∉ e.eff.map (·.1)) → (replay n S k es f).look q = (replay n S' k es f').look q
  | [], _, _, _, h, _ => h
  | e :: es, k, f, f', h, hs => by
    simp only [replay]
    refine look_agree ?_ (fun j e' he' => by have := hs (j + 1) e' (by simpa using he'); rwa [show k + (j + 1) = k + 1 + j by omega] at this)
    have h0 := hs 0 e rfl
    simp only [Nat.add_zero] at h0
    rcases h0 with h0 | h0
    · rw [h0]
      cases S' k with
      | false => exact h
      | true => exact effF_at h
    · have hp : ∀ g : FSt, (g.app n e).look q = g.look q := fun g => effF_out h0
      cases S k <;> cases S' k <;> simp only [cond_true, cond_false, hp, h]
theorem used_in {S : Nat → Bool} {q : Nat} : ∀ {es : List E} {k : Nat} {f : FSt}, (replay n S k es f).used q → f.used q ∨ ∃ (j : Nat) (e : E), es[j]? = some e ∧ S (k + j) = true ∧ ∃ b, (q, some b) ∈ e.eff
  | [], _, _, h => .inl h
  | e :: es, k, f, h => by
    simp only [replay] at h
    rcases used_in h with h1 | ⟨j, e', h1, h2, h3⟩
    · cases hs : S k with
      | false => rw [hs] at h1; exact .inl h1
      | true =>
        rw [hs] at h1
        rcases h1 with h1 | h1
        · exact .inl h1
        · exact .inr ⟨0, e, rfl, by simpa using hs, h1⟩
    · exact .inr ⟨j + 1, e', by simpa using h1, by rwa [show k + (j + 1) = k + 1 + j by omega], h3⟩
theorem used_keep {S : Nat → Bool} {q : Nat} : ∀ {es : List E} {k : Nat} {f : FSt}, f.used q → (replay n S k es f).used q
  | [], _, _, h => h
  | e :: es, k, f, h => by
    simp only [replay]
    refine used_keep ?_
    cases S k with
    | false => exact h
    | true => exact .inl h
theorem used_of {S : Nat → Bool} {q : Nat} : ∀ {es : List E} {k : Nat} {f : FSt} {j : Nat} {e : E} {b : Blk}, es[j]? = some e → S (k + j) = true → (q, some b) ∈ e.eff → (replay n S k es f).used q
  | e :: es, k, f, 0, e', b, h1, h2, h3 => by
    simp at h1; subst h1
    simp only [Nat.add_zero] at h2
    simp only [replay, h2, cond_true]
    exact used_keep (.inr ⟨b, h3⟩)
  | e :: es, k, f, j + 1, e', b, h1, h2, h3 => by
    simp only [replay]
    exact used_of (by simpa using h1) (by rwa [show k + (j + 1) = k + 1 + j by omega] at h2) h3
  | [], k, f, j, e', b, h1, _, _ => by simp at h1
theorem replay_comm {S : Nat → Bool} {e : E} : ∀ {es : List E} {k : Nat} {f : FSt}, (∀ (j : Nat) (e' : E), es[j]? = some e' → S (k + j) = true → Apart e e') → replay n S k es (f.app n e) = (replay n S k es f).app n e
  | [], _, _, _ => rfl
  | e' :: es, k, f, h => by
    simp only [replay]
    have hr : ∀ f, replay n S (k + 1) es (f.app n e) = (replay n S (k + 1) es f).app n e := fun f => replay_comm (fun j e'' h1 h2 => h (j + 1) e'' (by simpa using h1) (by rwa [show k + (j + 1) = k + 1 + j by omega]))
    cases hs : S k with
    | false => exact hr f
    | true =>
      simp only [cond_true]
      rw [app_comm (h 0 e' rfl (by simpa using hs))]
      exact hr _
/-- One more. -/
theorem replay_ins {S : Nat → Bool} {e : E} : ∀ {es : List E} {k i : Nat} {f : FSt}, es[i]? = some e → S (k + i) = false → (∀ (j : Nat) (e' : E), i < j → es[j]? = some e' → S (k + j) = true → Apart e e') → replay n (updN S (k + i) true) k es f = (replay n S k es f).app n e
  | e' :: es, k, 0, f, h1, h2, h3 => by
    simp at h1; subst h1
    simp only [Nat.add_zero] at h2 ⊢
    simp only [replay, updN_same, h2, cond_true, cond_false]
    rw [replay_congr (S' := S) (fun j _ => updN_ne _ _ (by omega))]
    exact replay_comm (fun j e'' g1 g2 => h3 (j + 1) e'' (by omega) (by simpa using g1) (by rwa [show k + (j + 1) = k + 1 + j by omega]))
  | e' :: es, k, i + 1, f, h1, h2, h3 => by
    simp only [replay]
    rw [updN_ne _ _ (by omega)]
    rw [show k + (i + 1) = k + 1 + i by omega] at h2 ⊢
    exact replay_ins (by simpa using h1) h2 (fun j e'' hj g1 g2 => h3 (j + 1) e'' (by omega) (by simpa using g1) (by rwa [show k + (j + 1) = k + 1 + j by omega]))
  | [], k, i, f, h1, _, _ => by simp at h1
end

section
variable {P : Program} {md : Nat → FMode} {w0 w w' : World} {N0 M0 M : Nat → Prop} {pv : Nat → Value} {ds : Dfs} {β : Nat → Value} {a : Act} {n : Nat} {ops : Array Oper}
theorem many_len : ∀ {os : List Oper} {s s' : St} {es : List E}, Many P md ops os s es s' → es.length = os.length
  | [], _, _, _, .nil => rfl
  | _ :: _, _, _, _, .cons _ hr => by simp [many_len hr]
/-- In the text's order: the state at an operation. -/
theorem many_at {os : List Oper} {s s' : St} {es : List E} (h : Many P md ops os s es s') : (∀ r b, s.look r = some b → r ∈ s.used) → ∀ {f : FSt}, f.slot = s.slot → f.look = s.look → (∀ r, f.used r → r ∈ s.used) → ∀ {i : Nat} {o : Oper} {e : E}, os[i]? = some o → es[i]? = some e →
    ∃ si s1, One P md ops o si e s1 ∧ (replay s.tmps.length (fun j => decide (j < i)) 0 es f).slot = si.slot ∧ (replay s.tmps.length (fun j => decide (j < i)) 0 es f).look = si.look ∧ (∀ r, (replay s.tmps.length (fun j => decide (j < i)) 0 es f).used r → r ∈ si.used) ∧ si.dp = s.dp := by
  induction h with
  | nil => intro _ f _ _ _ i o e ho; simp at ho
  | @cons o0 os s s1 s2 e0 es h hr ih =>
    intro hu f f1 f2 f3 i o e ho he
    cases i with
    | zero =>
      simp at ho he
      subst ho; subst he
      have hn : replay s.tmps.length (fun j => decide (j < 0)) 0 (e0 :: es) f = f := replay_none (fun j _ => by simp)
      rw [hn]
      exact ⟨s, s1, h, f1, f2, f3, rfl⟩
    | succ i =>
      obtain ⟨g1, g2, g3, g4, g5, g6, _⟩ := one_st h
      obtain ⟨u1, u2⟩ := g6 hu
      obtain ⟨si, s1', k1, k2, k3, k4, k5⟩ := ih u1 (f := f.app s.tmps.length e0) (by rw [g1]; simp only [FSt.app, f1]) (by rw [g2]; simp only [FSt.app, f2]) (fun r hr' => by
        rcases hr' with hr' | ⟨b, hb⟩
        · exact g5 r (f3 r hr')
        · exact u2 r b hb) (i := i) (o := o) (e := e) (by simpa using ho) (by simpa using he)
      have hrep : replay s.tmps.length (fun j => decide (j < i + 1)) 0 (e0 :: es) f = replay s1.tmps.length (fun j => decide (j < i)) 0 es (f.app s.tmps.length e0) := by
        simp only [replay, show decide (0 < i + 1) = true by simp, cond_true]
        rw [replay_shift, g3]
        exact replay_congr (fun j _ => by simp)
      rw [hrep]
      exact ⟨si, s1', k1, k2, k3, k4, k5.trans g4⟩
theorem many_end {os : List Oper} {s s' : St} {es : List E} (h : Many P md ops os s es s') : (∀ r b, s.look r = some b → r ∈ s.used) → ∀ {f : FSt}, f.slot = s.slot → f.look = s.look → (∀ r, f.used r → r ∈ s.used) →
    s'.tmps.length = s.tmps.length ∧ s'.dp = s.dp ∧ (replay s.tmps.length (fun _ => true) 0 es f).slot = s'.slot ∧ (replay s.tmps.length (fun _ => true) 0 es f).look = s'.look ∧ ∀ r, (replay s.tmps.length (fun _ => true) 0 es f).used r → r ∈ s'.used := by
  induction h with
  | nil => intro hu f f1 f2 f3; exact ⟨rfl, rfl, f1, f2, f3⟩
  | @cons o0 os s s1 s2 e0 es h hr ih =>
    intro hu f f1 f2 f3
    obtain ⟨g1, g2, g3, g4, g5, g6, _⟩ := one_st h
    obtain ⟨u1, u2⟩ := g6 hu
    obtain ⟨k1, k2, k3, k4, k5⟩ := ih u1 (f := f.app s.tmps.length e0) (by rw [g1]; simp only [FSt.app, f1]) (by rw [g2]; simp only [FSt.app, f2]) (fun r hr' => by
      rcases hr' with hr' | ⟨b, hb⟩
      · exact g5 r (f3 r hr')
      · exact u2 r b hb)
    have hrep : replay s.tmps.length (fun _ => true) 0 (e0 :: es) f = replay s1.tmps.length (fun _ => true) 0 es (f.app s.tmps.length e0) := by
      simp only [replay, cond_true]
      rw [replay_shift, g3]
    rw [hrep]
    exact ⟨k1.trans g3, k2.trans g4, k3, k4, k5⟩

/-- The state, as the evaluator has it. -/
abbrev RS (P : Program) (md : Nat → FMode) (w0 : World) (N0 M0 : Nat → Prop) (pv : Nat → Value) (s : St) (β : Nat → Value) (a : Act) (w : World) : Prop := R P md w0 N0 M0 s.slot s.look (fun r => r ∈ s.used) ⟨s.dp, pv⟩ s.tmps.length β a w
theorem RS.hu {s : St} (h : RS P md w0 N0 M0 pv s β a w) : ∀ r b, s.look r = some b → r ∈ s.used := fun r b hr => (h.usedB r b hr).1
theorem rs_step {o : Oper} {s s1 : St} {e : E} (ho : One P md ops o s e s1) (hu : ∀ r b, s.look r = some b → r ∈ s.used) (h : R P md w0 N0 M0 (putF s.tmps.length e.dst e.l s.slot) (effF s.look e.eff) (usedF (fun r => r ∈ s.used) e.eff) ⟨s.dp, pv⟩ s.tmps.length β a w) : RS P md w0 N0 M0 pv s1 β a w := by
  obtain ⟨g1, g2, g3, g4, g5, g6, _⟩ := one_st ho
  show R P md w0 N0 M0 s1.slot s1.look (fun r => r ∈ s1.used) ⟨s1.dp, pv⟩ s1.tmps.length β a w
  rw [g1, g2, g3, g4]
  refine h.weak (fun r hr => ?_)
  rcases hr with hr | ⟨b, hb⟩
  · exact g5 r hr
  · exact (g6 hu).2 r b hb
/-- In the text's order. -/
theorem many_seq (hP : WfP P) {Q : Exit → Act → World → Prop} {os : List Oper} {s s' : St} {es : List E} (hm : Many P md ops os s es s') : ∀ {k : Nat} {β : Nat → Value} {a : Act} {w : World}, os = ops.toList.drop k → RS P md w0 N0 M0 pv s β a w → (∀ β a w, RS P md w0 N0 M0 pv s' β a w → Q .normal a w) → wpOps P ops Q (List.range' k (ops.size - k)) a w := by
  induction hm with
  | nil =>
    intro k β a w hos h hQ
    have : ops.size ≤ k := by have := congrArg List.length hos; simp at this; omega
    rw [show ops.size - k = 0 by omega]
    exact hQ _ _ _ h
  | @cons o os s s1 s2 e es ho hr ih =>
    intro k β a w hos h hQ
    have hk : k < ops.size := by have := congrArg List.length hos; simp at this; omega
    have hok : ops[k]? = some o := by
      have := congrArg (fun l => l[0]?) hos
      simp [List.getElem?_drop] at this
      exact this.symm
    rw [show ops.size - k = (ops.size - (k + 1)) + 1 by omega, List.range'_succ]
    unfold wpOps
    rw [hok]
    refine one_run hP ho h (fun _ _ => rfl) (fun _ _ => rfl) (fun q hq => ?_) rfl (fun v w' β' h' => ?_)
    · exact (one_st ho).2.2.2.2.2.2.2.2.2.2 q hq
    · exact ih (by have := congrArg List.tail hos; simpa [List.tail_drop] using this) (rs_step ho h.hu h') hQ
end

end Go.Proofs.YtjmddikeadbmjaaGreat
