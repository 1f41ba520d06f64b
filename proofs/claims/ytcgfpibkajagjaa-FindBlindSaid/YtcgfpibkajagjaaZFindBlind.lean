/- Proved: for any four arrays, the law FindBlind returns true and changes nothing. No condition. -/
import Derived.Test.YtcgfpibkajagjaaRows
import Derived.WalkKit
import Derived.WalkSpells
import Derived.WalkLawsBesides
import Derived.Lib.Hide
import Derived.Laws.CopyOwn
import Derived.Deep.QuietTactic
import Derived.BigQuiet
import Derived.Orders
import Derived.Defers
import Derived.Recover
import Derived.Test.YtcgfpibkajagjaaProg
import Derived.KernelRfl
import Derived.ProofKit
import Derived.OpenShut
import Derived.Maps.OwnRows
import Derived.Maps.Views
import Derived.Deep.RegionHeld3
import Derived.Deep.AppendLies
import Derived.Test.YtcgfpibkajagjaaZ2fa7c36c
set_option linter.unusedSimpArgs false
set_option linter.unusedVariables false
set_option maxRecDepth 100000
namespace Go.Proofs.Ytcgfpibkajagjaa
open Go.RowKit Go.WideMaps Go.Maps Go.ChangeShapes

theorem idxF_snoc : ∀ (l : List Cell) (c : Cell) (n : Int) (k : Nat), idxF (l ++ [c]) n k = idxF l n k ++ (if markC 0 c = n then [((k + l.length : Nat) : Int)] else [])
  | [], c, n, k => by simp only [List.nil_append, idxF, List.length_nil, Nat.add_zero]
  | x :: xs, c, n, k => by
    simp only [List.cons_append, idxF, List.length_cons]
    rw [idxF_snoc xs c n (k + 1), show k + 1 + xs.length = k + (xs.length + 1) by omega]
    split <;> simp
theorem idxF_none : ∀ (l : List Cell) (n : Int) (k : Nat), (∀ c ∈ l, markC 0 c ≠ n) → idxF l n k = []
  | [], _, _, _ => rfl
  | x :: xs, n, k, h => by
    simp only [idxF]
    rw [if_neg (h x (by simp)), idxF_none xs n (k + 1) (fun c hc => h c (by simp [hc]))]
def g0 (l : List Cell) : List (Int × List Int) := l.map (fun c => (markC 0 c, idxF l (markC 0 c) 0))
theorem grp_g0 (l : List Cell) (n : Int) : grp (g0 l) n = idxF l n 0 := by
  have key : ∀ ms : List Cell, grp (ms.map (fun c => (markC 0 c, idxF l (markC 0 c) 0))) n = if (∃ c ∈ ms, markC 0 c = n) then idxF l n 0 else [] := by
    intro ms
    induction ms with
    | nil => simp [grp]
    | cons x xs ih =>
      simp only [List.map_cons, grp]
      by_cases h : markC 0 x = n
      · rw [if_pos h, if_pos ⟨x, by simp, h⟩, h]
      · rw [if_neg h, ih]
        by_cases h2 : ∃ c ∈ xs, markC 0 c = n
        · obtain ⟨c, hc, h3⟩ := h2
          rw [if_pos ⟨c, hc, h3⟩, if_pos ⟨c, by simp [hc], h3⟩]
        · rw [if_neg h2, if_neg (fun ⟨c, hc, h3⟩ => by
            rcases List.mem_cons.1 hc with rfl | hc
            · exact h h3
            · exact h2 ⟨c, hc, h3⟩)]
  have := key l
  unfold g0
  rw [this]
  split
  · rfl
  · rename_i h
    exact (idxF_none l n 0 (fun c hc he => h ⟨c, hc, he⟩)).symm
def itemsD : DataW Unit → List (DataW Unit) | .slice es _ => es | _ => []
theorem lits_inj {q : IntKind} {a b : List Int} (h : (lits q a : List (DataW Unit)) = lits q b) : a = b := by
  unfold lits at h
  exact (List.map_inj_right (fun x y hxy => by simpa using hxy)).1 h
theorem und_u64 : Try.prog.underlying 22 = some (.int .u64) := by kernel_rfl
theorem und_map : Try.prog.underlying 98 = some (.map 22 23) := by kernel_rfl
theorem und_ints : Try.prog.underlying 23 = some (.slice 3) := by kernel_rfl
theorem keyed64 : Keyed Try.prog 22 := int_keyed und_u64
theorem zero_ints (w : World) : (zeroValue 23).run Try.prog w = .ok (.slice none 0 0) w := by kernel_rfl
theorem key_u64 {n : Int} (h0 : 0 ≤ n) (h1 : n ≤ 18446744073709551615) : keyOf Try.prog 22 (.int .u64 n) = some (.int .u64 n) := by
  have hb : (Lit.int .u64 n).wf = true := by
    unfold Lit.wf
    simp only [Bool.and_eq_true, decide_eq_true_eq]
    exact ⟨h0, h1⟩
  unfold keyOf
  rw [und_u64]
  simp only [mapKey, und_u64]
  simp [hb]
theorem key_u64_inv {v : Value} {kl : Lit} (h : keyOf Try.prog 22 v = some kl) : ∃ n : Int, v = .int .u64 n ∧ 0 ≤ n ∧ n ≤ 18446744073709551615 ∧ kl = .int .u64 n := by
  unfold keyOf at h
  rw [und_u64] at h
  simp only [mapKey, und_u64] at h
  cases v <;> simp only [reduceCtorEq] at h
  rename_i q n
  split at h
  · rename_i hc
    obtain ⟨rfl, hw⟩ := hc
    unfold Lit.wf at hw
    simp only [Bool.and_eq_true, decide_eq_true_eq] at hw
    injection h with h
    exact ⟨n, rfl, hw.1, hw.2, h.symm⟩
  · cases h
theorem heap_alloc_old' {w : World} {o : Obj} {b : Nat} {z : Obj} (h : w.heap[b]? = some z) : (w.alloc o).heap[b]? = some z := (heap_alloc_old w o (Array.getElem?_eq_some_iff.1 h).1).trans h
/-- What stands when k cells have been laid in. -/
structure FI (w : World) (l : List Cell) (A : Option Addr) (c k : Nat) (wr : World) : Prop where
  groups : ∃ D, wr.ownsGroups (H := Unit) Try.prog 22 (w.heap.size + 3) 3 .i64 (w.heap.size + 1) k D ∧ ∀ n : Int, 0 ≤ n → n < 18446744073709551616 → itemsD (D.atKey (.int .u64 n) .nil) = lits .i64 (idxF (l.take k) n 0)
  below : Below w.heap.size w wr
  lbox : wr.heap[w.heap.size]? = some (.cells #[.slice A l.length c] 24 (0, 0))
  mbox : wr.heap[w.heap.size + 2]? = some (.cells #[.map (some (w.heap.size + 1))] 98 (0, 0))
  size : w.heap.size + 3 ≤ wr.heap.size
theorem items_row {w : World} {base : Nat} {e : TypeId} {v : Value} {zs : List Int} (h : w.ownsInts base e .i64 v zs) : itemsD (rowDatum .i64 v zs) = lits .i64 zs := by
  rcases h.datum (H := Unit) with ⟨h1, h2⟩ | h1
  · rw [h1, h2]; rfl
  · rw [h1]; rfl
theorem groups_ext {w w' : World} {base b n : Nat} {D : DataW Unit} (h : w.ownsGroups Try.prog 22 base 3 .i64 b n D) (hx : Ext w w') : w'.ownsGroups Try.prog 22 base 3 .i64 b n D := by
  obtain ⟨es, clock, hb, F, hs, rfl, hbb, hlen, hap⟩ := h
  have hg : w.grownBy w' none := ⟨hx.os, hx.tape, hx.output, hx.size, fun k hk _ => hx.block k hk⟩
  have hk : ∀ {v : Value} {zs : List Int}, w.ownsInts base 3 .i64 v zs → w'.ownsInts base 3 .i64 v zs := fun ho => ho.kept hg (by cases hv : Value.ownBlock _ with | none => exact .inl rfl | some g => exact .inr (by simp))
  obtain ⟨F2, hmap, _⟩ := F.stay (R' := rowElem w' base 3 .i64) (fun x _ z hz => by
    obtain ⟨zs, ho, rfl⟩ := rowElem_inv hz
    exact rowElem_mk (hk ho))
  refine ⟨es, clock, (hx.block b (Array.getElem?_eq_some_iff.1 hb).1).trans hb, F2, hs, by rw [hmap], hbb, fun x hx' zs ho => ?_, hap⟩
  obtain ⟨y, hy⟩ := F.reads x hx'
  obtain ⟨z, hz, _⟩ := Go.WideElems.rd_val hy
  obtain ⟨zs', ho', _⟩ := rowElem_inv hz
  rw [ho.unique (hk ho')]
  exact hlen x hx' zs' ho'
theorem FI.ext {w wr w' : World} {l : List Cell} {A : Option Addr} {c k : Nat} (h : FI w l A c k wr) (hx : Ext wr w') : FI w l A c k w' := by
  obtain ⟨⟨D, h1, h2⟩, h3, h4, h5, h6⟩ := h
  have hs := hx.size
  exact ⟨⟨D, groups_ext h1 hx, h2⟩, Below.trans h3 (Below.mono hx (by omega)), (hx.block _ (by omega)).trans h4, (hx.block _ (by omega)).trans h5, by omega⟩
/-- What the look-up tells, and how it goes on. -/
theorem FI.look {w wr : World} {l : List Cell} {A : Option Addr} {c k : Nat} (h : FI w l A c k wr) (hk : k < l.length) (hlen : l.length ≤ 2048) (h0 : 0 ≤ markC 0 l[k]) (h1 : markC 0 l[k] ≤ 18446744073709551615) :
    ∃ (es : Array MapEntry) (clk : Nat) (v : Value) (zs : List Int), wr.heap[w.heap.size + 1]? = some (.map es clk) ∧ (∀ y : World, y.heap[w.heap.size + 1]? = some (.map es clk) → (Instr.lookup 98 (.map (some (w.heap.size + 1))) (.int .u64 (markC 0 l[k])) false).run Try.prog y = .ok v y) ∧ wr.ownsInts (w.heap.size + 3) 3 .i64 v zs ∧ zs.length ≤ k ∧
      ∀ (wc : World) (v' : Value), wr.grownBy wc v.ownBlock → wc.ownsInts (w.heap.size + 3) 3 .i64 v' (zs ++ [(k : Int)]) → (v'.ownBlock = v.ownBlock ∨ ∃ g, v'.ownBlock = some g ∧ wr.heap.size ≤ g) → ∃ w2, (Instr.mapUpdate 98 (.map (some (w.heap.size + 1))) (.int .u64 (markC 0 l[k])) v').run Try.prog wc = .ok () w2 ∧ FI w l A c (k + 1) w2 := by
  obtain ⟨⟨D, hg, hD⟩, hbel, hbox, mbox, hsz⟩ := h
  have hkey := key_u64 h0 h1
  obtain ⟨v, zs, hrun, hat, ho, hzl, hback⟩ := hg.at keyed64 und_map (zero_ints wr) (by unfold maxLen; omega) hkey
  have hg' := hg
  obtain ⟨es, clk, hb, F, _, hDm, _, _, _⟩ := hg
  have hzs : zs = idxF (l.take k) (markC 0 l[k]) 0 := by
    have := hD (markC 0 l[k]) h0 (by omega)
    rw [hat, items_row ho] at this
    exact lits_inj this
  have hks : ∀ x ∈ es.toList, ∃ m, x.key = .int .u64 m := fun x hx => by
    obtain ⟨y, hy⟩ := F.reads x hx
    obtain ⟨n, hn, _⟩ := key_u64_inv (Go.WideElems.rd_key hy)
    exact ⟨n, hn⟩
  have lk : ∀ y : World, y.heap[w.heap.size + 1]? = some (.map es clk) → ∃ u, (∀ y' : World, y'.heap[w.heap.size + 1]? = some (.map es clk) → (Instr.lookup 98 (.map (some (w.heap.size + 1))) (.int .u64 (markC 0 l[k])) false).run Try.prog y' = .ok u y') := by
    intro y hy
    rcases findNow_int (q' := .u64) (n := markC 0 l[k]) es.toList 0 hks with ⟨f1, f2⟩ | ⟨j, ex, f1, f2, f3⟩
    · refine ⟨.slice none 0 0, fun y' hy' => ?_⟩
      unfold Instr.lookup
      have hck := fun em => run_checkInt (P := Try.prog) (w := y') em 9999 (q' := .u64) (i := markC 0 l[k]) und_u64
      simp [run_underlying und_map, run_underlying und_u64, run_getMap hy', hck, Instr.findKey, f1, zero_ints y']
    · refine ⟨ex.val, fun y' hy' => ?_⟩
      unfold Instr.lookup
      have hck := fun em => run_checkInt (P := Try.prog) (w := y') em 9999 (q' := .u64) (i := markC 0 l[k]) und_u64
      simp [run_underlying und_map, run_underlying und_u64, run_getMap hy', hck, Instr.findKey, f1]
  obtain ⟨u, hu⟩ := lk wr hb
  have huv : u = v := by
    have := hu wr hb
    rw [hrun] at this
    injection this with this
    exact this.symm
  subst huv
  refine ⟨es, clk, u, zs, hb, hu, ho, hzl, fun wc v' hgr hown' hloc => ?_⟩
  obtain ⟨w2, hmu, hown2, hgr2⟩ := hback wc v' (zs ++ [(k : Int)]) hgr hown' (by simp; omega) hloc
  have hvb : ∀ j, u.ownBlock = some j → w.heap.size + 3 ≤ j := fun j hj => (ho.1.lt j hj).1
  have far : ∀ b, b < wr.heap.size → b < w.heap.size + 3 → b ≠ w.heap.size + 1 → w2.heap[b]? = wr.heap[b]? := fun b hb1 hb2 hb3 => by
    have hs := hgr.size
    rw [hgr2.block b (by omega) (by simp; omega), hgr.block b hb1 (fun e => by have := hvb b e.symm; omega)]
  refine ⟨w2, hmu, ⟨_, hown2, fun n hn0 hn1 => ?_⟩, ?_, (far _ (by omega) (by omega) (by omega)).trans hbox, (far _ (by omega) (by omega) (by omega)).trans mbox, by have := hgr.size; have := hgr2.size; omega⟩
  · rw [List.take_add_one, List.getElem?_eq_getElem hk]
    show _ = lits .i64 (idxF (l.take k ++ [l[k]]) n 0)
    rw [idxF_snoc, List.length_take, Nat.min_eq_left (by omega), Nat.zero_add]
    have hmk : WideAt.IsKeyLit (.int .u64 (markC 0 l[k])) := keyed64.key hkey
    by_cases he : markC 0 l[k] = n
    · subst he
      rw [if_pos rfl, atKey_put_same ⟨_, hDm⟩ hmk, items_row hown', hzs]
    · rw [if_neg he, List.append_nil, atKey_put_other (fun e => he (by injection e with _ e; exact e.symm))]
      exact hD n hn0 hn1
  · exact hbel.groups ho hgr hgr2 (by omega) (by omega) (by omega)
theorem mark_calls {d : Nat} {x : Cell} {u : Value} {W : World} (hx : SmlC d x) (h : Rd Try.prog md W (fun _ => False) (.ty 52) (dC x) u) : Calls Try.prog 82 #[.int .u64 0, u] W (fun e w' => e = .returned (.int .u64 (markC 0 x)) ∧ (0 ≤ markC 0 x ∧ markC 0 x ≤ 18446744073709551615) ∧ Ext W w') := by
  have hps : Try.f82.params.toList = [22, 52] := by kernel_rfl
  have ht : Try.prog.underlying 22 = some (.int .u64) := by kernel_rfl
  exact sp_int (vs := [.int .u64 0, u]) (mark_sp d x 0 hx) Try.func82 (by kernel_rfl) (fun b hb => hb.elim) (by kernel_rfl) (by kernel_rfl) (rd_all2 hps (rd_num_ ht (by kernel_rfl) (by kernel_rfl) (by decide) (by decide)) h) (t := 22) (by kernel_rfl) ht
section
variable {w : World} {M : Nat → Prop} {t : Nat} {x : D} {c : Nat → Option Value}
theorem rdc_int {k : IntKind} (h : RdC Try.prog md w M (.ty t) x c) (ht : Try.prog.underlying t = some (.int k)) : ∃ n, c 0 = some (.int k n) := by
  cases h with
  | int ht' h1 h2 hc =>
    have : Try.prog.underlying t = _ := ht'
    rw [ht] at this
    injection this with this; injection this with this; subst this
    exact ⟨_, hc⟩
  | bool ht' => have : Try.prog.underlying t = _ := ht'; rw [ht] at this; cases this
  | str ht' => have : Try.prog.underlying t = _ := ht'; rw [ht] at this; cases this
  | sl ht' => have : Try.prog.underlying t = _ := ht'; rw [ht] at this; cases this
  | fn ht' => have : Try.prog.underlying t = _ := ht'; rw [ht] at this; cases this
  | ref ht' => have : Try.prog.underlying t = _ := ht'; rw [ht] at this; cases this
  | mp ht' => have : Try.prog.underlying t = _ := ht'; rw [ht] at this; cases this
  | struct hf => obtain ⟨⟨a, ha, _⟩, _⟩ := fieldsOf_under hf; rw [ht] at ha; cases ha
theorem rdc_bool (h : RdC Try.prog md w M (.ty t) x c) (ht : Try.prog.underlying t = some .bool) : ∃ b, c 0 = some (.bool b) := by
  cases h with
  | bool ht' hc => exact ⟨_, hc⟩
  | int ht' => have : Try.prog.underlying t = _ := ht'; rw [ht] at this; cases this
  | str ht' => have : Try.prog.underlying t = _ := ht'; rw [ht] at this; cases this
  | sl ht' => have : Try.prog.underlying t = _ := ht'; rw [ht] at this; cases this
  | fn ht' => have : Try.prog.underlying t = _ := ht'; rw [ht] at this; cases this
  | ref ht' => have : Try.prog.underlying t = _ := ht'; rw [ht] at this; cases this
  | mp ht' => have : Try.prog.underlying t = _ := ht'; rw [ht] at this; cases this
  | struct hf => obtain ⟨⟨a, ha, _⟩, _⟩ := fieldsOf_under hf; rw [ht] at ha; cases ha
theorem rdc_sl {e : Nat} (h : RdC Try.prog md w M (.ty t) x c) (ht : Try.prog.underlying t = some (.slice e)) : ∃ A n m, c 0 = some (.slice A n m) := by
  cases h with
  | sl ht' hc => exact ⟨_, _, _, hc⟩
  | struct hf => obtain ⟨⟨a, ha, _⟩, _⟩ := fieldsOf_under hf; rw [ht] at ha; cases ha
  | int ht' => have : Try.prog.underlying t = _ := ht'; rw [ht] at this; cases this
  | bool ht' => have : Try.prog.underlying t = _ := ht'; rw [ht] at this; cases this
  | str ht' => have : Try.prog.underlying t = _ := ht'; rw [ht] at this; cases this
  | fn ht' => have : Try.prog.underlying t = _ := ht'; rw [ht] at this; cases this
  | ref ht' => have : Try.prog.underlying t = _ := ht'; rw [ht] at this; cases this
  | mp ht' => have : Try.prog.underlying t = _ := ht'; rw [ht] at this; cases this
end
theorem fld_ofs {t : Nat} {l : List (Nat × Nat)} (h : (fieldsOf Try.prog t).map (fun fs => fs.map (fun f => (f.type, f.offset))) = some l) {i ft o : Nat} (hi : l[i]? = some (ft, o)) {w : World} {M : Nat → Prop} {x : D} {c : Nat → Option Value} (hr : RdC Try.prog md w M (.ty t) x c) : RdC Try.prog md w M (.ty ft) (x.fld i) (fun j => c (o + j)) := by
  obtain ⟨fs, hf, rfl⟩ := Option.map_eq_some_iff.1 h
  rw [List.getElem?_map, Option.map_eq_some_iff] at hi
  obtain ⟨f, h1, h2⟩ := hi
  injection h2 with h2 h3
  subst h2
  subst h3
  exact rd_fld hr hf h1
theorem flds_Cell : (fieldsOf Try.prog 52).map (fun fs => fs.map (fun f => (f.type, f.offset))) = some [(22, 0), (3, 1), (49, 2), (3, 5), (50, 6)] := by kernel_rfl
theorem flds_Num : (fieldsOf Try.prog 49).map (fun fs => fs.map (fun f => (f.type, f.offset))) = some [(4, 0), (47, 1), (47, 2)] := by kernel_rfl
theorem cell_forms {w : World} {M : Nat → Prop} {x : D} {c : Nat → Option Value} (h : RdC Try.prog md w M (.ty 52) x c) : ∃ n0 n1 b A3 k3 m3 A4 k4 m4 n5 A6 k6 m6, c 0 = some (.int .u64 n0) ∧ c 1 = some (.int .i64 n1) ∧ c 2 = some (.bool b) ∧ c 3 = some (.slice A3 k3 m3) ∧ c 4 = some (.slice A4 k4 m4) ∧ c 5 = some (.int .i64 n5) ∧ c 6 = some (.slice A6 k6 m6) := by
  obtain ⟨n0, h0⟩ := rdc_int (fld_ofs flds_Cell (i := 0) rfl h) (k := .u64) (by kernel_rfl)
  obtain ⟨n1, h1⟩ := rdc_int (fld_ofs flds_Cell (i := 1) rfl h) (k := .i64) (by kernel_rfl)
  have hn := fld_ofs flds_Cell (i := 2) rfl h
  obtain ⟨b, h2⟩ := rdc_bool (fld_ofs flds_Num (i := 0) rfl hn) (by kernel_rfl)
  obtain ⟨A3, k3, m3, h3⟩ := rdc_sl (fld_ofs flds_Num (i := 1) rfl hn) (e := 119) (by kernel_rfl)
  obtain ⟨A4, k4, m4, h4⟩ := rdc_sl (fld_ofs flds_Num (i := 2) rfl hn) (e := 119) (by kernel_rfl)
  obtain ⟨n5, h5⟩ := rdc_int (fld_ofs flds_Cell (i := 3) rfl h) (k := .i64) (by kernel_rfl)
  obtain ⟨A6, k6, m6, h6⟩ := rdc_sl (fld_ofs flds_Cell (i := 4) rfl h) (e := 26) (by kernel_rfl)
  exact ⟨n0, n1, b, A3, k3, m3, A4, k4, m4, n5, A6, k6, m6, h0, h1, h2, h3, h4, h5, h6⟩
/-- A cell of the list. -/
structure CellAt (wr : World) (bk o : Nat) (x : Cell) (u0 u1 u2 u3 u4 u5 u6 : Value) : Prop where
  c0 : wr.cell? ⟨bk, o, none⟩ = some u0
  c1 : wr.cell? ⟨bk, o + 1, none⟩ = some u1
  c2 : wr.cell? ⟨bk, o + 2, none⟩ = some u2
  c3 : wr.cell? ⟨bk, o + 3, none⟩ = some u3
  c4 : wr.cell? ⟨bk, o + 4, none⟩ = some u4
  c5 : wr.cell? ⟨bk, o + 5, none⟩ = some u5
  c6 : wr.cell? ⟨bk, o + 6, none⟩ = some u6
  rd : Rd Try.prog md wr (fun _ => False) (.ty 52) (dC x) (.agg #[u0, u1, u2, u3, u4, u5, u6])
theorem list_cell {M : Nat → Prop} {l : List Cell} {A : Option Addr} {c : Nat} {w : World} (h : Rd Try.prog md w M (.ty 24) (.sl (l.map dC)) (.slice A l.length c)) {k : Nat} (hk : k < l.length) : ∃ bk off, A = some ⟨bk, off, none⟩ ∧ bk < w.heap.size ∧ ∀ wr, Below w.heap.size w wr → w.heap.size ≤ wr.heap.size →
    ∃ n0 n1 b A3 k3 m3 A4 k4 m4 n5 A6 k6 m6, CellAt wr bk (off + k * 7) l[k] (.int .u64 n0) (.int .i64 n1) (.bool b) (.slice A3 k3 m3) (.slice A4 k4 m4) (.int .i64 n5) (.slice A6 k6 m6) := by
  have h7 : Try.prog.cellsOf 52 = 7 := by kernel_rfl
  obtain ⟨h1, h2, h3⟩ := h
  cases h1 with
  | @sl _ e _ _ A' cap bk off ht hc h4 h5 hA hh =>
    have he : e = 52 := by
      have : Try.prog.underlying 24 = some (.slice e) := ht
      rw [show Try.prog.underlying 24 = some (.slice 52) by kernel_rfl] at this
      injection this with this; injection this with this; exact this.symm
    subst he
    have hv : Value.slice A l.length c = .slice A' (l.map dC).length cap := by simpa [Value.cells] using hc
    injection hv with e1 e2 e3
    subst e1
    obtain ⟨a1, a2, a3⟩ := hA (fun e => by rw [List.map_eq_nil_iff.1 e] at hk; simp at hk)
    refine ⟨bk, off, a1, a3, fun wr hb hsz => ?_⟩
    have hr := hh k (dC l[k]) (by rw [List.getElem?_map, List.getElem?_eq_getElem hk]; rfl)
    rw [h7] at hr
    have hpos : 0 < (CT.ty 52).size Try.prog := by show 0 < Try.prog.cellsOf _; omega
    have hr' : RdC Try.prog md wr (fun _ => False) (.ty 52) (dC l[k]) (fun j => wr.cell? ⟨bk, off + k * 7 + j, none⟩) := by
      have := hr.mono (w' := wr) (M' := fun _ => False) hsz (fun b _ hlt => hb.block b hlt) (fun b hf _ => hf.elim)
      refine this.congr (fun j _ => ?_) hpos
      rw [Nat.add_assoc, cell_same (hb.block bk a3)]
    obtain ⟨n0, n1, b, A3, k3, m3, A4, k4, m4, n5, A6, k6, m6, c0, c1, c2, c3, c4, c5, c6⟩ := cell_forms hr'
    refine ⟨n0, n1, b, A3, k3, m3, A4, k4, m4, n5, A6, k6, m6, c0, c1, c2, c3, c4, c5, c6, ?_, h7.symm, by kernel_rfl⟩
    refine hr'.congr (fun j hj => ?_) hpos
    have hj : j < 7 := by
      have : j < Try.prog.cellsOf 52 := hj
      omega
    match j, hj with
    | 0, _ => exact c0.symm
    | 1, _ => exact c1.symm
    | 2, _ => exact c2.symm
    | 3, _ => exact c3.symm
    | 4, _ => exact c4.symm
    | 5, _ => exact c5.symm
    | 6, _ => exact c6.symm
theorem idx_run (bk off n c k : Nat) (hk : k < n) (w : World) : (Instr.indexAt 24 (.slice (some ⟨bk, off, none⟩) n c) (.int .i64 k)).run Try.prog w = .ok (.pointer (some ⟨bk, off + k * 7, none⟩)) w := by
  have hu : Try.prog.underlying 24 = some (.slice 52) := by kernel_rfl
  have h7 : Try.prog.cellsOf 52 = 7 := by kernel_rfl
  have hcond : 0 ≤ (k : Int) ∧ (k : Int) < ((n : Nat) : Int) := by omega
  simp [Instr.indexAt, asIntOf, run_underlying hu, hcond, hk, run_sizeOf (P := Try.prog) (t := 52) (by omega), h7, Addr.add_lit]
/-- What is told. -/
def RetF (w : World) (l : List Cell) (A : Option Addr) (c : Nat) (e : Ending) (w' : World) : Prop := e = .returned (.func (.func 83) #[] #[.pointer (some ⟨w.heap.size + 1 + 1, 0, none⟩), .pointer (some ⟨w.heap.size, 0, none⟩)]) ∧ FI w l A c l.length w'
theorem FI.start (w : World) (l : List Cell) (A : Option Addr) (c : Nat) : FI w l A c 0 (((w.alloc (.cells #[.slice A l.length c] 24)).alloc (.map #[] 0)).alloc (.cells #[.map (some (w.heap.size + 1))] 98)) := by
  have h1 : ((w.alloc (.cells #[.slice A l.length c] 24)).alloc (.map #[] 0)).heap[w.heap.size + 1]? = some (.map #[] 0) := by
    have := heap_alloc_new (w.alloc (.cells #[.slice A l.length c] 24)) (.map #[] 0)
    simpa using this
  have h0 : (w.alloc (.cells #[.slice A l.length c] 24)).heap[w.heap.size]? = some (.cells #[.slice A l.length c] 24 (0, 0)) := heap_alloc_new w _
  refine ⟨⟨.map [], ⟨#[], 0, heap_alloc_old' h1, ⟨by simp, Go.MapKept.stamped_empty 0, by simp⟩, Nat.le_refl _, rfl, by omega, by simp, by simp⟩, fun n _ _ => rfl⟩, ((Below.refl _ _).alloc (Nat.le_refl _) _ |>.alloc (by simp) _ |>.alloc (by simp; omega) _), heap_alloc_old' (heap_alloc_old' h0), ?_, by simp⟩
  have := heap_alloc_new ((w.alloc (.cells #[.slice A l.length c] 24)).alloc (.map #[] 0)) (.cells #[.map (some (w.heap.size + 1))] 98)
  simpa using this
set_option maxHeartbeats 1000000 in
theorem finder_any {M : Nat → Prop} (l : List Cell) (hl : ∀ x ∈ l, ∃ d, SmlC d x) (hlen : l.length ≤ 2048) (A : Option Addr) (c : Nat) (w : World) (hrd : Rd Try.prog md w M (.ty 24) (.sl (l.map dC)) (.slice A l.length c)) :
    Calls Try.prog 40 #[.slice A l.length c] w (RetF w l A c) := by
  have hmm := @run_makeMap Try.prog
  have HRD := Lib.hid hrd
  clear hrd
  have HLL := Lib.hid hl
  clear hl
  go_enter Try.func40, Try.ntmps40
  go_wp2_with fail
  go_loopw [10] (fun iv wr => ∃ k : Nat, k ≤ l.length ∧ iv = .int .i64 k ∧ FI w l A c k wr) (fun iv _ => l.length - (intOf iv).toNat)
  case atStart => exact ⟨0, Nat.zero_le _, rfl, FI.start w l A c⟩
  case round =>
    obtain ⟨k, hk, rfl, HF⟩ := hrel
    by_cases hlt : k < l.length
    · obtain ⟨bk, off, rfl, hbk, hcell⟩ := list_cell HRD.out hlt
      obtain ⟨n0, n1, b, A3, k3, m3, A4, k4, m4, n5, A6, k6, m6, hca⟩ := hcell wr HF.below (by have := HF.size; omega)
      clear hcell
      have hc0 := hca.c0
      have hc1 := hca.c1
      have hc2 := hca.c2
      have hc3 := hca.c3
      have hc4 := hca.c4
      have hc5 := hca.c5
      have hc6 := hca.c6
      have HRU := Lib.hid hca
      clear hca
      obtain ⟨d, hsx⟩ := HLL.out l[k] (List.getElem_mem hlt)
      have HSX := Lib.hid hsx
      clear hsx
      have HIX := idx_run bk off l.length c k hlt
      have HFH := Lib.hid HF
      clear HF
      go_wp2_with (first
        | (go_at_call 82; refine (mark_calls HSX.out ?_).mono ?_; rotate_left; rintro e w1 ⟨rfl, hb1, hx1⟩))
      · have hfi := HFH.out.ext (Ext.trans ((Ext.refl wr).alloc _) hx1)
        obtain ⟨es, clk, v, zs, hb, hu, ho, hzl, hnext⟩ := hfi.look hlt hlen hb1.1 hb1.2
        have hsz1 := hfi.size
        have hmb0 := hfi.mbox
        have hvb : ∀ j, v.ownBlock = some j → w.heap.size + 3 ≤ j := fun j hj => (ho.1.lt j hj).1
        have KS : ∀ y : World, y.heap[w.heap.size + 2]? = some (.cells #[.map (some (w.heap.size + 1))] 98 (0, 0)) → y.heap[w.heap.size + 2]? = some (.cells #[.map (some (w.heap.size + 1))] 98 (0, 0)) ∧ y.cell? ⟨w.heap.size + 1 + 1, 0, none⟩ = some (.map (some (w.heap.size + 1))) := by
          intro y h2
          refine ⟨h2, ?_⟩
          unfold World.cell?
          simp [h2]
        have hlk1 := hu w1 hb
        have hlk2 := hu w1.drew hb
        have hlk3 := hu (w1.alloc (.cells #[.int .i64 k] 3)) (heap_alloc_old' hb)
        have hlk4 := hu (w1.alloc (.cells #[.int .i64 k] 3)).drew (heap_alloc_old' hb)
        have hlk5 := hu (w1.drew.alloc (.cells #[.int .i64 k] 3)) (heap_alloc_old' (w := w1.drew) hb)
        have hinfo : ∃ i0, Try.prog.info? 3 = some i0 ∧ i0.zero = some (.int .i64 0) ∧ i0.size = 1 ∧ i0.bytes = 8 := info_parts (P := Try.prog) (e := 3) (z := .int .i64 0) (size := 1) (bytes := 8) (by kernel_rfl)
        obtain ⟨i0, hi0, hz0, hz1, hz2⟩ := hinfo
        obtain ⟨_, hcell1⟩ := KS w1 hmb0
        have GD : ∀ {x y : World} {r : Option Nat}, x.drew.grownBy y r → x.grownBy y r := fun h => ⟨h.os, h.tape, h.output, h.size, h.block⟩
        have WFK : (Lit.int .i64 (k : Int)).wf = true := WalkArith.wf_i64 (by omega)
        go_region_held3 (fun y => y.heap[w.heap.size + 2]? = some (.cells #[.map (some (w.heap.size + 1))] 98 (0, 0)) ∧ y.cell? ⟨w.heap.size + 1 + 1, 0, none⟩ = some (.map (some (w.heap.size + 1))))
          ((go_split_ands; first | (refine ⟨?_, ?_⟩ <;> assumption) | exact KS _ hfi5.mbox | exact KS _ (by assumption) | exact KS _ (heap_alloc_old' (by assumption)) | exact KS _ ((hgrow.block _ (by simp; omega) (by intro e; have := hvb _ e.symm; omega)).trans (by first | assumption | exact heap_alloc_old' (by assumption)))))
          ((refine step_append_lies _ (by rfl) _ _ _ (by rfl) (w.heap.size + 3) 3 i0 _ 1 8 und_ints hi0 hz0 hz1 hz2 rfl (by omega) v zs.length (zs.map (Value.int .i64)) (by rfl) ((ho.1.alloc _).drew) ⟨w1.heap.size, 0, none⟩ 1 1 [.int .i64 k] (by rfl) (by rfl) (World.news_of_block (cs := #[.int .i64 k]) (t := 3) (fr := (0, 0)) (heap_alloc_new w1 _)) (by simp [Value.oneCell']) (by omega) (by unfold maxLen; omega) (by omega) (by simp; omega) (w1.heap.size + 1) (by simp) ?_; intro gg cap w4 hown4 hgrow hat hlt4; obtain ⟨w5, hmu, hfi5⟩ := hnext w4 _ ((World.grownBy_alloc w1 _ _).trans (GD hgrow)) (ho.appended hown4 WFK) (hat.imp (fun h => h.symm) (fun h => ⟨gg, rfl, by omega⟩))))
        all_goals
          go_wp2_with fail
          go_roundw
          · exact ⟨k + 1, by omega, by go_num, hfi5⟩
          · simp [intOf]; omega
      · exact rd_weak HRU.out.rd ((Ext.refl wr).alloc _) (fun b hb _ => hb)
    · have hkn : k = l.length := by omega
      subst hkn
      go_wp2_with fail
      go_ret
      exact ⟨rfl, HF⟩
theorem mixS_range (k n : Int) : 0 ≤ mixS k n ∧ mixS k n ≤ 18446744073709551615 := by
  unfold mixS bits_
  simp only
  rw [IntKind.wrap_u64]
  omega
def r64 (k : Int) : Prop := 0 ≤ k ∧ k ≤ 18446744073709551615
theorem foldl_r {α : Type} {f : Int → α → Int} : ∀ {l : List α} {k : Int}, r64 k → (∀ x ∈ l, ∀ k, r64 k → r64 (f k x)) → r64 (l.foldl f k)
  | [], _, h, _ => h
  | x :: xs, k, h, hf => by
    rw [List.foldl_cons]
    exact foldl_r (l := xs) (hf x (by simp) k h) (fun y hy => hf y (List.mem_cons_of_mem _ hy))
theorem markC_r {c : Cell} {k : Int} (h : ∀ x ∈ c.inn, ∀ k, r64 k → r64 (markA k x)) : r64 (markC k c) := by
  rw [markC_eq]
  refine foldl_r ?_ h
  have h1 : ∀ (l : List Limb) {k : Int}, r64 k → r64 (markL k l) := fun l k hk => foldl_r hk (fun x _ k _ => mixS_range _ _)
  refine h1 _ (h1 _ ?_)
  split <;> exact mixS_range _ _
theorem markA_r (a : Arr) : ∀ k, r64 k → r64 (markA k a) := by
  induction a using Arr.ind with
  | h s sh cs IH =>
    intro k hk
    rw [markA_eq]
    exact foldl_r (foldl_r hk (fun x _ k _ => mixS_range _ _)) (fun c hc k _ => markC_r (IH c hc))
theorem markC_range (c : Cell) (k : Int) : r64 (markC k c) := markC_r (fun x _ => markA_r x)
theorem pairwise_inj {α : Type} {f : α → Lit × DataW Unit} : ∀ {l : List α} {x y : α}, (l.map f).Pairwise (fun p q => p.1 ≠ q.1) → x ∈ l → y ∈ l → (f x).1 = (f y).1 → x = y
  | [], x, y, _, hx, _, _ => by cases hx
  | a :: l, x, y, h, hx, hy, he => by
    rw [List.map_cons, List.pairwise_cons] at h
    rcases List.mem_cons.1 hx with e1 | hx1 <;> rcases List.mem_cons.1 hy with e2 | hy1
    · rw [e1, e2]
    · rw [e1] at he; exact absurd he (h.1 _ (List.mem_map.2 ⟨y, hy1, rfl⟩))
    · rw [e2] at he; exact absurd he.symm (h.1 _ (List.mem_map.2 ⟨x, hx1, rfl⟩))
    · exact pairwise_inj h.2 hx1 hy1 he
/-- A row of one's own, as data. -/
theorem rd_own {w : World} {M : Nat → Prop} {base : Nat} {v : Value} {zs : List Int} (h : w.ownsInts base 3 .i64 v zs) (hM : ∀ b, M b → b < base) : RdC Try.prog md w M (.ty 23) (.sl (zs.map .int)) (fun j => v.cells[j]?) ∧ isAggV v = false := by
  have hc1 : Try.prog.cellsOf 3 = 1 := by kernel_rfl
  have hti : Try.prog.underlying 3 = some (.int .i64) := by kernel_rfl
  obtain ⟨hrow, hwf⟩ := h
  rcases hrow.2 with ⟨rfl, h0⟩ | ⟨g, cap, cur, rfl, hbg, hg, hnc, hcm, hcs, htake⟩
  · have : zs = [] := List.length_eq_zero_iff.1 h0
    subst this
    exact ⟨.sl (t := .ty _) (e := 3) (A := none) (cap := 0) (bk := 0) (off := 0) und_ints rfl (by simp) (by simp) (fun hne => absurd rfl hne) (fun i x hx => by simp at hx), rfl⟩
  · have hcell := hrow.cells (g := g) rfl
    refine ⟨.sl (t := .ty _) (e := 3) (A := some ⟨g, 0, none⟩) (cap := cap) (bk := g) (off := 0) und_ints (by simp [Value.cells]) (by simpa using hnc) hcm (fun _ => ⟨rfl, fun hm => by have := hM g hm; omega, (Array.getElem?_eq_some_iff.1 hg).1⟩) (fun i x hx => ?_), rfl⟩
    rw [List.getElem?_map, Option.map_eq_some_iff] at hx
    obtain ⟨z, hz, rfl⟩ := hx
    have hw := hwf z (List.mem_of_getElem? hz)
    unfold Lit.wf at hw
    simp only [Bool.and_eq_true, decide_eq_true_eq] at hw
    have := hcell i (.int .i64 z) (by rw [List.getElem?_map, hz]; rfl)
    have ea : (⟨g, 0, none⟩ : Addr).add i = ⟨g, 0 + i, none⟩ := by unfold Addr.add; split <;> simp_all
    rw [ea] at this
    exact .int (t := .ty _) (k := .i64) hti hw.1 hw.2 (by rw [hc1]; simpa using this)
theorem FI.map_rd {w w' : World} {M : Nat → Prop} {l : List Cell} {A : Option Addr} {c : Nat} (h : FI w l A c l.length w') (hM : ∀ b, M b → b < w.heap.size) : RdC Try.prog md w' M (.ty 98) (.mp (g0 l)) (fun j => w'.cell? ⟨w.heap.size + 1 + 1, 0 + j, none⟩) := by
  obtain ⟨⟨D, hg, hD⟩, _, _, mbox, hsz⟩ := h
  obtain ⟨es, clk, hb, F, _, rfl, _, _, _⟩ := hg
  have hks : ∀ x ∈ es.toList, ∃ n : Int, x.key = .int .u64 n ∧ 0 ≤ n ∧ n ≤ 18446744073709551615 := fun x hx => by
    obtain ⟨y, hy⟩ := F.reads x hx
    obtain ⟨n, hn, h0, h1, _⟩ := key_u64_inv (Go.WideElems.rd_key hy)
    exact ⟨n, hn, h0, h1⟩
  have rdx : ∀ x ∈ es.toList, ∀ n, x.key = .int .u64 n → RdC Try.prog md w' M (.ty 23) (.sl ((grp (g0 l) n).map .int)) (fun j => x.val.cells[j]?) ∧ isAggV x.val = false := by
    intro x hx n hn
    obtain ⟨n', hn', h0, h1⟩ := hks x hx
    rw [hn] at hn'
    injection hn' with _ hn'
    subst hn'
    have hkey := key_u64 h0 h1
    rcases Maps.fit_look false keyed64 und_map (zero_ints w') hb F hkey with ⟨_, hne, _⟩ | ⟨e0, y, hm0, h3, _, hR, hat, _⟩
    · exact absurd hn (hne x hx)
    · have hxe : x = e0 := by
        refine pairwise_inj (fit_apart keyed64 F) hx hm0 ?_
        obtain ⟨y1, hy1⟩ := F.reads x hx
        obtain ⟨y2, hy2⟩ := F.reads e0 hm0
        rw [Go.WideElems.rg_of hy1, Go.WideElems.rg_of hy2]
        have k1 := Go.WideElems.rd_key hy1
        have k2 := Go.WideElems.rd_key hy2
        rw [hn] at k1
        rw [h3] at k2
        rw [k1] at k2
        injection k2
      subst hxe
      obtain ⟨zs, ho, rfl⟩ := rowElem_inv hR
      have hz := hD n h0 (by omega)
      rw [hat, List.take_length, items_row ho] at hz
      rw [grp_g0, ← lits_inj hz]
      exact rd_own ho (fun b hb => by have := hM b hb; omega)
  refine .mp (t := .ty _) (b := w.heap.size + 1) und_map und_u64 und_ints ?_ (fun hm => by have := hM _ hm; omega) (by omega) hb (fun x hx => ?_) (fun x hx n hn => (rdx x hx n hn).1) (fun x hx => ?_) (fun n hne => ?_)
  · have : w'.heap[w.heap.size + 1 + 1]? = some (.cells #[.map (some (w.heap.size + 1))] 98 (0, 0)) := mbox
    unfold World.cell?
    simp [this]
  · obtain ⟨n, hn, _⟩ := hks x hx; exact ⟨n, hn⟩
  · obtain ⟨n, hn, _⟩ := hks x hx; exact (rdx x hx n hn).2
  · rw [grp_g0]
    by_cases hr : 0 ≤ n ∧ n ≤ 18446744073709551615
    · have hkey := key_u64 hr.1 hr.2
      rcases Maps.fit_look false keyed64 und_map (zero_ints w') hb F hkey with ⟨_, _, hat⟩ | ⟨e0, y, hm0, h3, _⟩
      · have hz := hD n hr.1 (by omega)
        rw [hat, List.take_length] at hz
        exact (lits_inj (q := .i64) (a := []) hz).symm
      · exact absurd h3 (hne e0 hm0)
    · exact idxF_none l n 0 (fun c _ he => hr (he ▸ markC_range c 0))
theorem finder_ok : FinderOk := by
  intro d l hl hlen
  refine ⟨g0 l, grp_g0 l, spec_of wfP Try.func40 (by kernel_rfl) (by kernel_rfl) (by kernel_rfl) (fun w M vs hM _ hlv hrd => ?_)⟩
  have hps : Try.f40.params.toList = [24] := by kernel_rfl
  have hlen1 : vs.length = 1 := by rw [hlv]; rfl
  match vs, hlen1 with
  | [v], _ =>
    rw [hps] at hrd
    have hr := hrd 0 _ _ _ rfl rfl rfl
    obtain ⟨A, n, c, hv, hn⟩ : ∃ A n c, v = .slice A n c ∧ n = l.length := by
      obtain ⟨h1, h2, h3⟩ := hr
      cases h1 with
      | @sl _ e _ _ A' cap bk off ht hc h4 h5 hA hh =>
        have ha : isAggV v = false := by rw [h3]; kernel_rfl
        rw [cells_of ha] at hc
        exact ⟨A', _, cap, by simpa using hc, by simp⟩
    subst hv
    subst hn
    refine (finder_any l (fun x hx => ⟨d, hl x hx⟩) hlen A c w hr).mono ?_
    rintro e w' ⟨rfl, hfi⟩
    have hx : Ext w w' := by
      have := hfi.below
      exact ⟨this.os, this.tape, this.output, by have := hfi.size; omega, fun b hb => this.block b hb⟩
    refine ⟨[_], rfl, rfl, fun i t u ht hu => ?_, hx⟩
    rw [show Try.f40.resultTypes.toList = [56] by kernel_rfl] at ht
    match i with
    | 0 =>
      cases ht; cases hu
      have hsz := hfi.size
      refine ⟨.fn (t := .ty _) (fn := Try.f83) (ps := #[52]) (rs := #[3]) (va := false) (by kernel_rfl) Try.func83 (by kernel_rfl) (by kernel_rfl) (by kernel_rfl) rfl rfl rfl (fun i ct d' v' hct hd hv => ?_) (fun i ct v' hct hv => ?_), by kernel_rfl, by kernel_rfl⟩
      · match i with
        | 0 =>
          cases hct; cases hd; cases hv
          exact .ref (t := .ref _) (bk := w.heap.size + 1 + 1) (off := 0) rfl rfl (fun hm => by have := hM _ hm; omega) (by omega) (hfi.map_rd hM)
        | 1 =>
          cases hct; cases hd; cases hv
          refine .ref (t := .ref _) (bk := w.heap.size) (off := 0) rfl rfl (fun hm => by have := hM _ hm; omega) (by omega) ?_
          have h1 := hr.rd.mono (w' := w') (M' := M) hx.size (fun b _ hb => hx.block b hb) (fun b hb _ => hb)
          refine h1.congr (fun j hj => ?_) (by have : (CT.ty 24).size Try.prog = 1 := (by kernel_rfl); omega)
          have hj : j < 1 := by have : (CT.ty 24).size Try.prog = 1 := (by kernel_rfl); omega
          obtain rfl : j = 0 := by omega
          unfold World.cell?
          simp [hfi.lbox, Value.cells]
        | i + 2 => cases hct
      · match i with
        | 0 => cases hct; cases hv; exact ⟨rfl, rfl⟩
        | 1 => cases hct; cases hv; exact ⟨rfl, rfl⟩
        | i + 2 => cases hct
    | i + 1 => simp at ht
end Go.Proofs.Ytcgfpibkajagjaa
set_option maxRecDepth 100000
namespace Go.Proofs.Ytcgfpibkajagjaa
/-! scrim/scrimlaw16.FindIndexes -/
def law16_FindIndexes_orc : List (Nat × Orc) := []
theorem law16_FindIndexes_tree (n : Nat) (a0 : D) (b1 : D) : evFun Try.prog md law16_FindIndexes_orc n 3 [] [a0, b1] =
 .call 10 [] [a0] fun yy1 =>
 .br (!((yy1.getD 0 D.nil).toBool)) (.call 11 [] [] fun yy2 =>
 .ret [D.bool ((yy2.getD 0 D.nil).toBool)])
 (.call 10 [] [b1] fun yy3 =>
 .br (!((yy3.getD 0 D.nil).toBool)) (.call 11 [] [] fun yy4 =>
 .ret [D.bool ((yy4.getD 0 D.nil).toBool)])
 (.call 12 [] [a0, b1] fun yy5 =>
 .call 13 [] [a0, b1] fun yy6 =>
 .call 14 [] [yy5.getD 0 D.nil, D.int ((yy5.getD 1 D.nil).toInt), yy6.getD 0 D.nil, D.int ((yy6.getD 1 D.nil).toInt)] fun yy7 =>
 .br ((yy7.getD 0 D.nil).toBool) (.call 16 [] [a0, b1] fun yy8 =>
 .call 17 [] [a0, b1] fun yy9 =>
 .call 15 [] [yy8.getD 0 D.nil, yy9.getD 0 D.nil] fun yy10 =>
 .br ((yy10.getD 0 D.nil).toBool) (.call 11 [] [] fun yy11 =>
 .ret [D.bool ((yy11.getD 0 D.nil).toBool)])
 (.ret [D.bool false]))
 (.ret [D.bool false]))) := by kernel_rfl

/-! scrim/scrimlaw16.FindSets -/
def law16_FindSets_orc : List (Nat × Orc) := []
theorem law16_FindSets_tree (n : Nat) (a0 : D) (b1 : D) (in2 : D) : evFun Try.prog md law16_FindSets_orc n 4 [] [a0, b1, in2] =
 .call 10 [] [a0] fun yy1 =>
 .br (!((yy1.getD 0 D.nil).toBool)) (.call 11 [] [] fun yy2 =>
 .ret [D.bool ((yy2.getD 0 D.nil).toBool)])
 (.call 10 [] [b1] fun yy3 =>
 .br (!((yy3.getD 0 D.nil).toBool)) (.call 11 [] [] fun yy4 =>
 .ret [D.bool ((yy4.getD 0 D.nil).toBool)])
 (.call 18 [] [a0] fun yy5 =>
 .call 19 [] [a0] fun yy6 =>
 .call 20 [] [a0, b1, D.bool in2.toBool] fun yy7 =>
 .call 21 [] [a0, b1, D.bool in2.toBool] fun yy8 =>
 .call 22 [] [a0, b1] fun yy9 =>
 .call 23 [] [a0, b1] fun yy10 =>
 .call 14 [] [yy5.getD 0 D.nil, D.int ((yy5.getD 1 D.nil).toInt), yy6.getD 0 D.nil, D.int ((yy6.getD 1 D.nil).toInt)] fun yy11 =>
 .br ((yy11.getD 0 D.nil).toBool) (.call 14 [] [yy7.getD 0 D.nil, D.int ((yy7.getD 1 D.nil).toInt), yy8.getD 0 D.nil, D.int ((yy8.getD 1 D.nil).toInt)] fun yy12 =>
 .br ((yy12.getD 0 D.nil).toBool) (.call 14 [] [yy9.getD 0 D.nil, D.int ((yy9.getD 1 D.nil).toInt), yy10.getD 0 D.nil, D.int ((yy10.getD 1 D.nil).toInt)] fun yy13 =>
 .br ((yy13.getD 0 D.nil).toBool) (.br (((yy5.getD 1 D.nil).toInt) != 0) (.br (((yy9.getD 1 D.nil).toInt) != 0) (.call 11 [] [] fun yy14 =>
 .ret [D.bool ((yy14.getD 0 D.nil).toBool)])
 (.call 24 [] [yy9.getD 0 D.nil, D.int 8] fun yy15 =>
 .br ((yy15.getD 0 D.nil).toBool) (.call 11 [] [] fun yy16 =>
 .ret [D.bool ((yy16.getD 0 D.nil).toBool)])
 (.ret [D.bool false])))
 (.call 24 [] [yy5.getD 0 D.nil, D.int 8] fun yy17 =>
 .br ((yy17.getD 0 D.nil).toBool) (.call 24 [] [yy7.getD 0 D.nil, D.int 8] fun yy18 =>
 .br ((yy18.getD 0 D.nil).toBool) (.br (((yy9.getD 1 D.nil).toInt) != 0) (.call 11 [] [] fun yy19 =>
 .ret [D.bool ((yy19.getD 0 D.nil).toBool)])
 (.call 24 [] [yy9.getD 0 D.nil, D.int 8] fun yy20 =>
 .br ((yy20.getD 0 D.nil).toBool) (.call 11 [] [] fun yy21 =>
 .ret [D.bool ((yy21.getD 0 D.nil).toBool)])
 (.ret [D.bool false])))
 (.ret [D.bool false]))
 (.ret [D.bool false])))
 (.ret [D.bool false]))
 (.ret [D.bool false]))
 (.ret [D.bool false]))) := by kernel_rfl

/-! scrim/scrimlaw16.FindCounts -/
def law16_FindCounts_orc : List (Nat × Orc) := []
theorem law16_FindCounts_tree (n : Nat) (nn0 : D) : evFun Try.prog md law16_FindCounts_orc n 5 [] [nn0] =
 .call 10 [] [nn0] fun yy1 =>
 .br (!((yy1.getD 0 D.nil).toBool)) (.call 11 [] [] fun yy2 =>
 .ret [D.bool ((yy2.getD 0 D.nil).toBool)])
 (.call 25 [] [nn0] fun yy3 =>
 .call 26 [] [nn0] fun yy4 =>
 .call 14 [] [yy3.getD 0 D.nil, D.int ((yy3.getD 1 D.nil).toInt), yy4.getD 0 D.nil, D.int ((yy4.getD 1 D.nil).toInt)] fun yy5 =>
 .br ((yy5.getD 0 D.nil).toBool) (.br (((yy3.getD 1 D.nil).toInt) != 0) (.call 11 [] [] fun yy6 =>
 .ret [D.bool ((yy6.getD 0 D.nil).toBool)])
 (.call 24 [] [yy3.getD 0 D.nil, D.int 8] fun yy7 =>
 .br ((yy7.getD 0 D.nil).toBool) (.call 11 [] [] fun yy8 =>
 .ret [D.bool ((yy8.getD 0 D.nil).toBool)])
 (.ret [D.bool false])))
 (.ret [D.bool false])) := by kernel_rfl

/-! scrim/scrimlaw16.FindBlind -/
def law16_FindBlind_orc : List (Nat × Orc) := [(1000003, ⟨[(4, none), (5, none), (6, none), (7, none), (8, none), (9, none)], [(6, true), (7, true), (8, true), (9, true)], []⟩), (1000007, ⟨[(4, none), (5, none), (6, none), (7, none), (8, none), (9, none)], [(6, true), (7, true), (8, true), (9, true)], []⟩), (1000011, ⟨[(4, none), (5, none), (6, none), (7, none), (8, none), (9, none)], [(6, true), (7, true), (8, true), (9, true)], []⟩), (1000015, ⟨[(5, none), (6, none), (7, none), (8, none), (9, none)], [(6, true), (7, true), (8, true), (9, true)], []⟩), (1000019, ⟨[(5, none), (6, none), (7, none)], [(6, true), (7, true)], []⟩)]
def law16_FindBlind_ps : List Nat := [26, 26, 26, 26, 4, 22]
def law16_FindBlind_rs : List ResultVar := [.tmp 12]
def law16_FindBlind_ts : List Nat := [4]
noncomputable def law16_FindBlind_j19 (n : Nat) (o5 : Int) (a6 : D) (b7 : D) : Tree :=
  ev Try.prog md n law16_FindBlind_orc (cAt (bodyOf Try.prog 6) [1, 1, 1, 1, 1, 1, 1, 1, 1, 1, 1, 1, 1, 1]) ⟨[.undef, .undef, .undef, .undef, .undef, .i .u64 o5, .ptr 6 [], .ptr 7 [], .undef, .undef, .undef, .undef, .undef, .undef, .undef, .undef, .undef, .undef, .undef, .undef, .undef, .undef, .undef, .undef, .undef, .undef, .undef, .undef, .undef, .undef, .undef, .undef, .undef, .undef, .undef, .undef, .undef, .undef, .undef, .undef, .undef, .undef, .undef, .undef, .undef, .undef, .undef, .undef, .undef, .undef, .undef, .undef, .undef, .undef, .undef, .undef, .undef, .undef, .undef, .undef, .undef, .undef, .undef, .undef, .undef, .undef, .undef, .undef, .undef, .undef, .undef, .undef, .undef, .undef, .undef, .undef, .undef, .undef, .undef, .undef, .undef, .undef, .undef, .undef, .undef, .undef, .undef, .undef, .undef, .undef, .undef, .undef, .undef, .undef, .undef, .undef, .undef, .undef, .undef, .undef, .undef, .undef, .undef, .undef, .undef, .undef, .undef, .undef, .undef, .undef, .undef, .undef, .undef, .undef, .undef, .undef, .undef, .undef, .undef, .undef, .undef, .undef, .undef, .undef, .undef, .undef, .undef, .undef, .undef, .undef, .undef, .undef, .undef, .undef, .undef, .undef, .undef, .undef, .undef, .undef, .undef, .undef, .undef, .undef, .undef, .undef, .undef, .undef, .undef, .undef, .undef, .undef, .undef, .undef, .undef, .undef, .undef, .undef, .undef, .undef, .undef, .undef, .undef, .undef, .undef, .undef, .undef, .undef, .undef, .undef, .undef, .undef, .undef, .undef, .undef, .undef, .undef, .undef, .undef, .undef, .undef, .undef, .undef, .undef, .undef, .undef, .undef, .undef, .undef, .undef, .undef, .undef, .undef, .undef, .undef, .undef, .undef, .undef, .undef, .undef, .undef, .undef], [(6, .var 26 (.d 26 a6) true), (7, .var 26 (.d 26 b7) true)], [6, 7], [], []⟩
   (retK Try.prog md (md 6) law16_FindBlind_ps law16_FindBlind_rs law16_FindBlind_ts)
noncomputable def law16_FindBlind_j15 (n : Nat) (o5 : Int) (a6 : D) (b7 : D) (c8 : D) (d9 : D) : Tree :=
  ev Try.prog md n law16_FindBlind_orc (cAt (bodyOf Try.prog 6) [1, 1, 1, 1, 1, 1, 1, 1, 1, 1, 1]) ⟨[.undef, .undef, .undef, .undef, .undef, .i .u64 o5, .ptr 6 [], .ptr 7 [], .ptr 8 [], .ptr 9 [], .undef, .undef, .undef, .undef, .undef, .undef, .undef, .undef, .undef, .undef, .undef, .undef, .undef, .undef, .undef, .undef, .undef, .undef, .undef, .undef, .undef, .undef, .undef, .undef, .undef, .undef, .undef, .undef, .undef, .undef, .undef, .undef, .undef, .undef, .undef, .undef, .undef, .undef, .undef, .undef, .undef, .undef, .undef, .undef, .undef, .undef, .undef, .undef, .undef, .undef, .undef, .undef, .undef, .undef, .undef, .undef, .undef, .undef, .undef, .undef, .undef, .undef, .undef, .undef, .undef, .undef, .undef, .undef, .undef, .undef, .undef, .undef, .undef, .undef, .undef, .undef, .undef, .undef, .undef, .undef, .undef, .undef, .undef, .undef, .undef, .undef, .undef, .undef, .undef, .undef, .undef, .undef, .undef, .undef, .undef, .undef, .undef, .undef, .undef, .undef, .undef, .undef, .undef, .undef, .undef, .undef, .undef, .undef, .undef, .undef, .undef, .undef, .undef, .undef, .undef, .undef, .undef, .undef, .undef, .undef, .undef, .undef, .undef, .undef, .undef, .undef, .undef, .undef, .undef, .undef, .undef, .undef, .undef, .undef, .undef, .undef, .undef, .undef, .undef, .undef, .undef, .undef, .undef, .undef, .undef, .undef, .undef, .undef, .undef, .undef, .undef, .undef, .undef, .undef, .undef, .undef, .undef, .undef, .undef, .undef, .undef, .undef, .undef, .undef, .undef, .undef, .undef, .undef, .undef, .undef, .undef, .undef, .undef, .undef, .undef, .undef, .undef, .undef, .undef, .undef, .undef, .undef, .undef, .undef, .undef, .undef, .undef, .undef, .undef, .undef, .undef, .undef], [(6, .var 26 (.d 26 a6) true), (7, .var 26 (.d 26 b7) true), (8, .var 26 (.d 26 c8) true), (9, .var 26 (.d 26 d9) true)], [6, 7, 8, 9], [], []⟩
   (retK Try.prog md (md 6) law16_FindBlind_ps law16_FindBlind_rs law16_FindBlind_ts)
noncomputable def law16_FindBlind_j11 (n : Nat) (in4 : Bool) (o5 : Int) (a6 : D) (b7 : D) (c8 : D) (d9 : D) : Tree :=
  ev Try.prog md n law16_FindBlind_orc (cAt (bodyOf Try.prog 6) [1, 1, 1, 1, 1, 1, 1, 1]) ⟨[.undef, .undef, .undef, .undef, .b in4, .i .u64 o5, .ptr 6 [], .ptr 7 [], .ptr 8 [], .ptr 9 [], .undef, .undef, .undef, .undef, .undef, .undef, .undef, .undef, .undef, .undef, .undef, .undef, .undef, .undef, .undef, .undef, .undef, .undef, .undef, .undef, .undef, .undef, .undef, .undef, .undef, .undef, .undef, .undef, .undef, .undef, .undef, .undef, .undef, .undef, .undef, .undef, .undef, .undef, .undef, .undef, .undef, .undef, .undef, .undef, .undef, .undef, .undef, .undef, .undef, .undef, .undef, .undef, .undef, .undef, .undef, .undef, .undef, .undef, .undef, .undef, .undef, .undef, .undef, .undef, .undef, .undef, .undef, .undef, .undef, .undef, .undef, .undef, .undef, .undef, .undef, .undef, .undef, .undef, .undef, .undef, .undef, .undef, .undef, .undef, .undef, .undef, .undef, .undef, .undef, .undef, .undef, .undef, .undef, .undef, .undef, .undef, .undef, .undef, .undef, .undef, .undef, .undef, .undef, .undef, .undef, .undef, .undef, .undef, .undef, .undef, .undef, .undef, .undef, .undef, .undef, .undef, .undef, .undef, .undef, .undef, .undef, .undef, .undef, .undef, .undef, .undef, .undef, .undef, .undef, .undef, .undef, .undef, .undef, .undef, .undef, .undef, .undef, .undef, .undef, .undef, .undef, .undef, .undef, .undef, .undef, .undef, .undef, .undef, .undef, .undef, .undef, .undef, .undef, .undef, .undef, .undef, .undef, .undef, .undef, .undef, .undef, .undef, .undef, .undef, .undef, .undef, .undef, .undef, .undef, .undef, .undef, .undef, .undef, .undef, .undef, .undef, .undef, .undef, .undef, .undef, .undef, .undef, .undef, .undef, .undef, .undef, .undef, .undef, .undef, .undef, .undef, .undef], [(6, .var 26 (.d 26 a6) true), (7, .var 26 (.d 26 b7) true), (8, .var 26 (.d 26 c8) true), (9, .var 26 (.d 26 d9) true)], [6, 7, 8, 9], [], []⟩
   (retK Try.prog md (md 6) law16_FindBlind_ps law16_FindBlind_rs law16_FindBlind_ts)
noncomputable def law16_FindBlind_j7 (n : Nat) (in4 : Bool) (o5 : Int) (a6 : D) (b7 : D) (c8 : D) (d9 : D) : Tree :=
  ev Try.prog md n law16_FindBlind_orc (cAt (bodyOf Try.prog 6) [1, 1, 1, 1, 1]) ⟨[.undef, .undef, .undef, .undef, .b in4, .i .u64 o5, .ptr 6 [], .ptr 7 [], .ptr 8 [], .ptr 9 [], .undef, .undef, .undef, .undef, .undef, .undef, .undef, .undef, .undef, .undef, .undef, .undef, .undef, .undef, .undef, .undef, .undef, .undef, .undef, .undef, .undef, .undef, .undef, .undef, .undef, .undef, .undef, .undef, .undef, .undef, .undef, .undef, .undef, .undef, .undef, .undef, .undef, .undef, .undef, .undef, .undef, .undef, .undef, .undef, .undef, .undef, .undef, .undef, .undef, .undef, .undef, .undef, .undef, .undef, .undef, .undef, .undef, .undef, .undef, .undef, .undef, .undef, .undef, .undef, .undef, .undef, .undef, .undef, .undef, .undef, .undef, .undef, .undef, .undef, .undef, .undef, .undef, .undef, .undef, .undef, .undef, .undef, .undef, .undef, .undef, .undef, .undef, .undef, .undef, .undef, .undef, .undef, .undef, .undef, .undef, .undef, .undef, .undef, .undef, .undef, .undef, .undef, .undef, .undef, .undef, .undef, .undef, .undef, .undef, .undef, .undef, .undef, .undef, .undef, .undef, .undef, .undef, .undef, .undef, .undef, .undef, .undef, .undef, .undef, .undef, .undef, .undef, .undef, .undef, .undef, .undef, .undef, .undef, .undef, .undef, .undef, .undef, .undef, .undef, .undef, .undef, .undef, .undef, .undef, .undef, .undef, .undef, .undef, .undef, .undef, .undef, .undef, .undef, .undef, .undef, .undef, .undef, .undef, .undef, .undef, .undef, .undef, .undef, .undef, .undef, .undef, .undef, .undef, .undef, .undef, .undef, .undef, .undef, .undef, .undef, .undef, .undef, .undef, .undef, .undef, .undef, .undef, .undef, .undef, .undef, .undef, .undef, .undef, .undef, .undef, .undef, .undef], [(6, .var 26 (.d 26 a6) true), (7, .var 26 (.d 26 b7) true), (8, .var 26 (.d 26 c8) true), (9, .var 26 (.d 26 d9) true)], [6, 7, 8, 9], [], []⟩
   (retK Try.prog md (md 6) law16_FindBlind_ps law16_FindBlind_rs law16_FindBlind_ts)
noncomputable def law16_FindBlind_j3 (n : Nat) (in4 : Bool) (o5 : Int) (a6 : D) (b7 : D) (c8 : D) (d9 : D) : Tree :=
  ev Try.prog md n law16_FindBlind_orc (cAt (bodyOf Try.prog 6) [1, 1]) ⟨[.undef, .undef, .undef, .undef, .b in4, .i .u64 o5, .ptr 6 [], .ptr 7 [], .ptr 8 [], .ptr 9 [], .undef, .undef, .undef, .undef, .undef, .undef, .undef, .undef, .undef, .undef, .undef, .undef, .undef, .undef, .undef, .undef, .undef, .undef, .undef, .undef, .undef, .undef, .undef, .undef, .undef, .undef, .undef, .undef, .undef, .undef, .undef, .undef, .undef, .undef, .undef, .undef, .undef, .undef, .undef, .undef, .undef, .undef, .undef, .undef, .undef, .undef, .undef, .undef, .undef, .undef, .undef, .undef, .undef, .undef, .undef, .undef, .undef, .undef, .undef, .undef, .undef, .undef, .undef, .undef, .undef, .undef, .undef, .undef, .undef, .undef, .undef, .undef, .undef, .undef, .undef, .undef, .undef, .undef, .undef, .undef, .undef, .undef, .undef, .undef, .undef, .undef, .undef, .undef, .undef, .undef, .undef, .undef, .undef, .undef, .undef, .undef, .undef, .undef, .undef, .undef, .undef, .undef, .undef, .undef, .undef, .undef, .undef, .undef, .undef, .undef, .undef, .undef, .undef, .undef, .undef, .undef, .undef, .undef, .undef, .undef, .undef, .undef, .undef, .undef, .undef, .undef, .undef, .undef, .undef, .undef, .undef, .undef, .undef, .undef, .undef, .undef, .undef, .undef, .undef, .undef, .undef, .undef, .undef, .undef, .undef, .undef, .undef, .undef, .undef, .undef, .undef, .undef, .undef, .undef, .undef, .undef, .undef, .undef, .undef, .undef, .undef, .undef, .undef, .undef, .undef, .undef, .undef, .undef, .undef, .undef, .undef, .undef, .undef, .undef, .undef, .undef, .undef, .undef, .undef, .undef, .undef, .undef, .undef, .undef, .undef, .undef, .undef, .undef, .undef, .undef, .undef, .undef], [(6, .var 26 (.d 26 a6) true), (7, .var 26 (.d 26 b7) true), (8, .var 26 (.d 26 c8) true), (9, .var 26 (.d 26 d9) true)], [6, 7, 8, 9], [], []⟩
   (retK Try.prog md (md 6) law16_FindBlind_ps law16_FindBlind_rs law16_FindBlind_ts)
theorem law16_FindBlind_j19_eq (n : Nat) (o5 : Int) (a6 : D) (b7 : D) : law16_FindBlind_j19 n o5 a6 b7 =
 .call 25 [] [a6] fun yy28 =>
 .call 25 [] [b7] fun yy29 =>
 .br (((yy28.getD 1 D.nil).toInt) != 0) (.call 11 [] [] fun yy30 =>
 .ret [D.bool ((yy30.getD 0 D.nil).toBool)])
 (.br (((yy29.getD 1 D.nil).toInt) != 0) (.call 11 [] [] fun yy31 =>
 .ret [D.bool ((yy31.getD 0 D.nil).toBool)])
 (.call 27 [] [yy28.getD 0 D.nil, yy29.getD 0 D.nil, D.int o5] fun yy32 =>
 .br ((yy32.getD 0 D.nil).toBool) (.call 11 [] [] fun yy33 =>
 .ret [D.bool ((yy33.getD 0 D.nil).toBool)])
 (.ret [D.bool false]))) := by kernel_rfl
theorem law16_FindBlind_j15_eq (n : Nat) (o5 : Int) (a6 : D) (b7 : D) (c8 : D) (d9 : D) : law16_FindBlind_j15 n o5 a6 b7 c8 d9 =
 .call 22 [] [a6, c8] fun yy25 =>
 .call 22 [] [b7, d9] fun yy26 =>
 .br (((yy25.getD 1 D.nil).toInt) == 0) (.br (((yy26.getD 1 D.nil).toInt) == 0) (.call 27 [] [yy25.getD 0 D.nil, yy26.getD 0 D.nil, D.int o5] fun yy27 =>
 .br (!((yy27.getD 0 D.nil).toBool)) (.ret [D.bool false])
 (law16_FindBlind_j19 n o5 a6 b7))
 (law16_FindBlind_j19 n o5 a6 b7))
 (law16_FindBlind_j19 n o5 a6 b7) := by kernel_rfl
theorem law16_FindBlind_j11_eq (n : Nat) (in4 : Bool) (o5 : Int) (a6 : D) (b7 : D) (c8 : D) (d9 : D) : law16_FindBlind_j11 n in4 o5 a6 b7 c8 d9 =
 .call 20 [] [a6, c8, D.bool in4] fun yy22 =>
 .call 20 [] [b7, d9, D.bool in4] fun yy23 =>
 .br (((yy22.getD 1 D.nil).toInt) == 0) (.br (((yy23.getD 1 D.nil).toInt) == 0) (.call 27 [] [yy22.getD 0 D.nil, yy23.getD 0 D.nil, D.int o5] fun yy24 =>
 .br (!((yy24.getD 0 D.nil).toBool)) (.ret [D.bool false])
 (law16_FindBlind_j15 n o5 a6 b7 c8 d9))
 (law16_FindBlind_j15 n o5 a6 b7 c8 d9))
 (law16_FindBlind_j15 n o5 a6 b7 c8 d9) := by kernel_rfl
theorem law16_FindBlind_j7_eq (n : Nat) (in4 : Bool) (o5 : Int) (a6 : D) (b7 : D) (c8 : D) (d9 : D) : law16_FindBlind_j7 n in4 o5 a6 b7 c8 d9 =
 .call 18 [] [a6] fun yy19 =>
 .call 18 [] [b7] fun yy20 =>
 .br (((yy19.getD 1 D.nil).toInt) == 0) (.br (((yy20.getD 1 D.nil).toInt) == 0) (.call 27 [] [yy19.getD 0 D.nil, yy20.getD 0 D.nil, D.int o5] fun yy21 =>
 .br (!((yy21.getD 0 D.nil).toBool)) (.ret [D.bool false])
 (law16_FindBlind_j11 n in4 o5 a6 b7 c8 d9))
 (law16_FindBlind_j11 n in4 o5 a6 b7 c8 d9))
 (law16_FindBlind_j11 n in4 o5 a6 b7 c8 d9) := by kernel_rfl
theorem law16_FindBlind_j3_eq (n : Nat) (in4 : Bool) (o5 : Int) (a6 : D) (b7 : D) (c8 : D) (d9 : D) : law16_FindBlind_j3 n in4 o5 a6 b7 c8 d9 =
 .call 12 [] [a6, c8] fun yy13 =>
 .call 12 [] [b7, d9] fun yy14 =>
 .br (((yy13.getD 1 D.nil).toInt) == 0) (.br (((yy14.getD 1 D.nil).toInt) == 0) (.call 27 [] [yy13.getD 0 D.nil, yy14.getD 0 D.nil, D.int o5] fun yy15 =>
 .br (!((yy15.getD 0 D.nil).toBool)) (.ret [D.bool false])
 (.call 16 [] [a6, c8] fun yy16 =>
 .call 16 [] [b7, d9] fun yy17 =>
 .call 27 [] [yy16.getD 0 D.nil, yy17.getD 0 D.nil, D.int o5] fun yy18 =>
 .br (!((yy18.getD 0 D.nil).toBool)) (.ret [D.bool false])
 (law16_FindBlind_j7 n in4 o5 a6 b7 c8 d9)))
 (.call 16 [] [a6, c8] fun yy34 =>
 .call 16 [] [b7, d9] fun yy35 =>
 .call 27 [] [yy34.getD 0 D.nil, yy35.getD 0 D.nil, D.int o5] fun yy36 =>
 .br (!((yy36.getD 0 D.nil).toBool)) (.ret [D.bool false])
 (law16_FindBlind_j7 n in4 o5 a6 b7 c8 d9)))
 (.call 16 [] [a6, c8] fun yy37 =>
 .call 16 [] [b7, d9] fun yy38 =>
 .call 27 [] [yy37.getD 0 D.nil, yy38.getD 0 D.nil, D.int o5] fun yy39 =>
 .br (!((yy39.getD 0 D.nil).toBool)) (.ret [D.bool false])
 (law16_FindBlind_j7 n in4 o5 a6 b7 c8 d9)) := by kernel_rfl
theorem law16_FindBlind_tree (n : Nat) (a0 : D) (b1 : D) (c2 : D) (d3 : D) (in4 : D) (o5 : D) : evFun Try.prog md law16_FindBlind_orc n 6 [] [a0, b1, c2, d3, in4, o5] =
 .call 10 [] [a0] fun yy1 =>
 .br (!((yy1.getD 0 D.nil).toBool)) (.call 11 [] [] fun yy2 =>
 .ret [D.bool ((yy2.getD 0 D.nil).toBool)])
 (.call 10 [] [b1] fun yy3 =>
 .br (!((yy3.getD 0 D.nil).toBool)) (.call 11 [] [] fun yy4 =>
 .ret [D.bool ((yy4.getD 0 D.nil).toBool)])
 (.call 10 [] [c2] fun yy5 =>
 .br (!((yy5.getD 0 D.nil).toBool)) (.call 11 [] [] fun yy6 =>
 .ret [D.bool ((yy6.getD 0 D.nil).toBool)])
 (.call 10 [] [d3] fun yy7 =>
 .br (!((yy7.getD 0 D.nil).toBool)) (.call 11 [] [] fun yy8 =>
 .ret [D.bool ((yy8.getD 0 D.nil).toBool)])
 (.call 27 [] [a0, b1, D.int o5.toInt] fun yy9 =>
 .br (!((yy9.getD 0 D.nil).toBool)) (.call 11 [] [] fun yy10 =>
 .ret [D.bool ((yy10.getD 0 D.nil).toBool)])
 (.call 27 [] [c2, d3, D.int o5.toInt] fun yy11 =>
 .br (!((yy11.getD 0 D.nil).toBool)) (.call 11 [] [] fun yy12 =>
 .ret [D.bool ((yy12.getD 0 D.nil).toBool)])
 (law16_FindBlind_j3 n in4.toBool o5.toInt a0 b1 c2 d3)))))) := by kernel_rfl

/-! scrim/scrimlaw16.FindWhole -/
def law16_FindWhole_orc : List (Nat × Orc) := [(14, ⟨[(2, none), (5, none), (7, none), (13, none), (14, none), (16, none)], [(2, true), (5, true), (7, true), (13, true), (14, true)], []⟩)]
def law16_FindWhole_ps : List Nat := [26, 26]
def law16_FindWhole_rs : List ResultVar := [.tmp 4]
def law16_FindWhole_ts : List Nat := [4]
noncomputable def law16_FindWhole_l14 (n m14 : Nat) (k16 : Int) (a2 : D) (x5 : D) (y7 : D) (mm13 : D) (i14 : D) : Tree :=
  evLoop Try.prog md (ev Try.prog md n law16_FindWhole_orc (cAt (bodyOf Try.prog 8) [1, 1, 1, 1, 1, 1, 1, 1, 1, 1, 0, 1, 0, 0])) (orcAt law16_FindWhole_orc 14) m14 ⟨[.undef, .undef, .ptr 2 [], .undef, .undef, .ptr 5 [], .undef, .ptr 7 [], .undef, .undef, .undef, .undef, .undef, .ptr 13 [], .ptr 14 [], .undef, .i .i64 k16, .undef, .undef, .undef, .undef, .undef, .undef, .undef, .undef, .undef, .undef, .undef, .undef, .undef, .undef, .undef, .undef, .undef, .undef, .undef, .undef, .undef, .undef, .undef, .undef, .undef, .undef, .undef, .undef, .undef, .undef, .undef, .undef, .undef, .undef, .undef, .undef, .undef, .undef, .undef, .undef, .undef, .undef, .undef, .undef, .undef, .undef, .undef, .undef, .undef, .undef, .undef, .undef, .undef, .undef, .undef, .undef, .undef, .undef, .undef, .undef, .undef, .undef, .undef, .undef, .undef, .undef, .undef, .undef, .undef, .undef, .undef, .undef, .undef, .undef, .undef, .undef, .undef, .undef, .undef, .undef, .undef, .undef, .undef, .undef, .undef, .undef, .undef, .undef, .undef, .undef, .undef, .undef, .undef, .undef, .undef, .undef, .undef, .undef, .undef, .undef, .undef, .undef, .undef, .undef, .undef, .undef, .undef, .undef, .undef, .undef, .undef, .undef, .undef, .undef, .undef, .undef, .undef, .undef, .undef, .undef, .undef, .undef, .undef, .undef, .undef, .undef, .undef, .undef, .undef, .undef, .undef, .undef, .undef, .undef, .undef, .undef, .undef, .undef, .undef, .undef, .undef, .undef], [(2, .var 26 (.d 26 a2) true), (5, .var 26 (.d 26 x5) true), (7, .var 26 (.d 26 y7) true), (13, .var 26 (.d 26 mm13) true), (14, .var 26 (.d 26 i14) true)], [2, 5, 7, 13, 14], [], []⟩
   (blockK 0 (seqK (joinE Try.prog md (joinAt law16_FindWhole_orc (cAt (bodyOf Try.prog 8) [1, 1, 1, 1, 1, 1, 1, 1, 1, 1, 1])) (ev Try.prog md n law16_FindWhole_orc (cAt (bodyOf Try.prog 8) [1, 1, 1, 1, 1, 1, 1, 1, 1, 1, 1]))) (retK Try.prog md (md 8) law16_FindWhole_ps law16_FindWhole_rs law16_FindWhole_ts)))
theorem law16_FindWhole_l14_succ (n m14 : Nat) (k16 : Int) (a2 : D) (x5 : D) (y7 : D) (mm13 : D) (i14 : D) : law16_FindWhole_l14 n (m14 + 1) k16 a2 x5 y7 mm13 i14 =
 .br (decide (k16 < (((mm13.fld 2).els).length : Int))) (.br (decide (0 ≤ k16)) (.br (decide (k16 < (((i14.fld 2).els).length : Int))) (.call 34 [] [((i14.fld 2).els).getD (Int.toNat k16) D.nil] fun yy13 =>
 .call 35 [] [D.int (IntKind.wrap .i64 ((((a2.fld 2).els).length : Int) + 1)), D.int 0] fun yy14 =>
 .call 33 [] [yy13.getD 0 D.nil, yy14.getD 0 D.nil] fun yy15 =>
 .br (decide (0 ≤ k16)) (.br (decide (k16 < (((mm13.fld 2).els).length : Int))) (.call 34 [] [((mm13.fld 2).els).getD (Int.toNat k16) D.nil] fun yy16 =>
 .call 35 [] [D.int 1, D.int 0] fun yy17 =>
 .call 33 [] [yy16.getD 0 D.nil, yy17.getD 0 D.nil] fun yy18 =>
 .br (((yy15.getD 0 D.nil).toBool) == ((yy18.getD 0 D.nil).toBool)) (.ret [D.bool false])
 (law16_FindWhole_l14 n m14 (IntKind.wrap .i64 (k16 + 1)) a2 x5 y7 mm13 i14)) .fail) .fail) .fail) .fail)
 (.call 36 [] [x5, y7, D.bool false] fun yy19 =>
 .br (((yy19.getD 1 D.nil).toInt) == 0) (.br (((((yy19.getD 0 D.nil).fld 2).els).length : Int) == (((a2.fld 2).els).length : Int)) (.call 11 [] [] fun yy20 =>
 .ret [D.bool ((yy20.getD 0 D.nil).toBool)])
 (.ret [D.bool false]))
 (.ret [D.bool false])) := by kernel_rfl
theorem law16_FindWhole_tree (n : Nat) (a0 : D) (b1 : D) : evFun Try.prog md law16_FindWhole_orc n 8 [] [a0, b1] =
 .call 10 [] [a0] fun yy1 =>
 .br (!((yy1.getD 0 D.nil).toBool)) (.call 11 [] [] fun yy2 =>
 .ret [D.bool ((yy2.getD 0 D.nil).toBool)])
 (.call 10 [] [b1] fun yy3 =>
 .br (!((yy3.getD 0 D.nil).toBool)) (.call 11 [] [] fun yy4 =>
 .ret [D.bool ((yy4.getD 0 D.nil).toBool)])
 (.br ((((a0.fld 1).els).length : Int) != 1) (.call 11 [] [] fun yy5 =>
 .ret [D.bool ((yy5.getD 0 D.nil).toBool)])
 (.call 20 [] [a0, b1, D.bool true] fun yy6 =>
 .call 20 [] [a0, b1, D.bool false] fun yy7 =>
 .call 18 [] [a0] fun yy8 =>
 .call 18 [] [yy8.getD 0 D.nil] fun yy9 =>
 .br (((yy6.getD 1 D.nil).toInt) != 0) (.ret [D.bool false])
 (.br (((yy7.getD 1 D.nil).toInt) != 0) (.ret [D.bool false])
 (.br (((yy8.getD 1 D.nil).toInt) != 0) (.ret [D.bool false])
 (.br (((yy9.getD 1 D.nil).toInt) != 0) (.ret [D.bool false])
 (.br ((IntKind.wrap .i64 (((((yy6.getD 0 D.nil).fld 2).els).length : Int) + ((((yy7.getD 0 D.nil).fld 2).els).length : Int))) != (((a0.fld 2).els).length : Int)) (.ret [D.bool false])
 (.call 33 [] [yy8.getD 0 D.nil, yy9.getD 0 D.nil] fun yy10 =>
 .br (!((yy10.getD 0 D.nil).toBool)) (.ret [D.bool false])
 (.call 16 [] [b1, a0] fun yy11 =>
 .call 12 [] [a0, b1] fun yy12 =>
 .br (((yy12.getD 1 D.nil).toInt) != 0) (.ret [D.bool false])
 (.br (((((yy11.getD 0 D.nil).fld 2).els).length : Int) != ((((yy12.getD 0 D.nil).fld 2).els).length : Int)) (.ret [D.bool false])
 (law16_FindWhole_l14 n n 0 a0 (yy6.getD 0 D.nil) (yy7.getD 0 D.nil) (yy11.getD 0 D.nil) (yy12.getD 0 D.nil)))))))))))) := by kernel_rfl

/-! scrim/scrimlaw16.light -/
def law16_light_orc : List (Nat × Orc) := []
theorem law16_light_tree (n : Nat) (a0 : D) : evFun Try.prog md law16_light_orc n 10 [] [a0] =
 .call 37 [] [a0] fun yy1 =>
 .br ((yy1.getD 0 D.nil).toBool) (.ret [D.bool (decide ((((a0.fld 2).els).length : Int) ≤ 100))])
 (.ret [D.bool false]) := by kernel_rfl

/-! scrim/scrimlaw16.awake -/
def law16_awake_orc : List (Nat × Orc) := []
theorem law16_awake_tree (n : Nat)  : evFun Try.prog md law16_awake_orc n 11 [] [] =
 .call 38 [] [D.sl [D.int 7, D.int 5, D.int 5], D.int 0] fun yy1 =>
 .call 38 [] [D.sl [D.int 5, D.int 9], D.int 0] fun yy2 =>
 .call 12 [] [yy1.getD 0 D.nil, yy2.getD 0 D.nil] fun yy3 =>
 .call 18 [] [yy1.getD 0 D.nil] fun yy4 =>
 .br (((yy3.getD 1 D.nil).toInt) == 0) (.br (((yy4.getD 1 D.nil).toInt) == 0) (.call 38 [] [D.sl [D.int 2, D.int 4], D.int 0] fun yy5 =>
 .call 15 [] [yy3.getD 0 D.nil, yy5.getD 0 D.nil] fun yy6 =>
 .br ((yy6.getD 0 D.nil).toBool) (.call 38 [] [D.sl [D.int 7, D.int 5], D.int 0] fun yy7 =>
 .call 15 [] [yy4.getD 0 D.nil, yy7.getD 0 D.nil] fun yy8 =>
 .ret [D.bool ((yy8.getD 0 D.nil).toBool)])
 (.ret [D.bool false]))
 (.ret [D.bool false]))
 (.ret [D.bool false]) := by kernel_rfl

end Go.Proofs.Ytcgfpibkajagjaa
set_option maxRecDepth 100000
namespace Go.Proofs.Ytcgfpibkajagjaa

theorem sml_vec {l : List Int} {s : Lab} (hl : l.length ≤ 100000) (h : ∀ x ∈ l, inR x) : Sml 1 (vecA l s) := Sml.of (by simp [vecA]) (by simp [vecA]; omega) (fun x hx => by simp [vecA] at hx; subst hx; exact inR_small (by omega) (by omega)) (fun c hc => by
  simp only [vecA, Arr.cells_mk, List.mem_map] at hc
  obtain ⟨x, hx, rfl⟩ := hc
  exact smlC_int (h x hx) 0)
theorem intC_inj {x y : Int} (h : intC x = intC y) : x = y := by
  have h1 : ofZ x = ofZ y := by
    have := congrArg (fun c : Cell => c.n) h
    exact this
  rw [← numT_ofZ x, h1, numT_ofZ]
theorem sameB_int (x y : Int) : sameB (intC x) (intC y) = decide (x = y) := by
  have e : ∀ z, relC (fun _ => 0) (intC z) = intC z := fun z => by rw [relC_eq]; rfl
  by_cases h : x = y
  · subst h; rw [sameB_self]; simp
  · cases h2 : sameB (intC x) (intC y) with
    | false => simp [h]
    | true =>
      have := sameB_iff.1 h2
      rw [e, e] at this
      exact absurd (intC_inj this) h
def iplS : List Int → Int → Nat → Int
  | [], _, _ => -1
  | x :: xs, c, k => if x = c then (k : Int) else iplS xs c (k + 1)
theorem placeS_int : ∀ (l : List Int) (c : Int) (k : Nat), placeS (l.map intC) (intC c) k = iplS l c k
  | [], _, _ => rfl
  | x :: xs, c, k => by
    simp only [List.map_cons, placeS, iplS, sameB_int, decide_eq_true_eq, placeS_int xs c (k + 1)]
theorem index_ints {l m : List Int} : indexA (vecA l 0) (vecA m 0) = (.mk (bothS (vecA l 0) (vecA m 0)) [(m.length : Int)] (m.map (fun c => intC (if iplS l c 0 < 0 then (l.length : Int) + 1 else iplS l c 0 + 1))), 0) := by
  unfold indexA
  rw [if_pos (show (vecA l 0).shape.length = 1 from rfl)]
  simp only [vecA, Arr.cells_mk, Arr.shape_mk, List.map_map]
  congr 3
  funext c
  simp only [Function.comp, idxC, placeS_int, List.length_map]
def unqS (l : List Int) : List Int → Nat → List Int
  | [], _ => []
  | c :: cs, k => if iplS (l.take k) c 0 < 0 then c :: unqS l cs (k + 1) else unqS l cs (k + 1)
theorem uniq_ints (l : List Int) : ∀ (cs : List Int) (k : Nat), uniqL (l.map intC) (cs.map intC) k = (unqS l cs k).map intC
  | [], _ => rfl
  | c :: cs, k => by
    simp only [List.map_cons, uniqL, unqS, ← List.map_take, placeS_int, uniq_ints l cs (k + 1)]
    split <;> rfl
theorem uniqA_ints {l : List Int} : uniqA (vecA l 0) = (vecA (unqS l l 0) 0, 0) := by
  unfold uniqA
  rw [if_neg (by simp [vecA]), totA_vec]
  simp only [vecA, Arr.cells_mk, uniq_ints, lstA, List.length_map]
theorem both_ints (l m : List Int) : bothS (vecA l 0) (vecA m 0) = 0 := by unfold bothS; rw [totA_vec, totA_vec]; simp

theorem law16_light_sp (a : Arr) (ha : Fits a) : Sp 10 [dA a] [.bool (lightA a)] := by
  refine sound_ 0 (law16_light_tree _ _) (wp_call (ref08_Good_sp a ha) ?_)
  unfold lightA
  simp only [dA_0, dA_1, dA_2, dC_0, dC_1, dC_2, dC_3, dC_4, dN_0, dN_1, dN_2, els_sl, els_dI, els_dL, List.length_map, Int.toNat_natCast, toInt_int, toInt_dB, toBool_bool, getD_c0, getD_c1, int_beq, int_bne, not_dec, dInt_dB, Int.toNat_zero]
  refine wp_br (fun h => wp_ret (by rw [h]; rfl)) (fun h => wp_ret (by rw [h]; rfl))
theorem law16_awake_sp : Sp 11 [] [.bool true] := by
  have sv : ∀ l : List Int, l.length ≤ 100 → l.all (fun x => decide (-100000 ≤ x ∧ x ≤ 100000)) = true → Sml 1 (vecA l 0) := fun l hl h => sml_vec (by omega) (aw_in l h)
  have t1 := find_Index_sp finder_ok (vecA [7, 5, 5] 0) (vecA [5, 9] 0) (sv _ (by decide) (by decide)) (sv _ (by decide) (by decide)) (by decide) (by decide)
  have t2 := find_Unique_sp finder_ok (vecA [7, 5, 5] 0) (sv _ (by decide) (by decide)) (by decide)
  rw [show indexA (vecA [7, 5, 5] 0) (vecA [5, 9] 0) = (vecA [2, 4] 0, 0) from index_ints.trans (by rw [both_ints]; rfl)] at t1
  rw [show uniqA (vecA [7, 5, 5] 0) = (vecA [7, 5] 0, 0) from uniqA_ints.trans rfl] at t2
  refine sound_ 0 (law16_awake_tree _) ?_
  refine wp_call (ref11_Vector_sp [7, 5, 5] 0 (by decide) (aw_in _ (by decide))) (wp_call (ref11_Vector_sp [5, 9] 0 (by decide) (aw_in _ (by decide))) (wp_call t1 (wp_call t2 ?_)))
  refine wp_tt rfl (wp_tt rfl ?_)
  refine wp_call (ref11_Vector_sp [2, 4] 0 (by decide) (aw_in _ (by decide))) (wp_call (same_vec_sp [2, 4] _ (by decide) (by decide) rfl) (wp_tt rfl ?_))
  exact wp_call (ref11_Vector_sp [7, 5] 0 (by decide) (aw_in _ (by decide))) (wp_call (same_vec_sp [7, 5] _ (by decide) (by decide) rfl) (wp_ret rfl))
theorem awake16 : Tw (.call 11 [] [] fun y => .ret [D.bool ((y.getD 0 D.nil).toBool)]) [.bool true] := wp_call law16_awake_sp (wp_ret rfl)

/-! What is found is small. -/
theorem sml_ints {α : Type} {s : Lab} {sh : List Int} {l : List α} {f : α → Int} (h1 : sh.length ≤ 1048576) (h3 : ∀ x ∈ sh, inR x) (hl : l.length ≤ 2048) (hf : ∀ x ∈ l, -100000 ≤ f x ∧ f x ≤ 100000) : Sml 1 (.mk s sh (l.map (fun c => intC (f c)))) := by
  refine Sml.of h1 (by simp only [Arr.cells_mk, List.length_map]; omega) h3 (fun c hc => ?_)
  simp only [Arr.cells_mk, List.mem_map] at hc
  obtain ⟨x, hx, rfl⟩ := hc
  exact smlC_int (inR_small (hf x hx).1 (hf x hx).2) 0
theorem index_sml {d : Nat} {a b : Arr} (hb : Sml (d + 1) b) (la : a.cells.length ≤ 2048) (lb : b.cells.length ≤ 2048) (h0 : (indexA a b).2 = 0) : Sml 1 (indexA a b).1 := by
  unfold indexA at h0 ⊢
  split
  · exact sml_ints hb.1 hb.2.2.1 lb (fun c _ => by have := placeS_in (c := c) la; split <;> omega)
  · rename_i h; rw [if_neg h] at h0; cases h0
theorem index_fits {d : Nat} {a b : Arr} (hb : Sml (d + 1) b) (la : a.cells.length ≤ 2048) (lb : b.cells.length ≤ 2048) : Fits (indexA a b).1 := by
  by_cases h0 : (indexA a b).2 = 0
  · exact (index_sml hb la lb h0).fits
  · unfold indexA at h0 ⊢
    split
    · rename_i h; rw [if_pos h] at h0; exact absurd rfl h0
    · exact fits_none
theorem member_sml {d : Nat} {a b : Arr} (ha : Sml (d + 1) a) (la : a.cells.length ≤ 2048) : Sml 1 (memberA a b) := sml_ints ha.1 ha.2.2.1 la (fun c _ => by split <;> omega)
theorem uniq_sml {d : Nat} {a : Arr} (ha : Sml (d + 1) a) (la : a.cells.length ≤ 2048) (h0 : (uniqA a).2 = 0) : Sml (d + 1) (uniqA a).1 := by
  unfold uniqA at h0 ⊢
  split
  · rename_i h; rw [if_pos h] at h0; cases h0
  · exact smlC_vec (fun c hc => ha.cell c (uniqL_sub c hc)) (by have := @uniqL_len a.cells a.cells 0; omega)
theorem those_sml {d : Nat} {a b : Arr} {i : Bool} (ha : Sml (d + 1) a) (la : a.cells.length ≤ 2048) (h0 : (thoseA a b i).2 = 0) : Sml (d + 1) (thoseA a b i).1 := by
  unfold thoseA at h0 ⊢
  split
  · rename_i h; rw [if_pos h] at h0; cases h0
  · exact smlC_vec (fun c hc => ha.cell c (thoseL_sub c hc)) (by have := @thoseL_len a.cells b.cells i; omega)
theorem union_sml {d : Nat} {a b : Arr} (ha : Sml (d + 1) a) (hb : Sml (d + 1) b) (h0 : (unionA a b).2 = 0) : Sml (d + 1) (unionA a b).1 := by
  unfold unionA at h0 ⊢
  split
  · rename_i h; rw [if_pos h] at h0; cases h0
  · rename_i h1
    rw [if_neg h1] at h0
    split
    · rename_i h; rw [if_pos h] at h0; cases h0
    · rename_i h2
      rw [if_neg h2] at h0
      split
      · rename_i h; rw [if_pos h] at h0; cases h0
      · rename_i h3
        refine smlC_vec (fun c hc => ?_) (by simp only [List.length_append]; omega)
        rcases List.mem_append.1 hc with hc | hc
        · exact ha.cell c hc
        · exact hb.cell c (thoseL_sub c hc)
theorem iota_cases (n : Arr) : (iotaA n).1 = .none ∧ (iotaA n).2 ≠ 0 ∨ ∃ k : Nat, k ≤ 2048 ∧ iotaA n = (vecA (upTo k) (totA n), 0) := by
  unfold iotaA
  split
  · split
    · rename_i k hk
      split
      · exact .inl ⟨rfl, by decide⟩
      · split
        · exact .inl ⟨rfl, by decide⟩
        · exact .inr ⟨k.toNat, by omega, rfl⟩
    · exact .inl ⟨rfl, by decide⟩
  · rename_i h; exact .inl ⟨rfl, h⟩
theorem iota_sml {n : Arr} (h0 : (iotaA n).2 = 0) : Sml 1 (iotaA n).1 := by
  rcases iota_cases n with ⟨_, h⟩ | ⟨k, hk, e⟩
  · exact absurd h0 h
  · rw [e]; exact sml_vec (by rw [upTo_len]; omega) (upTo_in hk)
theorem fits_or {x : Arr} {e : Int} {d : Nat} (h1 : e = 0 → Sml d x) (h2 : e ≠ 0 → x = .none) : Fits x := by
  by_cases h : e = 0
  · exact (h1 h).fits
  · rw [h2 h]; exact fits_none
theorem uniq_none {a : Arr} (h : (uniqA a).2 ≠ 0) : (uniqA a).1 = .none := by
  unfold uniqA at h ⊢; split
  · rfl
  · rename_i g; rw [if_neg g] at h; exact absurd rfl h
theorem those_none {a b : Arr} {i : Bool} (h : (thoseA a b i).2 ≠ 0) : (thoseA a b i).1 = .none := by
  unfold thoseA at h ⊢; split
  · rfl
  · rename_i g; rw [if_neg g] at h; exact absurd rfl h
theorem union_none {a b : Arr} (h : (unionA a b).2 ≠ 0) : (unionA a b).1 = .none := by
  unfold unionA at h ⊢
  split
  · rfl
  · split
    · rfl
    · split
      · rfl
      · rename_i g1 g2 g3; rw [if_neg g1, if_neg g2, if_neg g3] at h; exact absurd rfl h
theorem iota_none {n : Arr} (h : (iotaA n).2 ≠ 0) : (iotaA n).1 = .none := by
  rcases iota_cases n with ⟨h1, _⟩ | ⟨k, hk, e⟩
  · exact h1
  · rw [e] at h; exact absurd rfl h
/-! And right. -/
theorem lst_right {d : Nat} {s : Lab} {l : List Cell} (hl : l.length ≤ 2048) (h : ∀ c ∈ l, rightC d c = true) : rightA d (lstA s l) = true := rightA_of (countS_cases1 hl) h
theorem uniq_right {d : Nat} {a : Arr} (ha : rightA d a = true) (h0 : (uniqA a).2 = 0) : rightA d (uniqA a).1 = true := by
  have la := (rightA_len ha).1
  unfold uniqA at h0 ⊢
  split
  · rename_i h; rw [if_pos h] at h0; cases h0
  · exact lst_right (by have := @uniqL_len a.cells a.cells 0; omega) (fun c hc => (rightA_cells ha).2 c (uniqL_sub c hc))
theorem those_right {d : Nat} {a b : Arr} {i : Bool} (ha : rightA d a = true) (h0 : (thoseA a b i).2 = 0) : rightA d (thoseA a b i).1 = true := by
  have la := (rightA_len ha).1
  unfold thoseA at h0 ⊢
  split
  · rename_i h; rw [if_pos h] at h0; cases h0
  · exact lst_right (by have := @thoseL_len a.cells b.cells i; omega) (fun c hc => (rightA_cells ha).2 c (thoseL_sub c hc))
theorem union_right {d : Nat} {a b : Arr} (ha : rightA d a = true) (hb : rightA d b = true) (h0 : (unionA a b).2 = 0) : rightA d (unionA a b).1 = true := by
  unfold unionA at h0 ⊢
  split
  · rename_i h; rw [if_pos h] at h0; cases h0
  · rename_i h1
    rw [if_neg h1] at h0
    split
    · rename_i h; rw [if_pos h] at h0; cases h0
    · rename_i h2
      rw [if_neg h2] at h0
      split
      · rename_i h; rw [if_pos h] at h0; cases h0
      · rename_i h3
        refine lst_right (by simp only [List.length_append]; omega) (fun c hc => ?_)
        rcases List.mem_append.1 hc with hc | hc
        · exact (rightA_cells ha).2 c hc
        · exact (rightA_cells hb).2 c (thoseL_sub c hc)
theorem iota_right {n : Arr} {d : Nat} (h0 : (iotaA n).2 = 0) : rightA d (iotaA n).1 = true := by
  rcases iota_cases n with ⟨_, h⟩ | ⟨k, hk, e⟩
  · exact absurd h0 h
  · rw [e]
    refine rightA_of (countS_cases1 (by rw [upTo_len]; omega) |>.trans (by simp [vecA])) (fun c hc => ?_)
    simp only [vecA, Arr.cells_mk, List.mem_map] at hc
    obtain ⟨x, hx, rfl⟩ := hc
    exact rightC_int d (upTo_in hk x hx)
theorem twice_sp {x : Arr} {e : Int} (h : Fits x) : Sp 14 [dA x, .int e, dA x, .int e] [.bool true] := by
  have := ref10_Same_sp x x e e h
  rw [eqA_self, decide_eq_true rfl] at this
  exact this
theorem findIndexes_sp (a b : Arr) (ha : Fits a) (hb : Fits b) : Sp 3 [dA a, dA b] [.bool true] := by
  refine sound_ 0 (law16_FindIndexes_tree _ _ _) (wp_call (law16_light_sp a ha) (wp_br (fun _ => awake16) (fun e1 => wp_call (law16_light_sp b hb) (wp_br (fun _ => awake16) (fun e2 => ?_)))))
  obtain ⟨g1, l1⟩ := light_good (a := a) (by simpa using e1)
  obtain ⟨g2, l2⟩ := light_good (a := b) (by simpa using e2)
  have s1 := rightA_sml g1
  have s2 := rightA_sml g2
  refine wp_call (find_Index_sp finder_ok a b s1 s2 (by omega) (by omega)) (wp_call (ref16_Index_sp a b s1 s2 (by omega) (by omega)) ?_)
  refine wp_call (twice_sp (index_fits s2 (by omega) (by omega))) (wp_tt rfl ?_)
  have ss := ref08_Same_sp (memberA a b) (member_sml s1 (by omega)).fits (memberA a b)
  rw [eqA_self] at ss
  exact wp_call (find_Member_sp finder_ok a b s1 s2 (by omega) (by omega)) (wp_call (ref16_Member_sp a b s1 s2 (by omega) (by omega)) (wp_call ss (wp_tt rfl awake16)))
theorem findSets_sp (a b : Arr) (i : Bool) (ha : Fits a) (hb : Fits b) : Sp 4 [dA a, dA b, .bool i] [.bool true] := by
  refine sound_ 0 (law16_FindSets_tree _ _ _ _) (wp_call (law16_light_sp a ha) (wp_br (fun _ => awake16) (fun e1 => wp_call (law16_light_sp b hb) (wp_br (fun _ => awake16) (fun e2 => ?_)))))
  obtain ⟨g1, l1⟩ := light_good (a := a) (by simpa using e1)
  obtain ⟨g2, l2⟩ := light_good (a := b) (by simpa using e2)
  have s1 := rightA_sml g1
  have s2 := rightA_sml g2
  have f1 : Fits (uniqA a).1 := fits_or (uniq_sml s1 (by omega)) uniq_none
  have f2 : Fits (thoseA a b i).1 := fits_or (those_sml s1 (by omega)) those_none
  have f3 : Fits (unionA a b).1 := fits_or (union_sml s1 s2) union_none
  refine wp_call (find_Unique_sp finder_ok a s1 (by omega)) (wp_call (ref16_Unique_sp a s1 (by omega)) ?_)
  refine wp_call (find_Those_sp finder_ok a b i s1 s2 (by omega) (by omega)) (wp_call (ref16_Those_sp a b i s1 s2 (by omega) (by omega)) ?_)
  refine wp_call (find_Union_sp finder_ok a b s1 s2 (by omega) (by omega)) (wp_call (ref16_Union_sp a b s1 s2 (by omega) (by omega)) ?_)
  refine wp_call (twice_sp f1) (wp_tt rfl (wp_call (twice_sp f2) (wp_tt rfl (wp_call (twice_sp f3) (wp_tt rfl ?_)))))
  have r1 := fun h => uniq_right (a := a) g1 h
  have r2 : (uniqA a).2 = 0 → rightA 8 (thoseA a b i).1 = true := fun h => those_right g1 (by
    unfold uniqA at h; unfold thoseA
    split
    · rename_i g; rw [if_pos g] at h; cases h
    · rfl)
  have r3 := fun h => union_right (a := a) (b := b) g1 g2 h
  have p1 := ref08_Right_sp _ f1
  have p2 := ref08_Right_sp _ f2
  have p3 := ref08_Right_sp _ f3
  simp only [getD_c0, getD_c1, toInt_int, int_bne]
  refine wp_decs (fun h1 => wp_decs (fun h2 => awake16) (fun h2 => ?_)) (fun h1 => ?_)
  · rw [r3 (Classical.not_not.1 h2)] at p3
    exact wp_call p3 (wp_tt rfl awake16)
  · rw [r1 (Classical.not_not.1 h1)] at p1
    rw [r2 (Classical.not_not.1 h1)] at p2
    refine wp_call p1 (wp_tt rfl (wp_call p2 (wp_tt rfl (wp_decs (fun h2 => awake16) (fun h2 => ?_)))))
    rw [r3 (Classical.not_not.1 h2)] at p3
    exact wp_call p3 (wp_tt rfl awake16)
theorem findCounts_sp (n : Arr) (hn : Fits n) : Sp 5 [dA n] [.bool true] := by
  refine sound_ 0 (law16_FindCounts_tree _ _) (wp_call (law16_light_sp n hn) (wp_br (fun _ => awake16) (fun e1 => ?_)))
  obtain ⟨g1, l1⟩ := light_good (a := n) (by simpa using e1)
  have f1 : Fits (iotaA n).1 := fits_or iota_sml iota_none
  refine wp_call (find_Iota_sp n hn (by omega) (rightA_top g1)) (wp_call (ref16_Iota_sp n hn (by omega) (rightA_top g1)) (wp_call (twice_sp f1) (wp_tt rfl ?_)))
  have p1 := ref08_Right_sp _ f1
  simp only [getD_c0, getD_c1, toInt_int, int_bne]
  refine wp_decs (fun h2 => awake16) (fun h2 => ?_)
  rw [iota_right (Classical.not_not.1 h2)] at p1
  exact wp_call p1 (wp_tt rfl awake16)
theorem those_split (l o : List Cell) : (thoseL l o true).length + (thoseL l o false).length = l.length := by
  induction l with
  | nil => rfl
  | cons c cs ih =>
    by_cases h : 0 ≤ placeS o c 0
    · rw [thoseL_pos (by simp [h]), thoseL_neg (by simp [h])]; simp only [List.length_cons]; omega
    · rw [thoseL_neg (by simp [h]), thoseL_pos (by simp [h])]; simp only [List.length_cons]; omega
theorem placeS_neg {l : List Cell} {c : Cell} : ∀ {k : Nat}, (placeS l c k < 0 ↔ ∀ x ∈ l, sameB x c = false) := by
  induction l with
  | nil => intro k; simp [placeS]
  | cons x xs ih =>
    intro k
    simp only [placeS, List.forall_mem_cons]
    cases h : sameB x c with
    | true => simp
    | false => simp [ih (k := k + 1)]
/-- None twice. -/
def Once (l : List Cell) : Prop := ∀ k c, l[k]? = some c → ∀ x ∈ l.take k, sameB x c = false
theorem uniqL_once {l : List Cell} (h : Once l) : ∀ (cs : List Cell) (k : Nat), l.drop k = cs → uniqL l cs k = cs
  | [], _, _ => rfl
  | c :: cs, k, hd => by
    obtain ⟨h1, h2, h3⟩ := drop_cons hd
    rw [uniqL, if_pos (placeS_neg.2 (h k c h2)), uniqL_once h cs (k + 1) h3]
theorem sameB_trans {x y z : Cell} (h1 : sameB x y = true) (h2 : sameB y z = true) : sameB x z = true := sameB_iff.2 ((sameB_iff.1 h1).trans (sameB_iff.1 h2))
theorem uniqL_once_of (l : List Cell) : ∀ (cs : List Cell) (k : Nat), l.drop k = cs → (uniqL l cs k).Pairwise (fun x c => sameB x c = false) ∧ ∀ c ∈ uniqL l cs k, ∀ x ∈ l.take k, sameB x c = false
  | [], _, _ => ⟨.nil, by simp [uniqL]⟩
  | c :: cs, k, hd => by
    obtain ⟨h1, h2, h3⟩ := drop_cons hd
    obtain ⟨i1, i2⟩ := uniqL_once_of l cs (k + 1) h3
    have ht : l.take (k + 1) = l.take k ++ [c] := by rw [List.take_add_one, h2]; rfl
    rw [ht] at i2
    rw [uniqL]
    split
    · rename_i hp
      have hp := placeS_neg.1 hp
      refine ⟨List.Pairwise.cons (fun y hy => i2 y hy c (by simp)) i1, fun y hy => ?_⟩
      rcases List.mem_cons.1 hy with rfl | hy
      · exact hp
      · exact fun x hx => i2 y hy x (by simp [hx])
    · exact ⟨i1, fun y hy x hx => i2 y hy x (by simp [hx])⟩
theorem pairwise_once {l : List Cell} (h : l.Pairwise (fun x c => sameB x c = false)) : Once l := by
  intro k c hk x hx
  obtain ⟨i, hi, rfl⟩ := List.mem_iff_getElem.1 hx
  obtain ⟨hk', rfl⟩ := List.getElem?_eq_some_iff.1 hk
  rw [List.length_take] at hi
  rw [List.getElem_take]
  exact List.pairwise_iff_getElem.1 h i k (by omega) hk' (by omega)
theorem uniq_uniq (l : List Cell) : uniqL (uniqL l l 0) (uniqL l l 0) 0 = uniqL l l 0 := uniqL_once (pairwise_once (uniqL_once_of l l 0 rfl).1) _ 0 rfl
theorem era_lst (s t : Lab) (l : List Cell) : matA (lstA s l) (lstA t l) = true := by
  refine eqA_iff.2 ?_
  unfold eraA lstA
  rw [relA_eq, relA_eq]; rfl
theorem findWhole_sp (a b : Arr) (ha : Fits a) (hb : Fits b) : Sp 8 [dA a, dA b] [.bool true] := by
  refine sound_ 4096 (law16_FindWhole_tree _ _ _) (wp_call (law16_light_sp a ha) (wp_br (fun _ => awake16) (fun e1 => wp_call (law16_light_sp b hb) (wp_br (fun _ => awake16) (fun e2 => ?_)))))
  obtain ⟨g1, l1⟩ := light_good (a := a) (by simpa using e1)
  obtain ⟨g2, l2⟩ := light_good (a := b) (by simpa using e2)
  have s1 := rightA_sml g1
  have s2 := rightA_sml g2
  simp only [dA_0, dA_1, dA_2, dC_0, dC_1, dC_2, dC_3, dC_4, dN_0, dN_1, dN_2, els_sl, els_dI, els_dL, List.length_map, Int.toNat_natCast, toInt_int, toInt_dB, toBool_bool, getD_c0, getD_c1, int_beq, int_bne, not_dec, dInt_dB, Int.toNat_zero]
  refine wp_decs (fun _ => awake16) (fun hs => ?_)
  have h1 : a.shape.length = 1 := by omega
  have hT : ∀ i, thoseA a b i = (lstA (bothS a b) (thoseL a.cells b.cells i), 0) := fun i => by unfold thoseA; rw [if_neg (by omega)]
  have hU : uniqA a = (lstA (totA a) (uniqL a.cells a.cells 0), 0) := by unfold uniqA; rw [if_neg (by omega)]
  have lU := @uniqL_len a.cells a.cells 0
  have sU : Sml 9 (lstA (totA a) (uniqL a.cells a.cells 0)) := smlC_vec (fun c hc => s1.cell c (uniqL_sub c hc)) (by omega)
  have hV : uniqA (lstA (totA a) (uniqL a.cells a.cells 0)) = (lstA (totA (lstA (totA a) (uniqL a.cells a.cells 0))) (uniqL a.cells a.cells 0), 0) := by
    unfold uniqA
    rw [if_neg (by simp [lstA])]
    simp only [lstA, Arr.cells_mk, uniq_uniq]
  have p1 := find_Those_sp finder_ok a b true s1 s2 (by omega) (by omega)
  have p2 := find_Those_sp finder_ok a b false s1 s2 (by omega) (by omega)
  have p3 := find_Unique_sp finder_ok a s1 (by omega)
  have p4 := find_Unique_sp finder_ok _ sU (by simp only [lstA, Arr.cells_mk]; omega)
  have hI : indexA a b = (.mk (bothS a b) b.shape (b.cells.map (idxC a.cells)), 0) := by unfold indexA; rw [if_pos h1]
  have p6 := find_Index_sp finder_ok a b s1 s2 (by omega) (by omega)
  rw [hT] at p1 p2
  rw [hU] at p3
  rw [hV] at p4
  rw [hI] at p6
  have hlen := those_split a.cells b.cells
  refine wp_call p1 (wp_call p2 (wp_call p3 (wp_call p4 (wp_ff rfl (wp_ff rfl (wp_ff rfl (wp_ff rfl ?_)))))))
  have lT := fun i => @thoseL_len a.cells b.cells i
  have lT1 := lT true
  have lT2 := lT false
  have w1 : IntKind.wrap .i64 (((thoseL a.cells b.cells true).length : Int) + ((thoseL a.cells b.cells false).length : Int)) = (a.cells.length : Int) := by rw [wrap64 (by omega) (by omega)]; omega
  simp only [getD_c0, dA_2, els_sl, List.length_map, lstA, Arr.cells_mk]
  rw [w1]
  have mm := array_Match_sp (d := 9) (lstA (totA a) (uniqL a.cells a.cells 0)) (lstA (totA (lstA (totA a) (uniqL a.cells a.cells 0))) (uniqL a.cells a.cells 0)) sU
  rw [era_lst] at mm
  refine wp_ff (by simp) (wp_call mm (wp_ff rfl (wp_call (find_Member_sp finder_ok b a s2 s1 (by omega) (by omega)) (wp_call p6 (wp_ff rfl ?_)))))
  simp only [getD_c0, dA_2, els_sl, List.length_map, memberA, Arr.cells_mk]
  refine wp_ff (by simp) ?_
  have key := loop_list (P := Try.prog) (md := md) b.cells (fun m k (_ : Unit) => law16_FindWhole_l14 4096 m (k : Int) (dA a) (dA (lstA (bothS a b) (thoseL a.cells b.cells true))) (dA (lstA (bothS a b) (thoseL a.cells b.cells false))) (dA (memberA b a)) (dA (.mk (bothS a b) b.shape (b.cells.map (idxC a.cells))))) (fun _ _ => [.bool true]) (fun _ _ => True)
    (fun m k s hk _ => by
      simp only [law16_FindWhole_l14_succ, memberA, dA_2, els_sl, List.length_map, Arr.cells_mk]
      refine wp_ndec (by omega) ?_
      have jn := join_Catenate1_sp (lstA (bothS a b) (thoseL a.cells b.cells true)) (lstA (bothS a b) (thoseL a.cells b.cells false)) rfl rfl (by simp only [lstA, Arr.cells_mk]; omega)
      refine wp_call jn (wp_tt rfl ?_)
      simp only [getD_c0, dA_2, els_sl, List.length_map, Arr.cells_mk, List.length_append, lstA, hlen]
      exact wp_tt (by simp) awake16)
    (fun m k s c rest hdr _ ih => by
      obtain ⟨h1, h2, h3⟩ := drop_cons hdr
      have hpl := placeS_in (c := c) (l := a.cells) (by omega)
      have i1 : ((b.cells.map (idxC a.cells)).map dC).getD k D.nil = dC (idxC a.cells c) := by rw [List.map_map, getD_map h2]; rfl
      have i2 : ((b.cells.map (memC a.cells)).map dC).getD k D.nil = dC (memC a.cells c) := by rw [List.map_map, getD_map h2]; rfl
      have w1 : IntKind.wrap .i64 ((a.cells.length : Int) + 1) = (a.cells.length : Int) + 1 := wrap64 (by omega) (by omega)
      have ih := ih () trivial
      simp only [memberA] at ih
      simp only [law16_FindWhole_l14_succ, memberA, dA_2, els_sl, List.length_map, Arr.cells_mk, Int.toNat_natCast, i1, i2, w1, wrap_succ (show k < 9223372036854775807 by omega)]
      have zi : SmlC 0 (idxC a.cells c) := smlC_int (inR_small (by split <;> omega) (by split <;> omega)) 0
      have zm : SmlC 0 (memC a.cells c) := smlC_int (inR_small (by split <;> omega) (by split <;> omega)) 0
      have q1 := array_Match_sp (d := 1) (oneA (idxC a.cells c)) (aloneA ((a.cells.length : Int) + 1) 0) (Sml.of (by simp [oneA]) (by simp [oneA]) (by simp [oneA]) (fun x hx => by simp [oneA] at hx; subst hx; exact zi))
      have q2 := array_Match_sp (d := 1) (oneA (memC a.cells c)) (aloneA 1 0) (Sml.of (by simp [oneA]) (by simp [oneA]) (by simp [oneA]) (fun x hx => by simp [oneA] at hx; subst hx; exact zm))
      rw [show aloneA ((a.cells.length : Int) + 1) 0 = oneA (intC ((a.cells.length : Int) + 1)) from rfl, mat_one, idxC, sameB_int] at q1
      rw [show aloneA 1 0 = oneA (intC 1) from rfl, mat_one, memC, sameB_int] at q2
      refine wp_dec (by omega) (wp_dec (by omega) (wp_dec (by omega) (wp_call (array_Scalar_sp _ zi) (wp_call (ref11_Alone_sp _ 0 (inR_small (by omega) (by omega))) (wp_call q1 (wp_dec (by omega) (wp_dec (by omega) (wp_call (array_Scalar_sp _ zm) (wp_call (ref11_Alone_sp _ 0 (inR_small (by omega) (by omega))) (wp_call q2 (wp_ff ?_ ih)))))))))))
      simp only [getD_c0, toBool_bool]
      by_cases hp : placeS a.cells c 0 < 0
      · rw [if_pos hp, if_neg (by omega)]; simp
      · rw [if_neg hp, if_pos (by omega)]
        have : ¬ placeS a.cells c 0 + 1 = (a.cells.length : Int) + 1 := by omega
        simp [this])
    4096 0 () (by omega) (by omega) trivial
  exact key
section
variable {o : Lab} {a b n m x y : Arr}
theorem both_alike (hx : x.s = bothS a n) (hy : y.s = bothS b m) (h : hidA o a = hidA o b) (h' : hidA o n = hidA o m) (hv : a = b → n = m → x = y) : hidA o x = hidA o y := by
  rcases alike_totals h with e | ⟨h1, h2⟩
  · rcases alike_totals h' with e' | ⟨h3, h4⟩
    · rw [hv e e']
    · exact alike_hid (by rw [hx, bothS, flows_or, h3, Bool.and_false]) (by rw [hy, bothS, flows_or, h4, Bool.and_false])
  · exact alike_hid (by rw [hx, bothS, flows_or, h1]; rfl) (by rw [hy, bothS, flows_or, h2]; rfl)
theorem one_alike (hx : x.s = totA a) (hy : y.s = totA b) (h : hidA o a = hidA o b) (hv : a = b → x = y) : hidA o x = hidA o y := by
  rcases alike_totals h with e | ⟨h1, h2⟩
  · rw [hv e]
  · exact alike_hid (by rw [hx, h1]) (by rw [hy, h2])
end
theorem index_s {a b : Arr} (h : (indexA a b).2 = 0) : (indexA a b).1.s = bothS a b := by
  unfold indexA at h ⊢; split
  · rfl
  · rename_i g; rw [if_neg g] at h; cases h
theorem uniq_s {a : Arr} (h : (uniqA a).2 = 0) : (uniqA a).1.s = totA a := by
  unfold uniqA at h ⊢; split
  · rename_i g; rw [if_pos g] at h; cases h
  · rfl
theorem those_s {a b : Arr} {i : Bool} (h : (thoseA a b i).2 = 0) : (thoseA a b i).1.s = bothS a b := by
  unfold thoseA at h ⊢; split
  · rename_i g; rw [if_pos g] at h; cases h
  · rfl
theorem union_s {a b : Arr} (h : (unionA a b).2 = 0) : (unionA a b).1.s = bothS a b := by
  unfold unionA at h ⊢
  split
  · rename_i g; rw [if_pos g] at h; cases h
  · rename_i g1
    rw [if_neg g1] at h
    split
    · rename_i g; rw [if_pos g] at h; cases h
    · rename_i g2
      rw [if_neg g2] at h
      split
      · rename_i g; rw [if_pos g] at h; cases h
      · rfl
theorem iota_s {n : Arr} (h : (iotaA n).2 = 0) : (iotaA n).1.s = totA n := by
  rcases iota_cases n with ⟨_, h'⟩ | ⟨k, hk, e⟩
  · exact absurd h h'
  · rw [e]; rfl
theorem findBlind_sp (a b c d : Arr) (i : Bool) (o : Lab) (ha : Fits a) (hb : Fits b) (hc : Fits c) (hd : Fits d) : Sp 6 [dA a, dA b, dA c, dA d, .bool i, dB o] [.bool true] := by
  refine sound_ 0 (law16_FindBlind_tree _ _ _ _ _ _ _) (wp_call (law16_light_sp a ha) (wp_br (fun _ => awake16) (fun e1 => wp_call (law16_light_sp b hb) (wp_br (fun _ => awake16) (fun e2 => wp_call (law16_light_sp c hc) (wp_br (fun _ => awake16) (fun e3 => wp_call (law16_light_sp d hd) (wp_br (fun _ => awake16) (fun e4 => ?_)))))))))
  obtain ⟨g1, l1⟩ := light_good (a := a) (by simpa using e1)
  obtain ⟨g2, l2⟩ := light_good (a := b) (by simpa using e2)
  obtain ⟨g3, l3⟩ := light_good (a := c) (by simpa using e3)
  obtain ⟨g4, l4⟩ := light_good (a := d) (by simpa using e4)
  have s1 := rightA_sml g1
  have s2 := rightA_sml g2
  have s3 := rightA_sml g3
  have s4 := rightA_sml g4
  simp only [toInt_dB, dInt_dB, toBool_bool]
  refine wp_call (ref09_Alike_sp o 9 a b s1) (wp_br (fun _ => awake16) (fun e5 => wp_call (ref09_Alike_sp o 9 c d s3) (wp_br (fun _ => awake16) (fun e6 => ?_))))
  have h1 : hidA o a = hidA o b := alk_iff.1 (by simpa using e5)
  have h2 : hidA o c = hidA o d := alk_iff.1 (by simpa using e6)
  have j19 : Tw (law16_FindBlind_j19 0 (o.toNat : Int) (dA a) (dA b)) [.bool true] := by
    rw [law16_FindBlind_j19_eq]
    refine wp_call (find_Iota_sp a ha (by omega) (rightA_top g1)) (wp_call (find_Iota_sp b hb (by omega) (rightA_top g2)) ?_)
    simp only [getD_c0, getD_c1, toInt_int, int_bne]
    refine wp_decs (fun _ => awake16) (fun hx => wp_decs (fun _ => awake16) (fun hy => ?_))
    have hx := Classical.not_not.1 hx
    have hy := Classical.not_not.1 hy
    exact wp_call (alike_sp (iota_sml hx) (one_alike (iota_s hx) (iota_s hy) h1 (fun e => by rw [e]))) (wp_tt rfl awake16)
  have j15 : Tw (law16_FindBlind_j15 0 (o.toNat : Int) (dA a) (dA b) (dA c) (dA d)) [.bool true] := by
    rw [law16_FindBlind_j15_eq]
    refine wp_call (find_Union_sp finder_ok a c s1 s3 (by omega) (by omega)) (wp_call (find_Union_sp finder_ok b d s2 s4 (by omega) (by omega)) ?_)
    simp only [getD_c0, getD_c1, toInt_int, int_beq]
    refine wp_decs (fun hx => wp_decs (fun hy => ?_) (fun _ => j19)) (fun _ => j19)
    exact wp_call (alike_sp (union_sml s1 s3 hx) (both_alike (union_s hx) (union_s hy) h1 h2 (fun e e' => by rw [e, e']))) (wp_ff rfl j19)
  have j11 : Tw (law16_FindBlind_j11 0 i (o.toNat : Int) (dA a) (dA b) (dA c) (dA d)) [.bool true] := by
    rw [law16_FindBlind_j11_eq]
    refine wp_call (find_Those_sp finder_ok a c i s1 s3 (by omega) (by omega)) (wp_call (find_Those_sp finder_ok b d i s2 s4 (by omega) (by omega)) ?_)
    simp only [getD_c0, getD_c1, toInt_int, int_beq]
    refine wp_decs (fun hx => wp_decs (fun hy => ?_) (fun _ => j15)) (fun _ => j15)
    exact wp_call (alike_sp (those_sml s1 (by omega) hx) (both_alike (those_s hx) (those_s hy) h1 h2 (fun e e' => by rw [e, e']))) (wp_ff rfl j15)
  have j7 : Tw (law16_FindBlind_j7 0 i (o.toNat : Int) (dA a) (dA b) (dA c) (dA d)) [.bool true] := by
    rw [law16_FindBlind_j7_eq]
    refine wp_call (find_Unique_sp finder_ok a s1 (by omega)) (wp_call (find_Unique_sp finder_ok b s2 (by omega)) ?_)
    simp only [getD_c0, getD_c1, toInt_int, int_beq]
    refine wp_decs (fun hx => wp_decs (fun hy => ?_) (fun _ => j11)) (fun _ => j11)
    exact wp_call (alike_sp (uniq_sml s1 (by omega) hx) (one_alike (uniq_s hx) (uniq_s hy) h1 (fun e => by rw [e]))) (wp_ff rfl j11)
  rw [law16_FindBlind_j3_eq]
  have mem : ∀ t, Tw t [.bool true] → Tw (.call 16 [] [dA a, dA c] fun y1 => .call 16 [] [dA b, dA d] fun y2 => .call 27 [] [y1.getD 0 D.nil, y2.getD 0 D.nil, D.int (o.toNat : Int)] fun y3 => .br (!((y3.getD 0 D.nil).toBool)) (.ret [D.bool false]) t) [.bool true] := fun t ht =>
    wp_call (find_Member_sp finder_ok a c s1 s3 (by omega) (by omega)) (wp_call (find_Member_sp finder_ok b d s2 s4 (by omega) (by omega)) (wp_call (alike_sp (member_sml s1 (by omega)) (both_alike (n := c) (m := d) (a := a) (b := b) rfl rfl h1 h2 (fun e e' => by rw [e, e']))) (wp_ff rfl ht)))
  refine wp_call (find_Index_sp finder_ok a c s1 s3 (by omega) (by omega)) (wp_call (find_Index_sp finder_ok b d s2 s4 (by omega) (by omega)) ?_)
  simp only [getD_c0, getD_c1, toInt_int, int_beq]
  refine wp_decs (fun hx => wp_decs (fun hy => ?_) (fun _ => mem _ j7)) (fun _ => mem _ j7)
  exact wp_call (alike_sp (index_sml s3 (by omega) (by omega) hx) (both_alike (index_s hx) (index_s hy) h1 h2 (fun e e' => by rw [e, e']))) (wp_ff rfl (mem _ j7))
end Go.Proofs.Ytcgfpibkajagjaa
set_option maxRecDepth 100000
namespace Go.Proofs.Ytcgfpibkajagjaa
open Go.ChangeShapes Go.WideShapes Go.ChangeAt Go.RowKit

set_option maxRecDepth 100000 in
theorem findBlind_lifted (os : Os) (started : os.Started) (H : Type) (enc : TypeId × Value → H) :
    ReturnsInHanded {} Try.checked os 6 .any (Rows.findBlindSpec.pre6 enc Try.prog Try.f6 Rows.findBlindRow.domain false) (Rows.findBlindSpec.post enc Try.prog Try.f6 false true false false) := by
  refine returnsInHanded_of_change_sized (C := Try.checked) knob started (by kernel_rfl) Try.func6
    (ChangeSpec.witness6 (enc := enc) (C := Try.checked) false ⟨#[], #[.agg #[.int .u64 0, .slice none 0 0, .slice none 0 0], .agg #[.int .u64 0, .slice none 0 0, .slice none 0 0], .agg #[.int .u64 0, .slice none 0 0, .slice none 0 0], .agg #[.int .u64 0, .slice none 0 0, .slice none 0 0], .bool false, .int .u64 0], []⟩ 16 (by kernel_rfl) (by kernel_rfl) (by kernel_rfl) (by kernel_rfl)) ?_
  intro W base args ds gs before hval0 hW hcnd hwt0 _
  have hval : ∀ (j : Nat) t v, Try.f6.params[j]? = some t → args[j]? = some v → Value.okWide Try.prog W .any base t v := hval0
  have hW' := hW
  obtain ⟨p, q, hA0, hV, rfl, hfz, hnd⟩ := hW
  have hA : DataW.TrodAll enc Try.prog W 0 (fun _ => true) true Try.f6.params.toList args.toList ds p := hA0
  rw [Try.params6] at hA hval
  obtain ⟨v0, vs0, d0, ds0, p0, q0, hargs, rfl, rfl, h0, r0⟩ := trodAll_cons hA
  obtain ⟨v1, vs1, d1, ds1, p1, q1, rfl, rfl, rfl, h1, r1⟩ := trodAll_cons r0
  obtain ⟨v2, vs2, d2, ds2, p2, q2, rfl, rfl, rfl, h2, r2⟩ := trodAll_cons r1
  obtain ⟨v3, vs3, d3, ds3, p3, q3, rfl, rfl, rfl, h3, r3⟩ := trodAll_cons r2
  obtain ⟨v4, vs4, d4, ds4, p4, q4, rfl, rfl, rfl, h4, r4⟩ := trodAll_cons r3
  obtain ⟨v5, vs5, d5, ds5, p5, q5, rfl, rfl, rfl, h5, r5⟩ := trodAll_cons r4
  obtain ⟨rfl, rfl, rfl⟩ := trodAll_nil r5
  obtain rfl : args = #[v0, v1, v2, v3, v4, v5] := by cases args; simp_all
  have hwt : ∀ (j t : Nat) d, (Try.f6.params.toList)[j]? = some t → ([d0, d1, d2, d3, d4, d5])[j]? = some d → ∀ z ∈ DataW.weights Try.prog t d, z ≤ reachBytes := fun j t d ht hd z hz => by
    have hl := (List.getElem?_eq_some_iff.1 ht).1
    have hl2 := (List.getElem?_eq_some_iff.1 hd).1
    have := List.all_eq_true.1 hwt0 z (DataW.weights_mem_each (j := j) (t := t) (d := d) (by rw [List.getElem?_append_left hl]; exact ht) (by rw [List.getElem?_append_left hl2]; exact hd) z hz)
    simpa using this
  obtain ⟨x0, hx0, hr0⟩ := arg_arr (hval 0 26 v0 rfl rfl) h0
  obtain ⟨x1, hx1, hr1⟩ := arg_arr (hval 1 26 v1 rfl rfl) h1
  obtain ⟨x2, hx2, hr2⟩ := arg_arr (hval 2 26 v2 rfl rfl) h2
  obtain ⟨x3, hx3, hr3⟩ := arg_arr (hval 3 26 v3 rfl rfl) h3
  obtain ⟨x4, hr4⟩ := arg_bool (hval 4 4 v4 rfl rfl) h4
  obtain ⟨x5, hr5⟩ := arg_lab (hval 5 22 v5 rfl rfl) h5
  refine (law_calls (vs := [v0, v1, v2, v3, v4, v5]) (findBlind_sp x0 x1 x2 x3 x4 x5 hx0 hx1 hx2 hx3) Try.func6 (by kernel_rfl) (by kernel_rfl) Try.underlying4 rfl rfl ?_).mono fun e W' ⟨he, hx⟩ => ⟨_, he, law_post laidOut hW' rfl (by kernel_rfl) Try.underlying4 rfl (by kernel_rfl) hx⟩
  intro i t x v ht hx hv
  match i with
  | 0 => cases (show some 26 = some t from ht); cases hx; cases hv; exact hr0
  | 1 => cases (show some 26 = some t from ht); cases hx; cases hv; exact hr1
  | 2 => cases (show some 26 = some t from ht); cases hx; cases hv; exact hr2
  | 3 => cases (show some 26 = some t from ht); cases hx; cases hv; exact hr3
  | 4 => cases (show some 4 = some t from ht); cases hx; cases hv; exact hr4
  | 5 => cases (show some 22 = some t from ht); cases hx; cases hv; exact hr5
  | i + 6 => cases hx

theorem findBlind_holds : Rows.FindBlindSaid :=
  OpenClaim.holds_of_wide 6 Try.f6 rfl rfl rfl rfl rfl rfl rfl ⟨rfl, rfl, rfl, rfl, rfl⟩ rfl rfl rfl rfl rfl (by kernel_rfl) Try.func6 (by kernel_rfl)
    (of_decide_eq_true (by kernel_rfl)) (by unfold Func.isWrapper; first | (rw [if_pos (by decide +kernel)]; kernel_rfl) | (rw [if_neg (by decide +kernel)]; exact ⟨rfl, rfl⟩))
    (fun os started H enc _ => findBlind_lifted os started H enc)

end Go.Proofs.Ytcgfpibkajagjaa
