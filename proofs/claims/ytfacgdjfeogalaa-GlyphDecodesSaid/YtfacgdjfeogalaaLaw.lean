/- How a law's statement is closed: the call tells true, and old memory is as it was; so each argument reads as it read. -/
import Derived.Test.YtfacgdjfeogalaaMem
import Derived.ProofKit
import Derived.OpenShut
namespace Go.Proofs.Ytfacgdjfeogalaa
open Go.ChangeShapes Go.WideShapes Go.ChangeAt Go.RowKit

/-- What a law tells: true; old memory is as it was. -/
def Yes (w : World) (e : Ending) (w' : World) : Prop := e = .returned (.bool true) ∧ Ext w w'

theorem knob : ownKnob Try.prog.godebug = none := by kernel_rfl
theorem laidOut : laidOutB Try.prog = true := by kernel_rfl

section
variable {H : Type} {enc : TypeId × Value → H} {P : Program}
theorem trodAll_stays (hl : laidOutB P = true) {W W' : World} (hx : Ext W W') (sp : Nat → Bool) : ∀ (ts : List TypeId) (vs : List Value) (ds : List (DataW H)) (ps : List MemPlace), DataW.TrodAll enc P W 0 (fun _ => true) true ts vs ds ps →
    (∀ t ∈ ts, P.readableRec t = true ∧ t < P.types.size) → (∀ x ∈ ps, x.block < W.heap.size) → (∀ x ∈ ps, sp x.block = true) → DataW.TrodAll enc P W' 0 sp true ts vs ds ps
  | [], vs, ds, ps, h, _, _, _ => by
    obtain ⟨rfl, rfl, rfl⟩ := trodAll_nil h
    exact trodAll_mk0
  | t :: ts, vs, ds, ps, h, hr, hlt, hsp => by
    obtain ⟨v, vs', d, ds', p, q, rfl, rfl, rfl, h1, h2⟩ := trodAll_cons h
    have := hr t (by simp)
    refine trodAll_cons_mk (WideElems.Trod_stays hl this.1 this.2 h1 (fun x hm => Below.same hx (hlt x (by simp [hm]))) (fun x hm => hsp x (by simp [hm]))) ?_
    exact trodAll_stays hl hx sp ts vs' ds' q h2 (fun t' ht => hr t' (by simp [ht])) (fun x hm => hlt x (by simp [hm])) (fun x hm => hsp x (by simp [hm]))

theorem law_post {f : Func} {s : ChangeSpec} (hl : laidOutB P = true) {W W' : World} {args : Array Value} {ds gs : List (DataW H)} {before : List MemPlace} {tb : TypeId}
    (hW : DataW.Whole enc P f.params.toList s.vars false W args.toList ds gs before) (hv : s.vars = []) (hrt : f.resultTypes = #[tb]) (htb : P.underlying tb = some .bool)
    (hfn : s.fn H ds = { results := [.lit (.bool true)], args := ds }) (hr : f.params.toList.all (fun t => P.readableRec t && decide (t < P.types.size)) = true) (hx : Ext W W') :
    s.post enc P f false true false false W args (.bool true) W' := by
  have hW' := hW
  obtain ⟨p, q, hA, hV, rfl, hfz, hnd⟩ := hW
  rw [hv] at hV
  obtain ⟨rfl, rfl⟩ := trodVars_none hV
  have hlt : ∀ x ∈ p, x.block < W.heap.size := fun x hm => hW'.lt x (by simpa using hm)
  have hrr : ∀ t ∈ f.params.toList, P.readableRec t = true ∧ t < P.types.size := fun t ht => by
    have := List.all_eq_true.1 hr t ht
    simpa using this
  have hold : ∀ x ∈ p ++ [], (fun b => decide (b < W.heap.size)) x.block = true := fun x hm => by simpa using hlt x (by simpa using hm)
  have hres : ∀ (b : Nat) (sp : Nat → Bool) (hd : Bool), DataW.TrodAll enc P W' b sp hd f.resultTypes.toList ((Value.bool true).resultList f.resultTypes.size) (s.fn H (ds ++ [])).results [] := by
    intro b sp hd
    rw [hrt, List.append_nil, hfn]
    exact trodAll_mk1 (shut_bool htb _)
  have hargs : ∀ sp : Nat → Bool, (∀ x ∈ p ++ [], sp x.block = true) → DataW.TrodAll enc P W' 0 sp true f.params.toList args.toList (s.fn H (ds ++ [])).args p := by
    intro sp hsp
    rw [List.append_nil, hfn]
    exact trodAll_stays hl hx sp _ _ _ _ hA hrr hlt (fun x hm => hsp x (by simpa using hm))
  have hvars : ∀ sp : Nat → Bool, DataW.TrodVars enc P W' sp s.vars (s.fn H (ds ++ [])).vars [] := by
    intro sp
    rw [hv, List.append_nil, hfn]; rfl
  refine ⟨ds, [], p ++ [], [], p, [], hW', hres _ _ _, hargs _ hold, hvars _, World.keptBut_mono (fun x hm => ⟨hm, ?_⟩) (Below.frame hx (· ∈ p ++ [])), fun _ => ?_⟩
  · exact Or.inr (by simpa using hm)
  · refine ⟨ok_one hrt rfl (okWide_bool_mk htb _), _, _, ([] ++ p) ++ [], ⟨[] ++ p, [], trodAll_append (hargs (fun _ => true) (fun _ _ => rfl)) (hres _ _ _), hvars _, rfl, ?_, ?_⟩, ?_⟩
    · intro b off hm
      have hin : MemPlace.cell b off ∈ p ++ [] := by simpa using hm
      rw [hx.frozen (p := ⟨b, off, none⟩) (show b < W.heap.size from hlt (.cell b off) (by simpa using hin))]
      exact hfz b off hin
    · intro ha; cases ha
    · intro x hm _
      simpa using hm
/-- An argument that is a slice of integers. -/
theorem sli_of_trod {r : Reach} {b0 : Nat} {t e : TypeId} {k : IntKind} {W : World} {v : Value} {d : DataW H} {ps : List MemPlace} (ht : P.underlying t = some (.slice e)) (he : P.underlying e = some (.int k)) (hc : P.cellsOf e = 1)
    (hval : Value.okWide P W r b0 t v) (h : DataW.Trod enc P W 0 (fun _ => true) true t v d ps) : ∃ xs : List Int, SlI W v k xs ∧ xs.length ≤ maxLen := by
  obtain ⟨a0, len0, cap0, rfl⟩ := okWide_slice ht hval
  obtain ⟨fuel, hf⟩ := h
  rcases open_ints ht he hc hf with ⟨hcs, _⟩ | ⟨a, len, cap, zs, hcs, _, hlc, hcm, hz, hx, hcell, _⟩
  · simp [Value.cells] at hcs
    obtain ⟨rfl, rfl, rfl⟩ := hcs
    exact ⟨[], SlI.nil_ _ _, Nat.zero_le _⟩
  · simp [Value.cells] at hcs
    obtain ⟨rfl, rfl, rfl⟩ := hcs
    simp only [if_true] at hz
    have hlen : (zs.take len0).length = len0 := by rw [List.length_take]; omega
    refine ⟨zs.take len0, ⟨some a, cap0, by rw [hlen], by omega, by simp, fun i x hxi => ⟨a, rfl, ?_, ?_⟩⟩, by omega⟩
    · rw [List.getElem?_map] at hxi
      obtain ⟨y, hy, _⟩ := Option.map_eq_some_iff.1 hxi
      have hi : i < (zs.take len0).length := (List.getElem?_eq_some_iff.1 hy).1
      have := World.block_lt_of_cell? W _ (hcell 0 (by omega))
      rwa [blk_add] at this
    · rw [List.getElem?_map] at hxi
      obtain ⟨y, hy, rfl⟩ := Option.map_eq_some_iff.1 hxi
      have hi : i < (zs.take len0).length := (List.getElem?_eq_some_iff.1 hy).1
      rw [hcell i (by omega)]
      have : zs.getD i 0 = y := by
        rw [List.getElem?_take] at hy
        split at hy
        · rw [List.getD_eq_getElem?_getD, hy]; rfl
        · cases hy
      rw [this]
end

end Go.Proofs.Ytfacgdjfeogalaa
