/- Proved: for any number and any two arrays, the law PrimHas returns true and changes nothing. No condition. -/
import Derived.Test.YtokkbgpgaheakaaGreatRows
import Derived.WalkKit
import Derived.WalkSpells
import Derived.WalkLawsBesides
import Derived.Lib.Hide
import Derived.Laws.CopyOwn
import Derived.Deep.QuietTactic
import Derived.BigQuiet
import Derived.Orders
import Derived.Defers
import Derived.Recover
import Derived.Test.YtokkbgpgaheakaaGreatProg
import Derived.KernelRfl
import Derived.ProofKit
import Derived.OpenShut
import Derived.Maps.OwnRows
import Derived.Maps.Views
import Derived.Deep.RegionHeld3
import Derived.Deep.AppendLies
import Derived.Test.YtokkbgpgaheakaaGreatZ70e1af28
set_option linter.unusedSimpArgs false
set_option linter.unusedVariables false
set_option maxRecDepth 100000
open Array renaming getElem?_eq_getElem → Al3, getElem?_eq_some_iff → Amc, getD_eq_getD_getElem? → Amf
open BitVec renaming ofNat → Al0
open Bool renaming and_eq_true → Alp
open Classical renaming not_not → Alt
open Int renaming toNat → Alf, toNat_natCast → Aln, fdiv → Al8
open Go.IntKind renaming wrap → Ale, bits → Alq
open List renaming getElem?_eq_getElem → Alg, replicate → Alh, length_map → Ali, getElem?_eq_some_iff → Alj, getD_eq_getElem?_getD → Alk, length_cons → All, mem_of_getElem? → Alm, length_append → Alr, length_drop → Alu, length_take → Alw, mem_cons → Alx, getElem?_map → Aly, length_nil → Alz, append_nil → Al2, append_assoc → Al4, getElem?_append_left → Al5, drop_eq_getElem_cons → Al6, length_eq_zero_iff → Al7, take_append_drop → Ama, take_of_length_le → Amb, range → Amd, length_replicate → Amg, getElem_mem → Amj, map_cons → Aml, nil_append → Amo
open Nat renaming le_refl → Als, mul_le_mul_right → Al1, mod_lt → Al9, mod_eq_of_lt → Al_, lt_of_lt_of_le → Ame, mul_comm → Ami, pow_succ → Amk, div_lt_iff_lt_mul → Amm, zero_add → Amn
open Option renaming map_eq_some_iff → Alv, bind_eq_some_iff → Amh
open Option.some renaming injEq → Alo
namespace Go.Proofs.YtokkbgpgaheakaaGreat
open Go.ChangeShapes Go.WideShapes Go.ChangeAt Go.RowKit
set_option maxRecDepth 100000 in
theorem AfN(os:Os)(started:os.Started)(H:Type)(enc:TypeId×Value→H) :
  ReturnsInHanded {} Tryz.checked os 7 .any (Rows.primHasSpec.pre6 enc Tryz.prog Tryz.f7 Rows.primHasRow.domain false) (Rows.primHasSpec.post enc Tryz.prog Tryz.f7 false true false false):=by
 refine returnsInHanded_of_change_sized (C:=Tryz.checked) AcY started (by kernel_rfl) Tryz.func7
  (ChangeSpec.witness6 (enc:=enc) (C:=Tryz.checked) false ⟨#[],#[.int .i64 0,.agg #[.int .u64 0,.slice none 0 0,.slice none 0 0],.agg #[.int .u64 0,.slice none 0 0,.slice none 0 0]],[]⟩ 16 (by kernel_rfl) (by kernel_rfl) (by kernel_rfl) (by kernel_rfl)) ?_
 intro W base args ds gs before hval0 hW hcnd hwt0 _
 have hval : ∀ (j:Nat) t v,Tryz.f7.params[j]? = some t→args[j]? = some v→Value.okWide Tryz.prog W .any base t v:=hval0
 have hW':=hW
 obtain ⟨p,q,hA0,hV,rfl,hfz,hnd⟩:=hW
 have hA:DataW.TrodAll enc Tryz.prog W 0 (fun _=>true) true Tryz.f7.params.toList args.toList ds p:=hA0
 rw[Tryz.params7]at hA hval
 obtain ⟨v0,vs0,d0,ds0,p0,q0,hargs,rfl,rfl,h0,r0⟩:=trodAll_cons hA
 obtain ⟨v1,vs1,d1,ds1,p1,q1,rfl,rfl,rfl,h1,r1⟩:=trodAll_cons r0
 obtain ⟨v2,vs2,d2,ds2,p2,q2,rfl,rfl,rfl,h2,r2⟩:=trodAll_cons r1
 obtain ⟨rfl,rfl,rfl⟩:=trodAll_nil r2
 obtain rfl:args = #[v0,v1,v2]:=by cases args;simp_all
 have hwt : ∀ (j t:Nat) d,(Tryz.f7.params.toList)[j]? = some t→([d0,d1,d2])[j]? = some d→∀ z∈DataW.weights Tryz.prog t d,z≤reachBytes:=fun j t d ht hd z hz=>by
  have hl:=(Alj.1 ht).1
  have hl2:=(Alj.1 hd).1
  have:=List.all_eq_true.1 hwt0 z (DataW.weights_mem_each (j:=j) (t:=t) (d:=d) (by rw[Al5 hl];exact ht) (by rw[Al5 hl2];exact hd) z hz)
  simpa using this
 obtain ⟨x0,hx0,hr0⟩:=Aax (hval 0 3 v0 rfl rfl) h0
 obtain ⟨x1,hx1,hr1⟩:=JM (hval 1 26 v1 rfl rfl) h1
 obtain ⟨x2,hx2,hr2⟩:=JM (hval 2 26 v2 rfl rfl) h2
 refine (Adj (vs:=[v0,v1,v2]) (AfO x0 x1 x2 hx0 hx1 hx2) Tryz.func7 (by kernel_rfl) (by kernel_rfl) Tryz.underlying4 rfl rfl ?_).mono fun e W' ⟨he,hx⟩=>⟨_,he,Adk Ada hW' rfl (by kernel_rfl) Tryz.underlying4 rfl (by kernel_rfl) hx⟩
 intro i t x v ht hx hv
 match i with
 | 0=>cases (show some 3=some t from ht);cases hx;cases hv;exact hr0
 | 1=>cases (show some 26=some t from ht);cases hx;cases hv;exact hr1
 | 2=>cases (show some 26=some t from ht);cases hx;cases hv;exact hr2
 | i+3=>cases hx
theorem AfJ:laidOutB Tryz.prog=true:=by kernel_rfl
theorem AfK:((Rows.primHasRow.inPlace == Tryz.prog.inPlace 7)&&(Rows.primHasRow.unfollowed == Tryz.prog.unfollowed 7)&&(Rows.primHasRow.recurses == Tryz.prog.recurses 7)&&(Rows.primHasRow.named == Tryz.prog.varsNamed 7))=true:=by kernel_rfl
theorem AfL:Tryz.prog.mayEnter=true:=by kernel_rfl
theorem AfM:joinedFacts Tryz.prog 7 Tryz.f7 Rows.primHasSpec Rows.primHasRow=true:=by
 have h:=AfK
 simp only[Alp]at h
 obtain ⟨⟨⟨h1,h2⟩,h3⟩,h4⟩:=h
 unfold joinedFacts
 rw[AfJ,h1,h2,h3,h4,AfL]
 show _=true
 kernel_rfl
theorem primHas_holds:Rows.PrimHasSaid :=
 OpenClaim.holds_of_wide 7 Tryz.f7 rfl rfl rfl rfl rfl rfl rfl ⟨rfl,rfl,rfl,rfl,rfl⟩ rfl rfl rfl rfl rfl (by kernel_rfl) Tryz.func7 AfM
  (of_decide_eq_true (by kernel_rfl)) (by unfold Func.isWrapper;first | (rw[if_pos (by decide +kernel)];kernel_rfl) | (rw[if_neg (by decide +kernel)];exact ⟨rfl,rfl⟩))
  (fun os started H enc _=>AfN os started H enc)
end Go.Proofs.YtokkbgpgaheakaaGreat
