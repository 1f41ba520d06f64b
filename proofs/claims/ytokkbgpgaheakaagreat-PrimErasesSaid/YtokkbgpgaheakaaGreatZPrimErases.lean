/- Proved: for any number and any two arrays, the law PrimErases returns true and changes nothing. No condition. -/
import Derived.Test.YtokkbgpgaheakaaGreatRows
import Derived.WalkKit
import Derived.WalkSpells
import Derived.WalkLawsBesides
import Derived.Lib.Hide
import Derived.Laws.CopyOwn
import Derived.Deep.QuietTactic
import Derived.BigQuiet
import Derived.Orders
import Derived.Defers
import Derived.Recover
import Derived.Test.YtokkbgpgaheakaaGreatProg
import Derived.KernelRfl
import Derived.ProofKit
import Derived.OpenShut
import Derived.Maps.OwnRows
import Derived.Maps.Views
import Derived.Deep.RegionHeld3
import Derived.Deep.AppendLies
import Derived.Test.YtokkbgpgaheakaaGreatZf02d2e50
set_option linter.unusedSimpArgs false
set_option linter.unusedVariables false
set_option maxRecDepth 100000
open Array renaming getElem?_eq_getElem → Ap3, getElem?_eq_some_iff → Aqe, getD_eq_getD_getElem? → Aqk
open BitVec renaming ofNat → Ap1
open Bool renaming and_eq_true → App
open Classical renaming not_not → Aps
open Int renaming toNat → Apf, toNat_natCast → Apn, fdiv → Ap_
open Go.IntKind renaming wrap → Ape, bits → Apr
open List renaming getElem?_eq_getElem → Apg, replicate → Aph, length_map → Api, getD_eq_getElem?_getD → Apj, getElem?_eq_some_iff → Apk, length_cons → Apl, mem_of_getElem? → Apm, length_append → Apq, length_drop → Apu, length_take → Apw, length_nil → Apx, getElem?_map → Apy, mem_cons → Ap0, append_nil → Ap2, append_assoc → Ap4, map_cons → Ap5, getElem?_append_left → Ap6, drop_eq_getElem_cons → Ap7, length_eq_zero_iff → Ap8, take_append_drop → Aqb, take_of_length_le → Aqd, range → Aqf, getElem_mem → Aqh, getElem?_append_right → Aqj, length_replicate → Aql, mem_cons_of_mem → Aqm, mem_append → Aqo, mem_map → Aqs, nil_append → Aqt
open Nat renaming le_refl → Apt, mul_le_mul_right → Apz, mod_eq_of_lt → Ap9, mod_lt → Aqa, mul_comm → Aqc, lt_of_lt_of_le → Aqg, div_div_eq_div_mul → Aqi, pow_succ → Aqn, div_lt_iff_lt_mul → Aqq, zero_add → Aqr
open Option renaming map_eq_some_iff → Apv, bind_eq_some_iff → Aqp
open Option.some renaming injEq → Apo
namespace Go.Proofs.YtokkbgpgaheakaaGreat
open Go.ChangeShapes Go.WideShapes Go.ChangeAt Go.RowKit
set_option maxRecDepth 100000 in
theorem Ajl(os:Os)(started:os.Started)(H:Type)(enc:TypeId×Value→H) :
  ReturnsInHanded {} Tryz.checked os 6 .any (Rows.primErasesSpec.pre6 enc Tryz.prog Tryz.f6 Rows.primErasesRow.domain false) (Rows.primErasesSpec.post enc Tryz.prog Tryz.f6 false true false false):=by
 refine returnsInHanded_of_change_sized (C:=Tryz.checked) Agn started (by kernel_rfl) Tryz.func6
  (ChangeSpec.witness6 (enc:=enc) (C:=Tryz.checked) false ⟨#[],#[.int .i64 0,.agg #[.int .u64 0,.slice none 0 0,.slice none 0 0],.agg #[.int .u64 0,.slice none 0 0,.slice none 0 0]],[]⟩ 16 (by kernel_rfl) (by kernel_rfl) (by kernel_rfl) (by kernel_rfl)) ?_
 intro W base args ds gs before hval0 hW hcnd hwt0 _
 have hval : ∀ (j:Nat) t v,Tryz.f6.params[j]? = some t→args[j]? = some v→Value.okWide Tryz.prog W .any base t v:=hval0
 have hW':=hW
 obtain ⟨p,q,hA0,hV,rfl,hfz,hnd⟩:=hW
 have hA:DataW.TrodAll enc Tryz.prog W 0 (fun _=>true) true Tryz.f6.params.toList args.toList ds p:=hA0
 rw[Tryz.params6]at hA hval
 obtain ⟨v0,vs0,d0,ds0,p0,q0,hargs,rfl,rfl,h0,r0⟩:=trodAll_cons hA
 obtain ⟨v1,vs1,d1,ds1,p1,q1,rfl,rfl,rfl,h1,r1⟩:=trodAll_cons r0
 obtain ⟨v2,vs2,d2,ds2,p2,q2,rfl,rfl,rfl,h2,r2⟩:=trodAll_cons r1
 obtain ⟨rfl,rfl,rfl⟩:=trodAll_nil r2
 obtain rfl:args = #[v0,v1,v2]:=by cases args;simp_all
 have hwt : ∀ (j t:Nat) d,(Tryz.f6.params.toList)[j]? = some t→([d0,d1,d2])[j]? = some d→∀ z∈DataW.weights Tryz.prog t d,z≤reachBytes:=fun j t d ht hd z hz=>by
  have hl:=(Apk.1 ht).1
  have hl2:=(Apk.1 hd).1
  have:=List.all_eq_true.1 hwt0 z (DataW.weights_mem_each (j:=j) (t:=t) (d:=d) (by rw[Ap6 hl];exact ht) (by rw[Ap6 hl2];exact hd) z hz)
  simpa using this
 obtain ⟨x0,hx0,hr0⟩:=Add (hval 0 3 v0 rfl rfl) h0
 obtain ⟨x1,hx1,hr1⟩:=NL (hval 1 26 v1 rfl rfl) h1
 obtain ⟨x2,hx2,hr2⟩:=NL (hval 2 26 v2 rfl rfl) h2
 refine (Agz (vs:=[v0,v1,v2]) (Ajm x0 x1 x2 hx0 hx1 hx2) Tryz.func6 (by kernel_rfl) (by kernel_rfl) Tryz.underlying4 rfl rfl ?_).mono fun e W' ⟨he,hx⟩=>⟨_,he,Ag0 Agq hW' rfl (by kernel_rfl) Tryz.underlying4 rfl (by kernel_rfl) hx⟩
 intro i t x v ht hx hv
 match i with
 | 0=>cases (show some 3=some t from ht);cases hx;cases hv;exact hr0
 | 1=>cases (show some 26=some t from ht);cases hx;cases hv;exact hr1
 | 2=>cases (show some 26=some t from ht);cases hx;cases hv;exact hr2
 | i+3=>cases hx
theorem primErases_holds:Rows.PrimErasesSaid :=
 OpenClaim.holds_of_wide 6 Tryz.f6 rfl rfl rfl rfl rfl rfl rfl ⟨rfl,rfl,rfl,rfl,rfl⟩ rfl rfl rfl rfl rfl (by kernel_rfl) Tryz.func6 (by kernel_rfl)
  (of_decide_eq_true (by kernel_rfl)) (by unfold Func.isWrapper;first | (rw[if_pos (by decide +kernel)];kernel_rfl) | (rw[if_neg (by decide +kernel)];exact ⟨rfl,rfl⟩))
  (fun os started H enc _=>Ajl os started H enc)
end Go.Proofs.YtokkbgpgaheakaaGreat
