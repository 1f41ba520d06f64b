/- Proved: for any number and any four arrays, the law PrimBlind returns true and changes nothing. No condition. -/
import Derived.Test.YtokkbgpgaheakaaGreatRows
import Derived.WalkKit
import Derived.WalkSpells
import Derived.WalkLawsBesides
import Derived.Lib.Hide
import Derived.Laws.CopyOwn
import Derived.Deep.QuietTactic
import Derived.BigQuiet
import Derived.Orders
import Derived.Defers
import Derived.Recover
import Derived.Test.YtokkbgpgaheakaaGreatProg
import Derived.KernelRfl
import Derived.ProofKit
import Derived.OpenShut
import Derived.Maps.OwnRows
import Derived.Maps.Views
import Derived.Deep.RegionHeld3
import Derived.Deep.AppendLies
import Derived.Test.YtokkbgpgaheakaaGreatZ64f3a303
set_option linter.unusedSimpArgs false
set_option linter.unusedVariables false
set_option maxRecDepth 100000
open Array renaming getElem?_eq_getElem → Apy, getElem?_eq_some_iff → Aqa, getD_eq_getD_getElem? → Aqf
open BitVec renaming ofNat → Apw
open Bool renaming and_eq_true → Api
open Classical renaming not_not → Apm
open Int renaming toNat → Apa, toNat_natCast → Apj, fdiv → Ap3
open Go.IntKind renaming wrap → Aom, bits → Apl
open List renaming getElem?_eq_getElem → Apb, replicate → Apc, length_map → Apd, getD_eq_getElem?_getD → Ape, getElem?_eq_some_iff → Apf, length_cons → Apg, mem_of_getElem? → Aph, length_append → Apn, length_drop → App, length_take → Apr, getElem?_map → Aps, mem_cons → Apt, length_nil → Apv, append_nil → Apx, append_assoc → Apz, getElem?_append_left → Ap0, drop_eq_getElem_cons → Ap1, length_eq_zero_iff → Ap2, take_append_drop → Ap5, map_cons → Ap7, range → Ap8, take_of_length_le → Ap_, getElem_mem → Aqc, getElem?_append_right → Aqe, length_replicate → Aqg, mem_append → Aqh, length → Aql, all_eq_true → Aqm, nil_append → Aqp
open Nat renaming le_refl → Apo, mul_le_mul_right → Apu, mod_lt → Ap4, mod_eq_of_lt → Ap6, mul_comm → Ap9, lt_of_lt_of_le → Aqb, div_div_eq_div_mul → Aqd, pow_succ → Aqj, div_lt_iff_lt_mul → Aqk, lt_or_ge → Aqn, zero_add → Aqo
open Option renaming map_eq_some_iff → Apq, bind_eq_some_iff → Aqi
open Option.some renaming injEq → Apk
namespace Go.Proofs.YtokkbgpgaheakaaGreat
open Go.ChangeShapes Go.WideShapes Go.ChangeAt Go.RowKit
set_option maxRecDepth 100000 in
theorem Ajb(os:Os)(started:os.Started)(H:Type)(enc:TypeId×Value→H) :
  ReturnsInHanded {} Tryz.checked os 4 .any (Rows.primBlindSpec.pre6 enc Tryz.prog Tryz.f4 Rows.primBlindRow.domain false) (Rows.primBlindSpec.post enc Tryz.prog Tryz.f4 false true false false):=by
 refine returnsInHanded_of_change_sized (C:=Tryz.checked) Aga started (by kernel_rfl) Tryz.func4
  (ChangeSpec.witness6 (enc:=enc) (C:=Tryz.checked) false ⟨#[],#[.int .i64 0,.agg #[.int .u64 0,.slice none 0 0,.slice none 0 0],.agg #[.int .u64 0,.slice none 0 0,.slice none 0 0],.agg #[.int .u64 0,.slice none 0 0,.slice none 0 0],.agg #[.int .u64 0,.slice none 0 0,.slice none 0 0],.int .u64 0],[]⟩ 16 (by kernel_rfl) (by kernel_rfl) (by kernel_rfl) (by kernel_rfl)) ?_
 intro W base args ds gs before hval0 hW hcnd hwt0 _
 have hval : ∀ (j:Nat) t v,Tryz.f4.params[j]? = some t→args[j]? = some v→Value.okWide Tryz.prog W .any base t v:=hval0
 have hW':=hW
 obtain ⟨p,q,hA0,hV,rfl,hfz,hnd⟩:=hW
 have hA:DataW.TrodAll enc Tryz.prog W 0 (fun _=>true) true Tryz.f4.params.toList args.toList ds p:=hA0
 rw[Tryz.params4]at hA hval
 obtain ⟨v0,vs0,d0,ds0,p0,q0,hargs,rfl,rfl,h0,r0⟩:=trodAll_cons hA
 obtain ⟨v1,vs1,d1,ds1,p1,q1,rfl,rfl,rfl,h1,r1⟩:=trodAll_cons r0
 obtain ⟨v2,vs2,d2,ds2,p2,q2,rfl,rfl,rfl,h2,r2⟩:=trodAll_cons r1
 obtain ⟨v3,vs3,d3,ds3,p3,q3,rfl,rfl,rfl,h3,r3⟩:=trodAll_cons r2
 obtain ⟨v4,vs4,d4,ds4,p4,q4,rfl,rfl,rfl,h4,r4⟩:=trodAll_cons r3
 obtain ⟨v5,vs5,d5,ds5,p5,q5,rfl,rfl,rfl,h5,r5⟩:=trodAll_cons r4
 obtain ⟨rfl,rfl,rfl⟩:=trodAll_nil r5
 obtain rfl:args = #[v0,v1,v2,v3,v4,v5]:=by cases args;simp_all
 have hwt : ∀ (j t:Nat) d,(Tryz.f4.params.toList)[j]? = some t→([d0,d1,d2,d3,d4,d5])[j]? = some d→∀ z∈DataW.weights Tryz.prog t d,z≤reachBytes:=fun j t d ht hd z hz=>by
  have hl:=(Apf.1 ht).1
  have hl2:=(Apf.1 hd).1
  have:=Aqm.1 hwt0 z (DataW.weights_mem_each (j:=j) (t:=t) (d:=d) (by rw[Ap0 hl];exact ht) (by rw[Ap0 hl2];exact hd) z hz)
  simpa using this
 obtain ⟨x0,hx0,hr0⟩:=Add (hval 0 3 v0 rfl rfl) h0
 obtain ⟨x1,hx1,hr1⟩:=U8 (hval 1 26 v1 rfl rfl) h1
 obtain ⟨x2,hx2,hr2⟩:=U8 (hval 2 26 v2 rfl rfl) h2
 obtain ⟨x3,hx3,hr3⟩:=U8 (hval 3 26 v3 rfl rfl) h3
 obtain ⟨x4,hx4,hr4⟩:=U8 (hval 4 26 v4 rfl rfl) h4
 obtain ⟨x5,hr5⟩:=Ade (hval 5 22 v5 rfl rfl) h5
 refine (Agl (vs:=[v0,v1,v2,v3,v4,v5]) (Ajc x0 x1 x2 x3 x4 x5 hx0 hx1 hx2 hx3 hx4) Tryz.func4 (by kernel_rfl) (by kernel_rfl) Tryz.underlying4 rfl rfl ?_).mono fun e W' ⟨he,hx⟩=>⟨_,he,Agm Agc hW' rfl (by kernel_rfl) Tryz.underlying4 rfl (by kernel_rfl) hx⟩
 intro i t x v ht hx hv
 match i with
 | 0=>cases (show some 3=some t from ht);cases hx;cases hv;exact hr0
 | 1=>cases (show some 26=some t from ht);cases hx;cases hv;exact hr1
 | 2=>cases (show some 26=some t from ht);cases hx;cases hv;exact hr2
 | 3=>cases (show some 26=some t from ht);cases hx;cases hv;exact hr3
 | 4=>cases (show some 26=some t from ht);cases hx;cases hv;exact hr4
 | 5=>cases (show some 22=some t from ht);cases hx;cases hv;exact hr5
 | i+6=>cases hx
theorem AiX:laidOutB Tryz.prog=true:=by kernel_rfl
theorem AiY:((Rows.primBlindRow.inPlace == Tryz.prog.inPlace 4)&&(Rows.primBlindRow.unfollowed == Tryz.prog.unfollowed 4)&&(Rows.primBlindRow.recurses == Tryz.prog.recurses 4)&&(Rows.primBlindRow.named == Tryz.prog.varsNamed 4))=true:=by kernel_rfl
theorem AiZ:Tryz.prog.mayEnter=true:=by kernel_rfl
theorem Aja:joinedFacts Tryz.prog 4 Tryz.f4 Rows.primBlindSpec Rows.primBlindRow=true:=by
 have h:=AiY
 simp only[Api]at h
 obtain ⟨⟨⟨h1,h2⟩,h3⟩,h4⟩:=h
 unfold joinedFacts
 rw[AiX,h1,h2,h3,h4,AiZ]
 show _=true
 kernel_rfl
theorem primBlind_holds:Rows.PrimBlindSaid :=
 OpenClaim.holds_of_wide 4 Tryz.f4 rfl rfl rfl rfl rfl rfl rfl ⟨rfl,rfl,rfl,rfl,rfl⟩ rfl rfl rfl rfl rfl (by kernel_rfl) Tryz.func4 Aja
  (of_decide_eq_true (by kernel_rfl)) (by unfold Func.isWrapper;first | (rw[if_pos (by decide +kernel)];kernel_rfl) | (rw[if_neg (by decide +kernel)];exact ⟨rfl,rfl⟩))
  (fun os started H enc _=>Ajb os started H enc)
end Go.Proofs.YtokkbgpgaheakaaGreat
