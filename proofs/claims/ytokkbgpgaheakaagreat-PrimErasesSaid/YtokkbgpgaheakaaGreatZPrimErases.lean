/- Proved: for any number and any two arrays, the law PrimErases returns true and changes nothing. No condition. -/
import Derived.Test.YtokkbgpgaheakaaGreatRows
import Derived.WalkKit
import Derived.WalkSpells
import Derived.WalkLawsBesides
import Derived.Lib.Hide
import Derived.Laws.CopyOwn
import Derived.Deep.QuietTactic
import Derived.BigQuiet
import Derived.Orders
import Derived.Defers
import Derived.Recover
import Derived.Test.YtokkbgpgaheakaaGreatProg
import Derived.KernelRfl
import Derived.ProofKit
import Derived.OpenShut
import Derived.Maps.OwnRows
import Derived.Maps.Views
import Derived.Deep.RegionHeld3
import Derived.Deep.AppendLies
import Derived.Test.YtokkbgpgaheakaaGreatZc319e3bf
set_option linter.unusedSimpArgs false
set_option linter.unusedVariables false
set_option maxRecDepth 100000
open Array renaming getElem?_eq_getElem → Ap7, getElem?_eq_some_iff → Aqi, getD_eq_getD_getElem? → Aqo
open BitVec renaming ofNat → Ap5
open Bool renaming and_eq_true → Apt
open Classical renaming not_not → Apw
open Int renaming toNat → Apj, toNat_natCast → Apr, fdiv → Aqd
open Go.IntKind renaming wrap → Api, bits → Apv
open List renaming getElem?_eq_getElem → Apk, replicate → Apl, length_map → Apm, getD_eq_getElem?_getD → Apn, getElem?_eq_some_iff → Apo, length_cons → App, mem_of_getElem? → Apq, length_append → Apu, length_drop → Apy, length_take → Ap0, length_nil → Ap1, getElem?_map → Ap2, mem_cons → Ap4, append_nil → Ap6, append_assoc → Ap8, map_cons → Ap9, getElem?_append_left → Ap_, drop_eq_getElem_cons → Aqa, length_eq_zero_iff → Aqb, take_append_drop → Aqf, take_of_length_le → Aqh, range → Aqj, getElem_mem → Aql, getElem?_append_right → Aqn, length_replicate → Aqp, mem_cons_of_mem → Aqq, mem_append → Aqs, mem_map → Aqw, nil_append → Aqx
open Nat renaming le_refl → Apx, mul_le_mul_right → Ap3, mod_eq_of_lt → Aqc, mod_lt → Aqe, mul_comm → Aqg, lt_of_lt_of_le → Aqk, div_div_eq_div_mul → Aqm, pow_succ → Aqr, div_lt_iff_lt_mul → Aqu, zero_add → Aqv
open Option renaming map_eq_some_iff → Apz, bind_eq_some_iff → Aqt
open Option.some renaming injEq → Aps
namespace Go.Proofs.YtokkbgpgaheakaaGreat
open Go.ChangeShapes Go.WideShapes Go.ChangeAt Go.RowKit
set_option maxRecDepth 100000 in
theorem Ajp(os:Os)(started:os.Started)(H:Type)(enc:TypeId×Value→H) :
  ReturnsInHanded {} Tryz.checked os 6 .any (Rows.primErasesSpec.pre6 enc Tryz.prog Tryz.f6 Rows.primErasesRow.domain false) (Rows.primErasesSpec.post enc Tryz.prog Tryz.f6 false true false false):=by
 refine returnsInHanded_of_change_sized (C:=Tryz.checked) Agn started (by kernel_rfl) Tryz.func6
  (ChangeSpec.witness6 (enc:=enc) (C:=Tryz.checked) false ⟨#[],#[.int .i64 0,.agg #[.int .u64 0,.slice none 0 0,.slice none 0 0],.agg #[.int .u64 0,.slice none 0 0,.slice none 0 0]],[]⟩ 16 (by kernel_rfl) (by kernel_rfl) (by kernel_rfl) (by kernel_rfl)) ?_
 intro W base args ds gs before hval0 hW hcnd hwt0 _
 have hval : ∀ (j:Nat) t v,Tryz.f6.params[j]? = some t→args[j]? = some v→Value.okWide Tryz.prog W .any base t v:=hval0
 have hW':=hW
 obtain ⟨p,q,hA0,hV,rfl,hfz,hnd⟩:=hW
 have hA:DataW.TrodAll enc Tryz.prog W 0 (fun _=>true) true Tryz.f6.params.toList args.toList ds p:=hA0
 rw[Tryz.params6]at hA hval
 obtain ⟨v0,vs0,d0,ds0,p0,q0,hargs,rfl,rfl,h0,r0⟩:=trodAll_cons hA
 obtain ⟨v1,vs1,d1,ds1,p1,q1,rfl,rfl,rfl,h1,r1⟩:=trodAll_cons r0
 obtain ⟨v2,vs2,d2,ds2,p2,q2,rfl,rfl,rfl,h2,r2⟩:=trodAll_cons r1
 obtain ⟨rfl,rfl,rfl⟩:=trodAll_nil r2
 obtain rfl:args = #[v0,v1,v2]:=by cases args;simp_all
 have hwt : ∀ (j t:Nat) d,(Tryz.f6.params.toList)[j]? = some t→([d0,d1,d2])[j]? = some d→∀ z∈DataW.weights Tryz.prog t d,z≤reachBytes:=fun j t d ht hd z hz=>by
  have hl:=(Apo.1 ht).1
  have hl2:=(Apo.1 hd).1
  have:=List.all_eq_true.1 hwt0 z (DataW.weights_mem_each (j:=j) (t:=t) (d:=d) (by rw[Ap_ hl];exact ht) (by rw[Ap_ hl2];exact hd) z hz)
  simpa using this
 obtain ⟨x0,hx0,hr0⟩:=Add (hval 0 3 v0 rfl rfl) h0
 obtain ⟨x1,hx1,hr1⟩:=NL (hval 1 26 v1 rfl rfl) h1
 obtain ⟨x2,hx2,hr2⟩:=NL (hval 2 26 v2 rfl rfl) h2
 refine (Agz (vs:=[v0,v1,v2]) (Ajq x0 x1 x2 hx0 hx1 hx2) Tryz.func6 (by kernel_rfl) (by kernel_rfl) Tryz.underlying4 rfl rfl ?_).mono fun e W' ⟨he,hx⟩=>⟨_,he,Ag0 Agq hW' rfl (by kernel_rfl) Tryz.underlying4 rfl (by kernel_rfl) hx⟩
 intro i t x v ht hx hv
 match i with
 | 0=>cases (show some 3=some t from ht);cases hx;cases hv;exact hr0
 | 1=>cases (show some 26=some t from ht);cases hx;cases hv;exact hr1
 | 2=>cases (show some 26=some t from ht);cases hx;cases hv;exact hr2
 | i+3=>cases hx
theorem Ajl:laidOutB Tryz.prog=true:=by kernel_rfl
theorem Ajm:((Rows.primErasesRow.inPlace == Tryz.prog.inPlace 6)&&(Rows.primErasesRow.unfollowed == Tryz.prog.unfollowed 6)&&(Rows.primErasesRow.recurses == Tryz.prog.recurses 6)&&(Rows.primErasesRow.named == Tryz.prog.varsNamed 6))=true:=by kernel_rfl
theorem Ajn:Tryz.prog.mayEnter=true:=by kernel_rfl
theorem Ajo:joinedFacts Tryz.prog 6 Tryz.f6 Rows.primErasesSpec Rows.primErasesRow=true:=by
 have h:=Ajm
 simp only[Apt]at h
 obtain ⟨⟨⟨h1,h2⟩,h3⟩,h4⟩:=h
 unfold joinedFacts
 rw[Ajl,h1,h2,h3,h4,Ajn]
 show _=true
 kernel_rfl
theorem primErases_holds:Rows.PrimErasesSaid :=
 OpenClaim.holds_of_wide 6 Tryz.f6 rfl rfl rfl rfl rfl rfl rfl ⟨rfl,rfl,rfl,rfl,rfl⟩ rfl rfl rfl rfl rfl (by kernel_rfl) Tryz.func6 Ajo
  (of_decide_eq_true (by kernel_rfl)) (by unfold Func.isWrapper;first | (rw[if_pos (by decide +kernel)];kernel_rfl) | (rw[if_neg (by decide +kernel)];exact ⟨rfl,rfl⟩))
  (fun os started H enc _=>Ajp os started H enc)
end Go.Proofs.YtokkbgpgaheakaaGreat
