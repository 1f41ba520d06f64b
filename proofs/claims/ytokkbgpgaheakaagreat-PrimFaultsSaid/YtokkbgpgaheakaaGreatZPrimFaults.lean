/- Proved: for any number and any four arrays, the law PrimFaults returns true and changes nothing. No condition. -/
import Derived.Test.YtokkbgpgaheakaaGreatRows
import Derived.WalkKit
import Derived.WalkSpells
import Derived.WalkLawsBesides
import Derived.Lib.Hide
import Derived.Laws.CopyOwn
import Derived.Deep.QuietTactic
import Derived.BigQuiet
import Derived.Orders
import Derived.Defers
import Derived.Recover
import Derived.Test.YtokkbgpgaheakaaGreatProg
import Derived.KernelRfl
import Derived.ProofKit
import Derived.OpenShut
import Derived.Maps.OwnRows
import Derived.Maps.Views
import Derived.Deep.RegionHeld3
import Derived.Deep.AppendLies
import Derived.Test.YtokkbgpgaheakaaGreatZ83ea62fb
set_option linter.unusedSimpArgs false
set_option linter.unusedVariables false
set_option maxRecDepth 100000
open Array renaming getElem?_eq_getElem → Amy, getElem?_eq_some_iff → Am8, getD_eq_getD_getElem? → Ana
open BitVec renaming ofNat → Amt
open Bool renaming and_eq_true → Ami
open Classical renaming not_not → Amn
open Int renaming toNat → Ama, toNat_natCast → Amj, fdiv → Am3
open Go.IntKind renaming wrap → Al6, bits → Aml
open List renaming getElem?_eq_getElem → Amb, replicate → Amc, length_map → Amd, getElem?_eq_some_iff → Ame, getD_eq_getElem?_getD → Amf, length_cons → Amg, mem_of_getElem? → Amh, length_append → Amm, length_drop → Amp, length_take → Amr, getElem?_map → Ams, length_nil → Amu, mem_cons → Amw, append_nil → Amx, append_assoc → Amz, getElem?_append_left → Am0, length_eq_zero_iff → Am1, drop_eq_getElem_cons → Am2, take_append_drop → Am6, take_of_length_le → Am7, range → Am9, length_replicate → Anf, getElem_mem → Anh, map_cons → Ani, all_eq_true → Ank, nil_append → Anm
open Nat renaming le_refl → Amo, mul_le_mul_right → Amv, mod_eq_of_lt → Am4, mod_lt → Am5, lt_of_lt_of_le → Am_, mul_comm → Anb, pow_succ → Anc, div_div_eq_div_mul → Ane, div_lt_iff_lt_mul → Anj, zero_add → Anl, lt_or_ge → Ann
open Option renaming map_eq_some_iff → Amq, bind_eq_some_iff → Ang
open Option.some renaming injEq → Amk
namespace Go.Proofs.YtokkbgpgaheakaaGreat
open Go.ChangeShapes Go.WideShapes Go.ChangeAt Go.RowKit
set_option maxRecDepth 100000 in
theorem AgI(os:Os)(started:os.Started)(H:Type)(enc:TypeId×Value→H) :
  ReturnsInHanded {} Tryz.checked os 5 .any (Rows.primFaultsSpec.pre6 enc Tryz.prog Tryz.f5 Rows.primFaultsRow.domain false) (Rows.primFaultsSpec.post enc Tryz.prog Tryz.f5 false true false false):=by
 refine returnsInHanded_of_change_sized (C:=Tryz.checked) AdU started (by kernel_rfl) Tryz.func5
  (ChangeSpec.witness6 (enc:=enc) (C:=Tryz.checked) false ⟨#[],#[.int .i64 0,.agg #[.int .u64 0,.slice none 0 0,.slice none 0 0],.agg #[.int .u64 0,.slice none 0 0,.slice none 0 0],.agg #[.int .u64 0,.slice none 0 0,.slice none 0 0],.agg #[.int .u64 0,.slice none 0 0,.slice none 0 0],.int .u64 0],[]⟩ 16 (by kernel_rfl) (by kernel_rfl) (by kernel_rfl) (by kernel_rfl)) ?_
 intro W base args ds gs before hval0 hW hcnd hwt0 _
 have hval : ∀ (j:Nat) t v,Tryz.f5.params[j]? = some t→args[j]? = some v→Value.okWide Tryz.prog W .any base t v:=hval0
 have hW':=hW
 obtain ⟨p,q,hA0,hV,rfl,hfz,hnd⟩:=hW
 have hA:DataW.TrodAll enc Tryz.prog W 0 (fun _=>true) true Tryz.f5.params.toList args.toList ds p:=hA0
 rw[Tryz.params5]at hA hval
 obtain ⟨v0,vs0,d0,ds0,p0,q0,hargs,rfl,rfl,h0,r0⟩:=trodAll_cons hA
 obtain ⟨v1,vs1,d1,ds1,p1,q1,rfl,rfl,rfl,h1,r1⟩:=trodAll_cons r0
 obtain ⟨v2,vs2,d2,ds2,p2,q2,rfl,rfl,rfl,h2,r2⟩:=trodAll_cons r1
 obtain ⟨v3,vs3,d3,ds3,p3,q3,rfl,rfl,rfl,h3,r3⟩:=trodAll_cons r2
 obtain ⟨v4,vs4,d4,ds4,p4,q4,rfl,rfl,rfl,h4,r4⟩:=trodAll_cons r3
 obtain ⟨v5,vs5,d5,ds5,p5,q5,rfl,rfl,rfl,h5,r5⟩:=trodAll_cons r4
 obtain ⟨rfl,rfl,rfl⟩:=trodAll_nil r5
 obtain rfl:args = #[v0,v1,v2,v3,v4,v5]:=by cases args;simp_all
 have hwt : ∀ (j t:Nat) d,(Tryz.f5.params.toList)[j]? = some t→([d0,d1,d2,d3,d4,d5])[j]? = some d→∀ z∈DataW.weights Tryz.prog t d,z≤reachBytes:=fun j t d ht hd z hz=>by
  have hl:=(Ame.1 ht).1
  have hl2:=(Ame.1 hd).1
  have:=Ank.1 hwt0 z (DataW.weights_mem_each (j:=j) (t:=t) (d:=d) (by rw[Am0 hl];exact ht) (by rw[Am0 hl2];exact hd) z hz)
  simpa using this
 obtain ⟨x0,hx0,hr0⟩:=Abq (hval 0 3 v0 rfl rfl) h0
 obtain ⟨x1,hx1,hr1⟩:=S3 (hval 1 26 v1 rfl rfl) h1
 obtain ⟨x2,hx2,hr2⟩:=S3 (hval 2 26 v2 rfl rfl) h2
 obtain ⟨x3,hx3,hr3⟩:=S3 (hval 3 26 v3 rfl rfl) h3
 obtain ⟨x4,hx4,hr4⟩:=S3 (hval 4 26 v4 rfl rfl) h4
 obtain ⟨x5,hr5⟩:=Abr (hval 5 22 v5 rfl rfl) h5
 refine (Aef (vs:=[v0,v1,v2,v3,v4,v5]) (AgJ x0 x1 x2 x3 x4 x5 hx0 hx1 hx2 hx3 hx4) Tryz.func5 (by kernel_rfl) (by kernel_rfl) Tryz.underlying4 rfl rfl ?_).mono fun e W' ⟨he,hx⟩=>⟨_,he,Aeg AdW hW' rfl (by kernel_rfl) Tryz.underlying4 rfl (by kernel_rfl) hx⟩
 intro i t x v ht hx hv
 match i with
 | 0=>cases (show some 3=some t from ht);cases hx;cases hv;exact hr0
 | 1=>cases (show some 26=some t from ht);cases hx;cases hv;exact hr1
 | 2=>cases (show some 26=some t from ht);cases hx;cases hv;exact hr2
 | 3=>cases (show some 26=some t from ht);cases hx;cases hv;exact hr3
 | 4=>cases (show some 26=some t from ht);cases hx;cases hv;exact hr4
 | 5=>cases (show some 22=some t from ht);cases hx;cases hv;exact hr5
 | i+6=>cases hx
theorem AgE:laidOutB Tryz.prog=true:=by kernel_rfl
theorem AgF:((Rows.primFaultsRow.inPlace == Tryz.prog.inPlace 5)&&(Rows.primFaultsRow.unfollowed == Tryz.prog.unfollowed 5)&&(Rows.primFaultsRow.recurses == Tryz.prog.recurses 5)&&(Rows.primFaultsRow.named == Tryz.prog.varsNamed 5))=true:=by kernel_rfl
theorem AgG:Tryz.prog.mayEnter=true:=by kernel_rfl
theorem AgH:joinedFacts Tryz.prog 5 Tryz.f5 Rows.primFaultsSpec Rows.primFaultsRow=true:=by
 have h:=AgF
 simp only[Ami]at h
 obtain ⟨⟨⟨h1,h2⟩,h3⟩,h4⟩:=h
 unfold joinedFacts
 rw[AgE,h1,h2,h3,h4,AgG]
 show _=true
 kernel_rfl
theorem primFaults_holds:Rows.PrimFaultsSaid :=
 OpenClaim.holds_of_wide 5 Tryz.f5 rfl rfl rfl rfl rfl rfl rfl ⟨rfl,rfl,rfl,rfl,rfl⟩ rfl rfl rfl rfl rfl (by kernel_rfl) Tryz.func5 AgH
  (of_decide_eq_true (by kernel_rfl)) (by unfold Func.isWrapper;first | (rw[if_pos (by decide +kernel)];kernel_rfl) | (rw[if_neg (by decide +kernel)];exact ⟨rfl,rfl⟩))
  (fun os started H enc _=>AgI os started H enc)
end Go.Proofs.YtokkbgpgaheakaaGreat
