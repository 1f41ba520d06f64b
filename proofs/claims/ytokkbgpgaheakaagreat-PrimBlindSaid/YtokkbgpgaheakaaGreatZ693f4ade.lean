/- Proved: lemmas for the law of this folder, part 4. No condition. -/
import Derived.Test.YtokkbgpgaheakaaGreatRows
import Derived.WalkKit
import Derived.WalkSpells
import Derived.WalkLawsBesides
import Derived.Lib.Hide
import Derived.Laws.CopyOwn
import Derived.Deep.QuietTactic
import Derived.BigQuiet
import Derived.Orders
import Derived.Defers
import Derived.Recover
import Derived.Test.YtokkbgpgaheakaaGreatProg
import Derived.KernelRfl
import Derived.ProofKit
import Derived.OpenShut
import Derived.Maps.OwnRows
import Derived.Maps.Views
import Derived.Deep.RegionHeld3
import Derived.Deep.AppendLies
import Derived.Test.YtokkbgpgaheakaaGreatZ83052a5d
set_option linter.unusedSimpArgs false
set_option linter.unusedVariables false
set_option maxRecDepth 100000
open Array renaming getElem?_eq_getElem → Apy, getElem?_eq_some_iff → Aqa, getD_eq_getD_getElem? → Aqf
open BitVec renaming ofNat → Apw
open Bool renaming and_eq_true → Api
open Classical renaming not_not → Apm
open Int renaming toNat → Apa, toNat_natCast → Apj, fdiv → Ap3
open Go.IntKind renaming wrap → Aom, bits → Apl
open List renaming getElem?_eq_getElem → Apb, replicate → Apc, length_map → Apd, getD_eq_getElem?_getD → Ape, getElem?_eq_some_iff → Apf, length_cons → Apg, mem_of_getElem? → Aph, length_append → Apn, length_drop → App, length_take → Apr, getElem?_map → Aps, mem_cons → Apt, length_nil → Apv, append_nil → Apx, append_assoc → Apz, getElem?_append_left → Ap0, drop_eq_getElem_cons → Ap1, length_eq_zero_iff → Ap2, take_append_drop → Ap5, map_cons → Ap7, range → Ap8, take_of_length_le → Ap_, getElem_mem → Aqc, getElem?_append_right → Aqe, length_replicate → Aqg, mem_append → Aqh, length → Aql, all_eq_true → Aqm, nil_append → Aqp
open Nat renaming le_refl → Apo, mul_le_mul_right → Apu, mod_lt → Ap4, mod_eq_of_lt → Ap6, mul_comm → Ap9, lt_of_lt_of_le → Aqb, div_div_eq_div_mul → Aqd, pow_succ → Aqj, div_lt_iff_lt_mul → Aqk, lt_or_ge → Aqn, zero_add → Aqo
open Option renaming map_eq_some_iff → Apq, bind_eq_some_iff → Aqi
open Option.some renaming injEq → Apk
namespace Go.Proofs.YtokkbgpgaheakaaGreat
def UO:List (Nat×FMode):=[(299,{ own:=[(0,[])] }),(96,{ own:=[(0,[])] }),(139,{ own:=[(0,[])] }),(247,{ own:=[(0,[])] }),(248,{ own:=[(0,[])] }),(175,{ own:=[(0,[])] }),(331,{ arg:=some 0,back:=true }),(144,{ arg:=some 0,back:=true }),(97,{ noop:=true }),(103,{ noop:=true }),(180,{ noop:=true }),(183,{ noop:=true }),(184,{ noop:=true }),(186,{ noop:=true }),(151,{ noop:=true }),(154,{ noop:=true }),(187,{ noop:=true }),(191,{ noop:=true }),(89,{ noop:=true }),(94,{ noop:=true }),(141,{ noop:=true }),(143,{ noop:=true }),(85,{ noop:=true }),(99,{ own:=[(0,[0]),(0,[1])] }),(150,{ own:=[(0,[])],arg:=some 0 }),(250,{ arg:=some 0,back:=true }),(251,{ arg:=some 0,back:=true }),(300,{ arg:=some 0,back:=true }),(322,{ arg:=some 0,back:=true }),(217,{ arg:=some 0,back:=true }),(155,{ arg:=some 0,back:=true }),(336,{ own:=[(0,[])] }),(174,{ own:=[(0,[])],arg:=some 1 }),(93,{ arg:=some 0,back:=true }),(95,{ arg:=some 0,back:=true }),(142,{ arg:=some 0,back:=true }),(145,{ arg:=some 0,back:=true }),(1000000+94,{ arg:=some 0,back:=true })]
def md(f:Nat):FMode:=Sx UO f
theorem Lz:WfP Tryz.prog:=Aon (by kernel_rfl)
theorem AgJ:Tryz.prog.follows .mixedOrders=true:=by kernel_rfl
theorem AhD:Fu Tryz.prog 97:=Gs (by kernel_rfl)
theorem AhE:Fu Tryz.prog 103:=Gs (by kernel_rfl)
theorem AhK:Fu Tryz.prog 180:=Gs (by kernel_rfl)
theorem AhL:Fu Tryz.prog 183:=Gs (by kernel_rfl)
theorem AhM:Fu Tryz.prog 184:=Gs (by kernel_rfl)
theorem AhN:Fu Tryz.prog 186:=Gs (by kernel_rfl)
theorem AhO:Fu Tryz.prog 151:=Gs (by kernel_rfl)
theorem AhP:Fu Tryz.prog 154:=Gs (by kernel_rfl)
theorem AhQ:Fu Tryz.prog 187:=Gs (by kernel_rfl)
theorem AhR:Fu Tryz.prog 191:=Gs (by kernel_rfl)
theorem AhF:Fu Tryz.prog 89:=Gs (by kernel_rfl)
theorem AhG:Fu Tryz.prog 94:=Gs (by kernel_rfl)
theorem AhH:Fu Tryz.prog 141:=Gs (by kernel_rfl)
theorem AhI:Fu Tryz.prog 143:=Gs (by kernel_rfl)
theorem AhJ:Fu Tryz.prog 85:=Gs (by kernel_rfl)
theorem AhC:U4 Tryz.prog md:=AhS (by
 intro p hp hn
 simp only[UO,Apt,List.not_mem_nil,or_false]at hp
 rcases hp with rfl | rfl | rfl | rfl | rfl | rfl | rfl | rfl | rfl | rfl | rfl | rfl | rfl | rfl | rfl | rfl | rfl | rfl | rfl | rfl | rfl | rfl | rfl | rfl | rfl | rfl | rfl | rfl | rfl | rfl | rfl | rfl | rfl | rfl | rfl | rfl | rfl | rfl
 all_goals first | exact absurd hn (by decide) | skip
 · exact AhD
 · exact AhE
 · exact AhK
 · exact AhL
 · exact AhM
 · exact AhN
 · exact AhO
 · exact AhP
 · exact AhQ
 · exact AhR
 · exact AhF
 · exact AhG
 · exact AhH
 · exact AhI
 · exact AhJ
 )
theorem Af{f:Nat}{cts:List CT}{xs ys:List D}{orc:List (Nat×Orc)}{t:Tree}(n:Nat)(h:Wf Tryz.prog md orc n f cts xs=t)(ht:t.wp Tryz.prog md (fun zs=>zs=ys)):D_ Tryz.prog md f cts xs ys :=
 Afx Lz AgJ AhC (orc:=orc) (n:=n) (by rw[h];exact ht)
def Kx:ByteArray:=(⟨#[0,1,2,2,3,3,3,3,4,4,4,4,4,4,4,4,5,5,5,5,5,5,5,5,5,5,5,5,5,5,5,5,6,6,6,6,6,6,6,6,6,6,6,6,6,6,6,6,6,6,6,6,6,6,6,6,6,6,6,6,6,6,6,6,7,7,7,7,7,7,7,7,7,7,7,7,7,7,7,7,7,7,7,7,7,7,7,7,7,7,7,7,7,7,7,7,7,7,7,7,7,7,7,7,7,7,7,7,7,7,7,7,7,7,7,7,7,7,7,7,7,7,7,7,7,7,7,7,8,8,8,8,8,8,8,8,8,8,8,8,8,8,8,8,8,8,8,8,8,8,8,8,8,8,8,8,8,8,8,8,8,8,8,8,8,8,8,8,8,8,8,8,8,8,8,8,8,8,8,8,8,8,8,8,8,8,8,8,8,8,8,8,8,8,8,8,8,8,8,8,8,8,8,8,8,8,8,8,8,8,8,8,8,8,8,8,8,8,8,8,8,8,8,8,8,8,8,8,8,8,8,8,8,8,8,8,8,8,8,8,8,8,8,8,8,8,8,8,8,8,8,8,8,8,8,8]⟩:ByteArray)
noncomputable def eA(O:List (Nat×Orc))(n F:Nat)(p:List Nat):=ev Tryz.prog md n O (Lb (FB Tryz.prog F) p)
noncomputable def jA(O:List (Nat×Orc))(n F:Nat)(p:List Nat):=Xj Tryz.prog md (Xi O (Lb (FB Tryz.prog F) p)) (ev Tryz.prog md n O (Lb (FB Tryz.prog F) p))
noncomputable def rA(F:Nat)(a:List Nat)(b:List ResultVar)(c:List Nat):=LB Tryz.prog md (md F) a b c
noncomputable def lA:=Wg Tryz.prog md
noncomputable abbrev fA:=Wf Tryz.prog md
noncomputable abbrev kK (c:Prop) [Decidable c] (t:Tree):Tree:= .br (decide c) t .fail
noncomputable abbrev bK (c:Prop) [Decidable c] (t e:Tree):Tree:= .br (decide c) t e
noncomputable abbrev cK (f:Nat) (x:List D) (k:List D→Tree):Tree:= .call f [] x k
def uA(n:Nat):List L:=Apc n .undef
def Vd:List (Nat×Orc):=[(5,⟨[(4,none),(18,some 24),(19,none),(20,none)],[],[(.slot 4,1050,3)]⟩)]
noncomputable def Vc(n m5:Nat)(out4:List D)(t18:D)(t19 t20:Int):Tree :=
 lA (eA Vd n 80 [1,1,1,0,1,0,0]) (An Vd 5) m5 ⟨(uA 4++(.row 1050::uA 13++(.d 24 t18:: .i .i64 t19:: .i .i64 t20::uA 22))),[(1050,.row 3 out4 true)],[1050],[],[]⟩
  (Ak 0 (Aq (jA Vd n 80 [1,1,1,1]) (rA 80 [26] [.tmp 2,.tmp 3] [23,29])))
theorem OF(n m5:Nat)(out4:List D)(t18:D)(t19 t20:Int):Vc n (m5+1) out4 t18 t19 t20 =
 bK (t20<t19) (kK (0≤t20) (kK (t20<(t18.els.length:Int)) (cK 166 [(t18.els.getD (Apa t20) D.nil).fld 2] fun Y1 =>
 .br ((((t18.els.getD (Apa t20) D.nil).fld 1).toInt)!=0) (.ret [D.sl [],D.int 3])
 (.br (!((qB Y1).toBool)) (.ret [D.sl [],D.int 3])
 (kK (out4.length + [D.int ((qA Y1).toInt)].length≤Am) (Vc n m5 (out4++[D.int ((qA Y1).toInt)]) t18 t19 (Aom .i64 (t20+1))))))))
 (.ret [D.sl out4,D.int 0]):=by kernel_rfl
theorem Adk(n:Nat)(a0:D):fA Vd n 80 [] [a0] =
 bK (1<(((a0.fld 1).els).length:Int)) (.ret [D.sl [],D.int 5])
 (kK (0≤0) (kK (0≤(((a0.fld 2).els).length:Int)) (kK ((((a0.fld 2).els).length:Int)≤Am) (Vc n n (Apc (Apa 0) (D.int 0)) (a0.fld 2) (((a0.fld 2).els).length:Int) 0)))):=by kernel_rfl
theorem Adi(n:Nat)(a0:D):fA [] n 82 [] [a0] =
 .br ((((a0.fld 2).els).length:Int)==0) (cK 138 [D.int 0] fun Y1 =>
 .ret [qA Y1])
 (cK 138 [D.int 0] fun Y2 =>
 kK (0≤0) (kK (0<(((a0.fld 2).els).length:Int)) (.br ((((((a0.fld 2).els).getD (Apa 0) D.nil).fld 1).toInt)==1) (cK 171 [D.int 32] fun Y3 =>
 kK (0≤0) (kK (0<(((a0.fld 2).els).length:Int)) (.ret [D.agg [D.int (((((a0.fld 2).els).getD (Apa 0) D.nil).fld 0).toInt),D.int (((qA Y3).fld 1).toInt),(qA Y3).fld 2,D.int (((qA Y3).fld 3).toInt),(qA Y3).fld 4]])))
 (kK (0≤0) (kK (0<(((a0.fld 2).els).length:Int)) (.ret [D.agg [D.int (((((a0.fld 2).els).getD (Apa 0) D.nil).fld 0).toInt),D.int (((qA Y2).fld 1).toInt),(qA Y2).fld 2,D.int (((qA Y2).fld 3).toInt),(qA Y2).fld 4]])))))):=by kernel_rfl
def If:List (Nat×Orc):=[(3,⟨[(3,none),(11,some 24),(12,none),(13,none)],[],[]⟩),(7,⟨[(3,none),(11,some 24),(12,none),(13,none),(22,some 65),(23,none),(24,none)],[],[]⟩)]
noncomputable def Vf(n m3 m7:Nat)(out3:Int)(t11:D)(t12 t13:Int)(t22:D)(t23 t24:Int):Tree :=
 lA (eA If n 84 [1,1,0,1,0,0,1,1,0,0,1,1,1,0,0]) (An If 7) m7 ⟨(uA 3++(.i .u64 out3::uA 7++(.d 24 t11:: .i .i64 t12:: .i .i64 t13::uA 8++(.d 65 t22:: .i .i64 t23:: .i .i64 t24::uA 10)))),[],[],[],[]⟩
  (Ak 2 (Ak 1 (Aq (jA If n 84 [1,1,0,1,0,0,1,1,1]) (Gb Tryz.prog md (An If 3) (fun s1=>lA (eA If n 84 [1,1,0,1,0,0]) (An If 3) m3 s1 (Ak 0 (Aq (jA If n 84 [1,1,1]) (rA 84 [26] [.tmp 2] [22])))) (Ak 0 (Aq (jA If n 84 [1,1,1]) (rA 84 [26] [.tmp 2] [22])))))))
noncomputable def Ve(n m3:Nat)(out3:Int)(t11:D)(t12 t13:Int):Tree :=
 lA (eA If n 84 [1,1,0,1,0,0]) (An If 3) m3 ⟨(uA 3++(.i .u64 out3::uA 7++(.d 24 t11:: .i .i64 t12:: .i .i64 t13::uA 21))),[],[],[],[]⟩
  (Ak 0 (Aq (jA If n 84 [1,1,1]) (rA 84 [26] [.tmp 2] [22])))
theorem OJ(n m3 m7:Nat)(out3:Int)(t11:D)(t12 t13:Int)(t22:D)(t23 t24:Int):Vf n m3 (m7+1) out3 t11 t12 t13 t22 t23 t24 =
 bK (t24<t23) (kK (0≤t24) (kK (t24<(t22.els.length:Int)) (cK 84 [t22.els.getD (Apa t24) D.nil] fun Y2 =>
 cK 83 [D.int out3,D.int ((qA Y2).toInt)] fun Y3 =>
 Vf n m3 m7 ((qA Y3).toInt) t11 t12 t13 t22 t23 (Aom .i64 (t24+1)))))
 (Ve n m3 out3 t11 t12 (Aom .i64 (t13+1))):=by kernel_rfl
theorem OI(n m3:Nat)(out3:Int)(t11:D)(t12 t13:Int):Ve n (m3+1) out3 t11 t12 t13 =
 bK (t13<t12) (kK (0≤t13) (kK (t13<(t11.els.length:Int)) (cK 83 [D.int out3,D.int (((t11.els.getD (Apa t13) D.nil).fld 0).toInt)] fun Y1 =>
 Vf n m3 n ((qA Y1).toInt) t11 t12 t13 ((t11.els.getD (Apa t13) D.nil).fld 4) ((((t11.els.getD (Apa t13) D.nil).fld 4).els).length:Int) 0)))
 (.ret [D.int out3]):=by kernel_rfl
theorem Adq(n:Nat)(a0:D):fA If n 84 [] [a0] =
 Ve n n ((a0.fld 0).toInt) (a0.fld 2) (((a0.fld 2).els).length:Int) 0:=by kernel_rfl
theorem Adn(n:Nat)(a0 l1:D):fA [] n 90 [] [a0,l1] =
 cK 83 [D.int ((a0.fld 0).toInt),D.int l1.toInt] fun Y1 =>
 .ret [D.agg [D.int ((qA Y1).toInt),a0.fld 1,a0.fld 2]]:=by kernel_rfl
theorem Adr(n:Nat)(c0:D):fA [] n 104 [] [c0] =
 .br (((c0.fld 1).toInt)==2) (.br ((((c0.fld 4).els).length:Int)==1) (kK (0≤0) (kK (0<(((c0.fld 4).els).length:Int)) (cK 90 [((c0.fld 4).els).getD (Apa 0) D.nil,D.int ((c0.fld 0).toInt)] fun Y1 =>
 .ret [qA Y1])))
 (cK 178 [c0] fun Y2 =>
 cK 90 [qA Y2,D.int ((c0.fld 0).toInt)] fun Y3 =>
 .ret [qA Y3]))
 (cK 178 [c0] fun Y4 =>
 cK 90 [qA Y4,D.int ((c0.fld 0).toInt)] fun Y5 =>
 .ret [qA Y5]):=by kernel_rfl
theorem Adj(n:Nat)(nn0:D):fA [] n 138 [] [nn0] =
 cK 212 [D.int nn0.toInt] fun Y1 =>
 .ret [D.agg [D.int 0,D.int 0,qA Y1,D.int 0,D.sl []]]:=by kernel_rfl
theorem Adp(n:Nat)(a0:D):fA [] n 146 [] [a0] =
 cK 213 [a0] fun Y1 =>
 .br ((qA Y1).toBool) (kK (0≤0) (kK (0<(((a0.fld 2).els).length:Int)) (.ret [D.bool ((((((a0.fld 2).els).getD (Apa 0) D.nil).fld 1).toInt)!=2)])))
 (.ret [D.bool false]):=by kernel_rfl
def Ie:List (Nat×Orc):=[(5,⟨[(3,none),(11,some 24),(12,none),(13,none)],[],[]⟩),(8,⟨[(3,none),(11,some 24),(12,none),(13,none),(18,some 65),(19,none),(20,none)],[],[]⟩)]
noncomputable def Va(n m5 m8:Nat)(out3:Int)(t11:D)(t12 t13:Int)(t18:D)(t19 t20:Int):Tree :=
 lA (eA Ie n 147 [1,1,1,0,1,0,0,1,1,0,0,1,1,0,0]) (An Ie 8) m8 ⟨(uA 3++(.i .i64 out3::uA 7++(.d 24 t11:: .i .i64 t12:: .i .i64 t13::uA 4++(.d 65 t18:: .i .i64 t19:: .i .i64 t20::uA 11)))),[],[],[],[]⟩
  (Ak 2 (Ak 1 (Aq (jA Ie n 147 [1,1,1,0,1,0,0,1,1,1]) (Gb Tryz.prog md (An Ie 5) (fun s1=>lA (eA Ie n 147 [1,1,1,0,1,0,0]) (An Ie 5) m5 s1 (Ak 0 (Aq (jA Ie n 147 [1,1,1,1]) (rA 147 [26] [.tmp 2] [3])))) (Ak 0 (Aq (jA Ie n 147 [1,1,1,1]) (rA 147 [26] [.tmp 2] [3])))))))
noncomputable def U_(n m5:Nat)(out3:Int)(t11:D)(t12 t13:Int):Tree :=
 lA (eA Ie n 147 [1,1,1,0,1,0,0]) (An Ie 5) m5 ⟨(uA 3++(.i .i64 out3::uA 7++(.d 24 t11:: .i .i64 t12:: .i .i64 t13::uA 18))),[],[],[],[]⟩
  (Ak 0 (Aq (jA Ie n 147 [1,1,1,1]) (rA 147 [26] [.tmp 2] [3])))
theorem OE(n m5 m8:Nat)(out3:Int)(t11:D)(t12 t13:Int)(t18:D)(t19 t20:Int):Va n m5 (m8+1) out3 t11 t12 t13 t18 t19 t20 =
 bK (t20<t19) (kK (0≤t20) (kK (t20<(t18.els.length:Int)) (cK 147 [t18.els.getD (Apa t20) D.nil] fun Y2 =>
 Va n m5 m8 (if out3<((qA Y2).toInt) then ((qA Y2).toInt) else out3) t11 t12 t13 t18 t19 (Aom .i64 (t20+1)))))
 (U_ n m5 out3 t11 t12 (Aom .i64 (t13+1))):=by kernel_rfl
theorem OD(n m5:Nat)(out3:Int)(t11:D)(t12 t13:Int):U_ n (m5+1) out3 t11 t12 t13 =
 bK (t13<t12) (kK (0≤t13) (kK (t13<(t11.els.length:Int)) (Va n m5 n out3 t11 t12 t13 ((t11.els.getD (Apa t13) D.nil).fld 4) ((((t11.els.getD (Apa t13) D.nil).fld 4).els).length:Int) 0)))
 (.ret [D.int (Aom .i64 (out3+1))]):=by kernel_rfl
theorem Adh(n:Nat)(a0:D):fA Ie n 147 [] [a0] =
 cK 146 [a0] fun Y1 =>
 .br ((qA Y1).toBool) (.ret [D.int 0])
 (U_ n n 0 (a0.fld 2) (((a0.fld 2).els).length:Int) 0):=by kernel_rfl
def Vh:List (Nat×Orc):=[(3,⟨[(0,some 24),(2,none),(3,none),(9,some 24),(10,none),(11,none)],[(2,false)],[(.slot 3,1030,67)]⟩)]
noncomputable def Vg(n m3:Nat)(l0:D)(cells3:List D)(t9:D)(t10 t11 t2_0:Int):Tree :=
 lA (eA Vh n 149 [1,1,0,1,0,0]) (An Vh 3) m3 ⟨(.d 24 l0:: .undef:: .ptr 2 []:: .row 1030::uA 5++(.d 24 t9:: .i .i64 t10:: .i .i64 t11::uA 15)),[(2,.var 26 (.agg 26 [.i .u64 t2_0,.mt,.mt]) true),(1030,.row 67 cells3 true)],[2,1030],[],[]⟩
  (Ak 0 (Aq (jA Vh n 149 [1,1,1]) (rA 149 [24] [.cell 2 26] [26])))
theorem OK(n m3:Nat)(l0:D)(cells3:List D)(t9:D)(t10 t11 t2_0:Int):Vg n (m3+1) l0 cells3 t9 t10 t11 t2_0 =
 bK (t11<t10) (kK (0≤t11) (kK (t11<(t9.els.length:Int)) (cK 214 [t9.els.getD (Apa t11) D.nil] fun Y1 =>
 kK (0≤t11) (kK (t11<(cells3.length:Int)) (Vg n m3 l0 (cells3.set (Apa t11) (qA Y1)) t9 t10 (Aom .i64 (t11+1)) t2_0)))))
 (.ret [D.agg [D.int 0,D.sl [D.int (l0.els.length:Int)],D.sl cells3]]):=by kernel_rfl
theorem Ads(n:Nat)(l0:D):fA Vh n 149 [] [l0] =
 kK (0≤(l0.els.length:Int)) (kK ((l0.els.length:Int)≤(l0.els.length:Int)) (kK ((l0.els.length:Int)≤Am) (Vg n n l0 (Apc (Apa (l0.els.length:Int)) (D.agg [D.int 0,D.int 0,D.agg [D.bool false,D.sl [],D.sl []],D.int 0,D.sl []])) l0 (l0.els.length:Int) 0 0))):=by kernel_rfl
theorem Adg(n:Nat)(c0:D):fA [] n 171 [] [c0] =
 .ret [D.agg [D.int 0,D.int 1,D.agg [D.bool false,D.sl [],D.sl []],D.int c0.toInt,D.sl []]]:=by kernel_rfl
theorem Ado(n:Nat)(c0:D):fA [] n 178 [] [c0] =
 cK 214 [c0] fun Y1 =>
 .ret [D.agg [D.int 0,D.sl [],D.sl [qA Y1]]]:=by kernel_rfl
theorem Adl(n:Nat)(a0 b1:D):fA [] n 179 [] [a0,b1] =
 cK 232 [a0,b1,D.bool false] fun Y1 =>
 .ret [D.bool ((qA Y1).toBool)]:=by kernel_rfl
theorem Adu(n:Nat)(a0:D):fA [] n 213 [] [a0] =
 .br ((((a0.fld 1).els).length:Int)==0) (.ret [D.bool ((((a0.fld 2).els).length:Int)==1)])
 (.ret [D.bool false]):=by kernel_rfl
theorem Ady(n:Nat)(c0:D):fA [] n 214 [] [c0] =
 cK 247 [(c0.fld 2).fld 1] fun Y1 =>
 cK 247 [(c0.fld 2).fld 2] fun Y2 =>
 cK 248 [c0.fld 4] fun Y3 =>
 .ret [D.agg [D.int ((c0.fld 0).toInt),D.int ((c0.fld 1).toInt),D.agg [D.bool (((c0.fld 2).fld 0).toBool),D.sl ((qA Y1).els),D.sl ((qA Y2).els)],D.int ((c0.fld 3).toInt),D.sl ((qA Y3).els)]]:=by kernel_rfl
theorem Adx(n:Nat)(a0 b1 labels2:D):fA [] n 232 [] [a0,b1,labels2] =
 .br labels2.toBool (.br (((a0.fld 0).toInt)!=((b1.fld 0).toInt)) (.ret [D.bool false])
 (cK 234 [a0.fld 1,b1.fld 1] fun Y1 =>
 .br (!((qA Y1).toBool)) (.ret [D.bool false])
 (cK 272 [a0.fld 2,b1.fld 2,D.fn 273 [.ref 4] [D.ref (D.bool labels2.toBool)]] fun Y2 =>
 .ret [D.bool ((qA Y2).toBool)])))
 (cK 234 [a0.fld 1,b1.fld 1] fun Y3 =>
 .br (!((qA Y3).toBool)) (.ret [D.bool false])
 (cK 272 [a0.fld 2,b1.fld 2,D.fn 273 [.ref 4] [D.ref (D.bool labels2.toBool)]] fun Y4 =>
 .ret [D.bool ((qA Y4).toBool)])):=by kernel_rfl
theorem Adm(n:Nat)(nn0:D):fA [] n 257 [] [nn0] =
 cK 214 [D.agg [D.int 0,D.int 0,nn0,D.int 0,D.sl []]] fun Y1 =>
 .ret [qA Y1]:=by kernel_rfl
theorem Adw(n:Nat)(x0 y1 c2:D):fA [] n 273 [.ref 4] [x0,y1,c2] =
 .br c2.unref.toBool (.br (((x0.fld 0).toInt)!=((y1.fld 0).toInt)) (.ret [D.bool false])
 (.br (((x0.fld 1).toInt)!=((y1.fld 1).toInt)) (.ret [D.bool false])
 (.br (((x0.fld 3).toInt)!=((y1.fld 3).toInt)) (.ret [D.bool false])
 (cK 274 [x0.fld 2,y1.fld 2] fun Y1 =>
 .br (!((qA Y1).toBool)) (.ret [D.bool false])
 (cK 275 [x0.fld 4,y1.fld 4,D.fn 276 [.ref 4] [D.ref c2.unref]] fun Y2 =>
 .ret [D.bool ((qA Y2).toBool)])))))
 (.br (((x0.fld 1).toInt)!=((y1.fld 1).toInt)) (.ret [D.bool false])
 (.br (((x0.fld 3).toInt)!=((y1.fld 3).toInt)) (.ret [D.bool false])
 (cK 274 [x0.fld 2,y1.fld 2] fun Y3 =>
 .br (!((qA Y3).toBool)) (.ret [D.bool false])
 (cK 275 [x0.fld 4,y1.fld 4,D.fn 276 [.ref 4] [D.ref c2.unref]] fun Y4 =>
 .ret [D.bool ((qA Y4).toBool)])))):=by kernel_rfl
theorem Adv(n:Nat)(p0 q1 c2:D):fA [] n 276 [.ref 4] [p0,q1,c2] =
 cK 232 [p0,q1,D.bool c2.unref.toBool] fun Y1 =>
 .ret [D.bool ((qA Y1).toBool)]:=by kernel_rfl
def AJ:List (Nat×Orc):=[(5,⟨[(1,none),(2,none),(5,none),(7,none)],[(2,true)],[]⟩)]
noncomputable def AI(n m5:Nat)(deep1 nn5 i7:Int)(a2:D):Tree :=
 lA (eA AJ n 13 [1,1,1,0,1,0,0]) (An AJ 5) m5 ⟨(.undef:: .i .i64 deep1:: .ptr 2 []:: .undef:: .undef:: .i .i64 nn5:: .undef:: .i .i64 i7::uA 28),[(2,.var 26 (.d 26 a2) true)],[2],[],[]⟩
  (Ak 0 (Aq (jA AJ n 13 [1,1,1,1]) (rA 13 [26,3] [.tmp 4] [4])))
theorem ZV(n m5:Nat)(deep1 nn5 i7:Int)(a2:D):AI n (m5+1) deep1 nn5 i7 a2 =
 bK (i7<nn5) (kK (0≤i7) (kK (i7<(((a2.fld 2).els).length:Int)) (cK 53 [((a2.fld 2).els).getD (Apa i7) D.nil,D.int deep1] fun Y2 =>
 .br (!((qA Y2).toBool)) (.ret [D.bool false])
 (AI n m5 deep1 nn5 (Aom .i64 (i7+1)) a2))))
 (.ret [D.bool true]):=by kernel_rfl
theorem AkX(n:Nat)(a0 deep1:D):fA AJ n 13 [] [a0,deep1] =
 cK 52 [a0.fld 1] fun Y1 =>
 .br (((qB Y1).toInt)!=0) (.ret [D.bool false])
 (.br (((qA Y1).toInt)!=(((a0.fld 2).els).length:Int)) (.ret [D.bool false])
 (AI n n deep1.toInt ((qA Y1).toInt) 0 a0)):=by kernel_rfl
theorem AkU(n:Nat)(a0:D):fA [] n 30 [] [a0] =
 cK 75 [a0] fun Y1 =>
 .br ((qA Y1).toBool) (cK 13 [a0,D.int 8] fun Y2 =>
 .br ((qA Y2).toBool) (cK 76 [a0] fun Y3 =>
 .ret [D.bool ((qA Y3).toBool)])
 (.ret [D.bool false]))
 (.ret [D.bool false]):=by kernel_rfl
def AN:List (Nat×Orc):=[(4,⟨[(2,none),(3,none),(5,none)],[(2,true),(3,true)],[]⟩)]
noncomputable def AM(n m4:Nat)(i5:Int)(a2 b3:D):Tree :=
 lA (eA AN n 34 [1,1,0,1,0,0]) (An AN 4) m4 ⟨(.undef:: .undef:: .ptr 2 []:: .ptr 3 []:: .undef:: .i .i64 i5::uA 41),[(2,.var 26 (.d 26 a2) true),(3,.var 26 (.d 26 b3) true)],[2,3],[],[]⟩
  (Ak 0 (Aq (jA AN n 34 [1,1,1]) (rA 34 [26,26] [.tmp 4] [4])))
theorem ZY(n m4:Nat)(i5:Int)(a2 b3:D):AM n (m4+1) i5 a2 b3 =
 bK (i5<(((a2.fld 2).els).length:Int)) (kK (0≤i5) (kK (i5<(((a2.fld 2).els).length:Int)) (kK (0≤i5) (kK (i5<(((b3.fld 2).els).length:Int)) (cK 79 [((a2.fld 2).els).getD (Apa i5) D.nil,((b3.fld 2).els).getD (Apa i5) D.nil] fun Y2 =>
 .br (!((qA Y2).toBool)) (.ret [D.bool false])
 (AM n m4 (Aom .i64 (i5+1)) a2 b3))))))
 (.ret [D.bool true]):=by kernel_rfl
theorem Alb(n:Nat)(a0 b1:D):fA AN n 34 [] [a0,b1] =
 .br (((a0.fld 0).toInt)!=((b1.fld 0).toInt)) (.ret [D.bool false])
 (cK 54 [a0.fld 1,b1.fld 1] fun Y1 =>
 .br (!((qA Y1).toBool)) (.ret [D.bool false])
 (.br ((((a0.fld 2).els).length:Int)!=(((b1.fld 2).els).length:Int)) (.ret [D.bool false])
 (AM n n 0 a0 b1))):=by kernel_rfl
theorem AkR(n:Nat)(c0 deep1:D):fA [] n 53 [] [c0,deep1] =
 .br (((c0.fld 1).toInt)==0) (.br (((c0.fld 3).toInt)==0) (.br ((((c0.fld 4).els).length:Int)==0) (cK 133 [c0.fld 2] fun Y1 =>
 .ret [D.bool ((qA Y1).toBool)])
 (.ret [D.bool false]))
 (.ret [D.bool false]))
 (.br (((c0.fld 1).toInt)==1) (cK 134 [c0.fld 2] fun Y2 =>
 .br ((qA Y2).toBool) (.br ((((c0.fld 4).els).length:Int)==0) (cK 135 [D.int ((c0.fld 3).toInt)] fun Y3 =>
 .ret [D.bool ((qA Y3).toBool)])
 (.ret [D.bool false]))
 (.ret [D.bool false]))
 (.br (((c0.fld 1).toInt)==2) (cK 134 [c0.fld 2] fun Y4 =>
 .br ((qA Y4).toBool) (.br (((c0.fld 3).toInt)==0) (.br ((((c0.fld 4).els).length:Int)==1) (bK (0<deep1.toInt) (kK (0≤0) (kK (0<(((c0.fld 4).els).length:Int)) (cK 136 [((c0.fld 4).els).getD (Apa 0) D.nil] fun Y5 =>
 .br (!((qA Y5).toBool)) (kK (0≤0) (kK (0<(((c0.fld 4).els).length:Int)) (cK 13 [((c0.fld 4).els).getD (Apa 0) D.nil,D.int (Aom .i64 (deep1.toInt-1))] fun Y6 =>
 .ret [D.bool ((qA Y6).toBool)])))
 (.ret [D.bool false]))))
 (.ret [D.bool false]))
 (.ret [D.bool false]))
 (.ret [D.bool false]))
 (.ret [D.bool false]))
 (.ret [D.bool false]))):=by kernel_rfl
theorem AkT(n:Nat)(a0:D):fA [] n 75 [] [a0] =
 cK 161 [a0,D.int 12,D.int 4000] fun Y1 =>
 .ret [D.bool (decide (0≤((qA Y1).toInt)))]:=by kernel_rfl
def Gw:List (Nat×Orc):=[(3,⟨[(1,none),(3,none),(4,none)],[(1,true)],[]⟩),(10,⟨[(1,none),(5,none)],[(1,true)],[]⟩),(13,⟨[(1,none),(5,none),(6,none)],[(1,true)],[]⟩)]
noncomputable def AP(n m10 m13:Nat)(i5 k6:Int)(a1:D):Tree :=
 lA (eA Gw n 76 [1,1,1,1,0,1,0,0,1,0,0,1,0,0]) (An Gw 13) m13 ⟨(.undef:: .ptr 1 []::uA 3++(.i .i64 i5:: .i .i64 k6::uA 55)),[(1,.var 26 (.d 26 a1) true)],[1],[],[]⟩
  (Ak 4 (Ak 3 (Aq (jA Gw n 76 [1,1,1,1,0,1,0,0,1,1]) (Gb Tryz.prog md (An Gw 10) (fun s1=>lA (eA Gw n 76 [1,1,1,1,0,1,0,0]) (An Gw 10) m10 s1 (Ak 2 (Aq (jA Gw n 76 [1,1,1,1,1]) (rA 76 [26] [.tmp 2] [4])))) (Ak 2 (Aq (jA Gw n 76 [1,1,1,1,1]) (rA 76 [26] [.tmp 2] [4])))))))
noncomputable def Oh(n m10:Nat)(i5:Int)(a1:D):Tree :=
 lA (eA Gw n 76 [1,1,1,1,0,1,0,0]) (An Gw 10) m10 ⟨(.undef:: .ptr 1 []::uA 3++(.i .i64 i5::uA 56)),[(1,.var 26 (.d 26 a1) true)],[1],[],[]⟩
  (Ak 2 (Aq (jA Gw n 76 [1,1,1,1,1]) (rA 76 [26] [.tmp 2] [4])))
noncomputable def Tn(n m3:Nat)(nn3 i4:Int)(a1:D):Tree :=
 lA (eA Gw n 76 [1,1,0,1,0,0]) (An Gw 3) m3 ⟨(.undef:: .ptr 1 []:: .undef:: .i .i64 nn3:: .i .i64 i4::uA 57),[(1,.var 26 (.d 26 a1) true)],[1],[],[]⟩
  (Ak 0 (Aq (jA Gw n 76 [1,1,1]) (rA 76 [26] [.tmp 2] [4])))
theorem Aae(n m10 m13:Nat)(i5 k6:Int)(a1:D):AP n m10 (m13+1) i5 k6 a1 =
 kK (0≤i5) (kK (i5<(((a1.fld 2).els).length:Int)) (bK (k6<((((((a1.fld 2).els).getD (Apa i5) D.nil).fld 4).els).length:Int)) (kK (0≤i5) (kK (i5<(((a1.fld 2).els).length:Int)) (kK (0≤k6) (kK (k6<((((((a1.fld 2).els).getD (Apa i5) D.nil).fld 4).els).length:Int)) (cK 76 [(((((a1.fld 2).els).getD (Apa i5) D.nil).fld 4).els).getD (Apa k6) D.nil] fun Y1 =>
 .br (!((qA Y1).toBool)) (.ret [D.bool false])
 (AP n m10 m13 i5 (Aom .i64 (k6+1)) a1))))))
 (Oh n m10 (Aom .i64 (i5+1)) a1))):=by kernel_rfl
theorem Aad(n m10:Nat)(i5:Int)(a1:D):Oh n (m10+1) i5 a1 =
 bK (i5<(((a1.fld 2).els).length:Int)) (AP n m10 n i5 0 a1)
 (.ret [D.bool true]):=by kernel_rfl
theorem Aaf(n m3:Nat)(nn3 i4:Int)(a1:D):Tn n (m3+1) nn3 i4 a1 =
 bK (i4<(((a1.fld 1).els).length:Int)) (bK (nn3≤100000) (kK (0≤i4) (kK (i4<(((a1.fld 1).els).length:Int)) (bK (0<((((a1.fld 1).els).getD (Apa i4) D.nil).toInt)) (kK (0≤i4) (kK (i4<(((a1.fld 1).els).length:Int)) (Tn n m3 (Aom .i64 (nn3*((((a1.fld 1).els).getD (Apa i4) D.nil).toInt))) (Aom .i64 (i4+1)) a1)))
 (Tn n m3 nn3 (Aom .i64 (i4+1)) a1))))
 (bK (100000<nn3) (.ret [D.bool false])
 (Oh n n 0 a1)))
 (bK (100000<nn3) (.ret [D.bool false])
 (Oh n n 0 a1)):=by kernel_rfl
theorem Alf(n:Nat)(a0:D):fA Gw n 76 [] [a0] =
 Tn n n 1 0 a0:=by kernel_rfl
theorem AkV(n:Nat)(nn0:D):fA [] n 78 [] [nn0] =
 cK 165 [D.int nn0.toInt] fun Y1 =>
 .ret [D.agg [D.int 0,D.int 0,qA Y1,D.int 0,D.sl []]]:=by kernel_rfl
def AL:List (Nat×Orc):=[(4,⟨[(2,none),(3,none),(5,none)],[(2,true),(3,true)],[]⟩)]
noncomputable def AK(n m4:Nat)(i5:Int)(a2 b3:D):Tree :=
 lA (eA AL n 79 [1,1,0,1,0,0]) (An AL 4) m4 ⟨(.undef:: .undef:: .ptr 2 []:: .ptr 3 []:: .undef:: .i .i64 i5::uA 55),[(2,.var 67 (.d 67 a2) true),(3,.var 67 (.d 67 b3) true)],[2,3],[],[]⟩
  (Ak 0 (Aq (jA AL n 79 [1,1,1]) (rA 79 [67,67] [.tmp 4] [4])))
theorem ZX(n m4:Nat)(i5:Int)(a2 b3:D):AK n (m4+1) i5 a2 b3 =
 bK (i5<(((a2.fld 4).els).length:Int)) (kK (0≤i5) (kK (i5<(((a2.fld 4).els).length:Int)) (kK (0≤i5) (kK (i5<(((b3.fld 4).els).length:Int)) (cK 34 [((a2.fld 4).els).getD (Apa i5) D.nil,((b3.fld 4).els).getD (Apa i5) D.nil] fun Y2 =>
 .br (!((qA Y2).toBool)) (.ret [D.bool false])
 (AK n m4 (Aom .i64 (i5+1)) a2 b3))))))
 (.ret [D.bool true]):=by kernel_rfl
theorem AkZ(n:Nat)(a0 b1:D):fA AL n 79 [] [a0,b1] =
 .br (((a0.fld 0).toInt)!=((b1.fld 0).toInt)) (.ret [D.bool false])
 (.br (((a0.fld 1).toInt)!=((b1.fld 1).toInt)) (.ret [D.bool false])
 (.br (((a0.fld 3).toInt)!=((b1.fld 3).toInt)) (.ret [D.bool false])
 (cK 137 [a0.fld 2,b1.fld 2] fun Y1 =>
 .br (!((qA Y1).toBool)) (.ret [D.bool false])
 (.br ((((a0.fld 4).els).length:Int)!=(((b1.fld 4).els).length:Int)) (.ret [D.bool false])
 (AK n n 0 a0 b1))))):=by kernel_rfl
theorem Alg(n:Nat)(nn0:D):fA [] n 134 [] [nn0] =
 .br (!((nn0.fld 0).toBool)) (.br ((((nn0.fld 1).els).length:Int)==0) (.ret [D.bool ((((nn0.fld 2).els).length:Int)==0)])
 (.ret [D.bool false]))
 (.ret [D.bool false]):=by kernel_rfl
theorem Ald(n:Nat)(a0:D):fA [] n 136 [] [a0] =
 .br ((((a0.fld 1).els).length:Int)==0) (.br ((((a0.fld 2).els).length:Int)==1) (kK (0≤0) (kK (0<(((a0.fld 2).els).length:Int)) (.ret [D.bool ((((((a0.fld 2).els).getD (Apa 0) D.nil).fld 1).toInt)!=2)])))
 (.ret [D.bool false]))
 (.ret [D.bool false]):=by kernel_rfl
def I0:List (Nat×Orc):=[(5,⟨[(1,none),(2,none),(3,none),(7,none)],[(3,true)],[]⟩),(9,⟨[(1,none),(2,none),(3,none),(7,none),(8,none)],[(3,true)],[]⟩)]
noncomputable def AO(n m5 m9:Nat)(deep1 nn2:Int)(i7 k8:Int)(a3:D):Tree :=
 lA (eA I0 n 161 [1,1,1,0,1,0,0,1,0,0,1,1,0,0]) (An I0 9) m9 ⟨(.undef:: .i .i64 deep1:: .i .i64 nn2:: .ptr 3 []::uA 3++(.i .i64 i7:: .i .i64 k8::uA 68)),[(3,.var 26 (.d 26 a3) true)],[3],[],[]⟩
  (Ak 2 (Ak 1 (Aq (jA I0 n 161 [1,1,1,0,1,0,0,1,1]) (Gb Tryz.prog md (An I0 5) (fun s1=>lA (eA I0 n 161 [1,1,1,0,1,0,0]) (An I0 5) m5 s1 (Ak 0 (Aq (jA I0 n 161 [1,1,1,1]) (rA 161 [26,3,3] [.tmp 6] [3])))) (Ak 0 (Aq (jA I0 n 161 [1,1,1,1]) (rA 161 [26,3,3] [.tmp 6] [3])))))))
noncomputable def Tm(n m5:Nat)(deep1 nn2 i7:Int)(a3:D):Tree :=
 lA (eA I0 n 161 [1,1,1,0,1,0,0]) (An I0 5) m5 ⟨(.undef:: .i .i64 deep1:: .i .i64 nn2:: .ptr 3 []::uA 3++(.i .i64 i7::uA 69)),[(3,.var 26 (.d 26 a3) true)],[3],[],[]⟩
  (Ak 0 (Aq (jA I0 n 161 [1,1,1,1]) (rA 161 [26,3,3] [.tmp 6] [3])))
theorem Aaa(n m5 m9:Nat)(deep1 nn2:Int)(i7 k8:Int)(a3:D):AO n m5 (m9+1) deep1 nn2 i7 k8 a3 =
 kK (0≤i7) (kK (i7<(((a3.fld 2).els).length:Int)) (bK (k8<((((((a3.fld 2).els).getD (Apa i7) D.nil).fld 4).els).length:Int)) (bK (0≤nn2) (kK (0≤i7) (kK (i7<(((a3.fld 2).els).length:Int)) (kK (0≤k8) (kK (k8<((((((a3.fld 2).els).getD (Apa i7) D.nil).fld 4).els).length:Int)) (cK 161 [(((((a3.fld 2).els).getD (Apa i7) D.nil).fld 4).els).getD (Apa k8) D.nil,D.int (Aom .i64 (deep1-1)),D.int nn2] fun Y1 =>
 AO n m5 m9 deep1 ((qA Y1).toInt) i7 (Aom .i64 (k8+1)) a3)))))
 (Tm n m5 deep1 nn2 (Aom .i64 (i7+1)) a3))
 (Tm n m5 deep1 nn2 (Aom .i64 (i7+1)) a3))):=by kernel_rfl
theorem ZZ(n m5:Nat)(deep1 nn2 i7:Int)(a3:D):Tm n (m5+1) deep1 nn2 i7 a3 =
 bK (i7<(((a3.fld 2).els).length:Int)) (bK (0≤nn2) (kK (0≤i7) (kK (i7<(((a3.fld 2).els).length:Int)) (kK (0≤i7) (kK (i7<(((a3.fld 2).els).length:Int)) (AO n m5 n deep1 (Aom .i64 ((Aom .i64 ((Aom .i64 (nn2-1))-(((((((a3.fld 2).els).getD (Apa i7) D.nil).fld 2).fld 1).els).length:Int)))-(((((((a3.fld 2).els).getD (Apa i7) D.nil).fld 2).fld 2).els).length:Int))) i7 0 a3)))))
 (.ret [D.int nn2]))
 (.ret [D.int nn2]):=by kernel_rfl
theorem Aac(n:Nat)(a0 deep1 nn2:D):fA I0 n 161 [] [a0,deep1,nn2] =
 .br (deep1.toInt == 0) (.ret [D.int (-1)])
 (Tm n n deep1.toInt (Aom .i64 ((Aom .i64 (nn2.toInt-1))-(((a0.fld 1).els).length:Int))) 0 a0):=by kernel_rfl
def Zx:List (Nat×Orc):=[(2,⟨[(0,none),(1,none),(5,none)],[],[]⟩)]
noncomputable def Th(n m2:Nat)(a0 b1 t5:Int):Tree :=
 lA (eA Zx n 16 [1,0,1,0,0]) (An Zx 2) m2 ⟨(.i .u64 a0:: .i .u64 b1::uA 3++(.i .i64 t5::uA 13)),[],[],[],[]⟩
  (Ak 0 (Aq (jA Zx n 16 [1,1]) (rA 16 [22,22] [.tmp 4] [4])))
theorem YY(n m2:Nat)(a0 b1 t5:Int):Th n (m2+1) a0 b1 t5 =
 bK (t5<64) (cK 71 [D.int a0,D.int t5] fun Y1 =>
 .br ((qA Y1).toBool) (cK 71 [D.int b1,D.int t5] fun Y2 =>
 .br (!((qA Y2).toBool)) (.ret [D.bool false])
 (Th n m2 a0 b1 (Aom .i64 (t5+1))))
 (Th n m2 a0 b1 (Aom .i64 (t5+1))))
 (.ret [D.bool true]):=by kernel_rfl
theorem Akc(n:Nat)(a0 b1:D):fA Zx n 16 [] [a0,b1] =
 Th n n a0.toInt b1.toInt 0:=by kernel_rfl
def Zz:List (Nat×Orc):=[(2,⟨[(0,none),(1,none),(5,none)],[],[]⟩)]
noncomputable def Zy(n m2:Nat)(l0 t1 i5:Int):Tree :=
 lA (eA Zz n 71 [1,0,1,0,0]) (An Zz 2) m2 ⟨(.i .u64 l0:: .i .i64 t1::uA 3++(.i .i64 i5::uA 10)),[],[],[],[]⟩
  (Ak 0 (Aq (jA Zz n 71 [1,1]) (rA 71 [22,3] [.tmp 4] [4])))
theorem YZ(n m2:Nat)(l0 t1 i5:Int):Zy n (m2+1) l0 t1 i5 =
 bK (i5<t1) (.br (!(2 == (0:Int))) (Zy n m2 (Aom .u64 (Int.tdiv l0 2)) t1 (Aom .i64 (i5+1))) .fail)
 (.br (!(2 == (0:Int))) (.ret [D.bool ((Int.tmod l0 2)==1)]) .fail):=by kernel_rfl
theorem Akd(n:Nat)(l0 t1:D):fA Zz n 71 [] [l0,t1] =
 Zy n n l0.toInt t1.toInt 0:=by kernel_rfl
theorem Agb(n:Nat)(a0 b1:D):fA [] n 83 [] [a0,b1] =
 .ret [D.int (Br .or .u64 a0.toInt b1.toInt)]:=by kernel_rfl
abbrev Al:=BitVec 64
abbrev Ar:=BitVec 32
structure Num where
 neg:Bool
 top:List Ar
 bot:List Ar
 deriving DecidableEq
structure CellF (α:Type) where
 l:Al
 kind:Int
 n:Num
 c:Int
 inn:List α
inductive Arr where
 | mk (s:Al) (shape:List Int) (cells:List (CellF Arr))
abbrev Cell:=CellF Arr
def Arr.s:Arr→Al | .mk s _ _=>s
def Arr.shape:Arr→List Int | .mk _ s _=>s
def Arr.cells:Arr→List Cell | .mk _ _ c=>c
@[simp] theorem Arr.s_mk (s sh cs):(Arr.mk s sh cs).s=s:=rfl
@[simp] theorem Arr.shape_mk (s sh cs):(Arr.mk s sh cs).shape=sh:=rfl
@[simp] theorem Arr.cells_mk (s sh cs):(Arr.mk s sh cs).cells=cs:=rfl
theorem Arr.eta (a:Arr):a = .mk a.s a.shape a.cells:=by cases a;rfl
def Num.zero:Num:=⟨false,[],[]⟩
def Cell.none:Cell:=⟨0,0,.zero,0,[]⟩
def Arr.none:Arr:= .mk 0 [] []
theorem Arr.ind {p:Arr→Prop} (h : ∀ s sh cs,(∀ c∈cs,∀ x∈c.inn,p x)→p (.mk s sh cs)) (a:Arr):p a :=
 Arr.rec (motive_1:=p) (motive_2:=fun cs=>∀ c∈cs,∀ x∈c.inn,p x) (motive_3:=fun c=>∀ x∈c.inn,p x) (motive_4:=fun as_=>∀ x∈as_,p x)
  (fun s sh cs ih=>h s sh cs ih) (fun c hc=>by cases hc)
  (fun c cs h1 h2 d hd=>by rcases Apt.1 hd with rfl | hd;exact h1;exact h2 d hd)
  (fun _ _ _ _ _ ih=>ih) (fun x hx=>by cases hx)
  (fun a as_ h1 h2 x hx=>by rcases Apt.1 hx with rfl | hx;exact h1;exact h2 x hx) a
def dB{k:Nat}(x:BitVec k):D:= .int (x.toNat:Int)
def dI(l:List Int):D:= .sl (l.map .int)
def dL(l:List Ar):D:= .sl (l.map dB)
def dN(n:Num):D:= .agg [.bool n.neg,dL n.top,dL n.bot]
mutual
def dA:Arr→D
 | .mk s sh cs=> .agg [dB s,dI sh,.sl (Rz cs)]
def Rz:List (CellF Arr)→List D
 | []=>[]
 | c::cs=>dC c::Rz cs
def dC:CellF Arr→D
 | ⟨l,k,n,c,inn⟩=> .agg [dB l,.int k,dN n,.int c,.sl (Rx inn)]
def Rx:List Arr→List D
 | []=>[]
 | a::as_=>dA a::Rx as_
end
theorem QA : ∀ cs,Rz cs=cs.map dC
 | []=>by simp[Rz]
 | c::cs=>by simp[Rz,QA cs]
theorem PX : ∀ as_,Rx as_=as_.map dA
 | []=>by simp[Rx]
 | a::as_=>by simp[Rx,PX as_]
theorem D5(a:Arr):dA a = .agg [dB a.s,dI a.shape,.sl (a.cells.map dC)]:=by cases a;simp[dA,QA]
theorem Ec(c:Cell):dC c = .agg [dB c.l,.int c.kind,dN c.n,.int c.c,.sl (c.inn.map dA)]:=by cases c;simp[dC,PX]
theorem Aer(s:Al)(sh:List Int)(cs:List Cell):D.agg [dB s,dI sh,.sl (cs.map dC)]=dA (.mk s sh cs):=by rw[D5];rfl
section simps
@[simp] theorem Lf (x:D) (l:List D):(D.agg (x::l)).fld 0=x:=rfl
@[simp] theorem Lg (x y:D) (l:List D):(D.agg (x::y::l)).fld 1=y:=rfl
@[simp] theorem Wx (x y z:D) (l:List D):(D.agg (x::y::z::l)).fld 2=z:=rfl
@[simp] theorem AoB (x y z u:D) (l:List D):(D.agg (x::y::z::u::l)).fld 3=u:=rfl
@[simp] theorem AoC (x y z u v:D) (l:List D):(D.agg (x::y::z::u::v::l)).fld 4=v:=rfl
@[simp] theorem FU (a:Arr):(dA a).fld 0=dB a.s:=by rw[D5];rfl
@[simp] theorem V4 (a:Arr):(dA a).fld 1=dI a.shape:=by rw[D5];rfl
@[simp] theorem FV (a:Arr):(dA a).fld 2 = .sl (a.cells.map dC):=by rw[D5];rfl
@[simp] theorem Aes (c:Cell):(dC c).fld 0=dB c.l:=by rw[Ec];rfl
@[simp] theorem PZ (c:Cell):(dC c).fld 1 = .int c.kind:=by rw[Ec];rfl
@[simp] theorem Aet (c:Cell):(dC c).fld 2=dN c.n:=by rw[Ec];rfl
@[simp] theorem Aeu (c:Cell):(dC c).fld 3 = .int c.c:=by rw[Ec];rfl
@[simp] theorem FX (c:Cell):(dC c).fld 4 = .sl (c.inn.map dA):=by rw[Ec];rfl
@[simp] theorem Nm (n:Num):(dN n).fld 0 = .bool n.neg:=rfl
@[simp] theorem Pe (n:Num):(dN n).fld 1=dL n.top:=rfl
@[simp] theorem Nn (n:Num):(dN n).fld 2=dL n.bot:=rfl
@[simp] theorem Ed (l:List D):(D.sl l).els=l:=rfl
@[simp] theorem Ch (l:List Int):(dI l).els=l.map .int:=rfl
@[simp] theorem B3 (l:List Ar):(dL l).els=l.map dB:=rfl
@[simp] theorem Ao (n:Int):(D.int n).toInt=n:=rfl
@[simp] theorem En {k:Nat} (x:BitVec k):(dB x).toInt=(x.toNat:Int):=rfl
@[simp] theorem Ba (b:Bool):(D.bool b).toBool=b:=rfl
@[simp] theorem DJ (x:D):(D.ref x).unref=x:=rfl
@[simp] theorem Hu (f c d):(D.fn f c d).fnId=f:=rfl
@[simp] theorem Hs (f c d):(D.fn f c d).fnCts=c:=rfl
@[simp] theorem Ht (f c d):(D.fn f c d).fnDs=d:=rfl
@[simp] theorem Ah (x:D) (l:List D):qA (x::l)=x:=rfl
@[simp] theorem C1 (x y:D) (l:List D):qB (x::y::l)=y:=rfl
@[simp] theorem W3 (x y z:D) (l:List D):qC (x::y::z::l)=z:=rfl
@[simp] theorem AoD (x y z u:D) (l:List D):(x::y::z::u::l).getD 3 D.nil=u:=rfl
theorem Me{k:Nat}(x:BitVec k):D.int (x.toNat:Int)=dB x:=rfl
theorem Ae9(l:List Int):D.sl (l.map .int)=dI l:=rfl
theorem Ae_(l:List Ar):D.sl (l.map dB)=dL l:=rfl
end simps
theorem B6{α:Type}{l:List α}{i:Nat}{x:α}{xs:List α}(h:l.drop i=x::xs):i<l.length∧l[i]? = some x∧l.drop (i+1)=xs:=by
 have hi:i<l.length:=by
  rcases Aqn i l.length with h1 | h1
  · exact h1
  · rw[List.drop_eq_nil_of_le h1]at h;cases h
 rw[Ap1 hi]at h
 injection h with h1 h2
 exact ⟨hi,by rw[Apb hi,h1],h2⟩
theorem Ae7{α:Type}{l:List α}{i:Nat}(h:l.drop i = []):l.length≤i:=List.drop_eq_nil_iff.1 h
theorem Aw{α:Type}{l:List α}{i:Nat}{x:α}{f:α→D}(h:l[i]? = some x):(l.map f).getD i D.nil=f x:=by
 rw[Ape,Aps,h];rfl
theorem Ax{x:Int}(h1 : -9223372036854775808≤x)(h2:x≤9223372036854775807):Aom .i64 x=x:=by rw[IntKind.wrap_i64];omega
theorem Bt{x:Int}(h1:0≤x)(h2:x<18446744073709551616):Aom .u64 x=x:=by rw[IntKind.wrap_u64];omega
theorem Ft{x:Int}(h1:0≤x)(h2:x<4294967296):Aom .u32 x=x:=by rw[IntKind.wrap_u32];omega
abbrev Sp(f:Nat)(xs ys:List D):Prop:=D_ Tryz.prog md f [] xs ys
abbrev Tw(t:Tree)(ys:List D):Prop:=t.wp Tryz.prog md (fun zs=>zs=ys)
theorem Cn(x y:Int):(x == y)=decide (x=y):=by by_cases h:x=y <;> simp[h]
theorem Dg(x y:Int):(x != y)=decide (¬ x=y):=by by_cases h:x=y <;> simp[h]
theorem E0(p:Prop) [Decidable p]:(!decide p)=decide (¬ p):=by by_cases h:p <;> simp[h]
theorem Fh{k:Nat}(h:k<9223372036854775807):Aom .i64 ((k:Int)+1)=((k+1:Nat):Int):=by rw[Ax (by omega) (by omega)];rfl
theorem Agy{α σ:Type}{P:Program}{md:Nat→FMode}(xs:List α)(L:Nat→Nat→σ→Tree)(f:List α→σ→List D)(I:List α→σ→Prop)
  (hnil : ∀ m k s,k=xs.length→I [] s→(L (m+1) k s).wp P md (fun zs=>zs=f [] s))
  (hcons : ∀ m k s x rest,xs.drop k=x::rest→I (x::rest) s→(∀ s',I rest s'→(L m (k+1) s').wp P md (fun zs=>zs=f rest s'))→(L (m+1) k s).wp P md (fun zs=>zs=f (x::rest) s)) :
  ∀ m k s,xs.length-k<m→k≤xs.length→I (xs.drop k) s→(L m k s).wp P md (fun zs=>zs=f (xs.drop k) s):=by
 intro m
 induction m with
 | zero=>intro k s h;omega
 | succ m ih =>
  intro k s h1 h2 hI
  cases hd:xs.drop k with
  | nil=>rw[hd]at hI;exact hnil m k s (by have:=Ae7 hd;omega) hI
  | cons x rest =>
   rw[hd]at hI
   obtain ⟨a1,a2,a3⟩:=B6 hd
   refine hcons m k s x rest hd hI (fun s' hI'=> ?_)
   have:=ih (k+1) s' (by omega) (by omega) (by rw[a3];exact hI')
   rwa[a3]at this
theorem Xs{σ:Type}{P:Program}{md:Nat→FMode}(N:Nat)(L:Nat→Nat→σ→Tree)(f:Nat→σ→List D)(I:Nat→σ→Prop)
  (hend : ∀ m s,I N s→(L (m+1) N s).wp P md (fun zs=>zs=f N s))
  (hstep : ∀ m k s,k<N→I k s→(∀ s',I (k+1) s'→(L m (k+1) s').wp P md (fun zs=>zs=f (k+1) s'))→(L (m+1) k s).wp P md (fun zs=>zs=f k s)) :
  ∀ m k s,N-k<m→k≤N→I k s→(L m k s).wp P md (fun zs=>zs=f k s):=by
 intro m
 induction m with
 | zero=>intro k s h;omega
 | succ m ih =>
  intro k s h1 h2 hI
  by_cases hk:k=N
  · subst hk;exact hend m s hI
  · exact hstep m k s (by omega) hI (fun s' hI'=>ih (k+1) s' (by omega) (by omega) hI')
theorem Ji{σ:Type}{P:Program}{md:Nat→FMode}(L:Nat→Nat→σ→Tree)(f:Nat→σ→List D)(I:Nat→σ→Prop)
  (hend : ∀ m s,I 0 s→(L (m+1) 0 s).wp P md (fun zs=>zs=f 0 s))
  (hstep : ∀ m k s,I (k+1) s→(∀ s',I k s'→(L m k s').wp P md (fun zs=>zs=f k s'))→(L (m+1) (k+1) s).wp P md (fun zs=>zs=f (k+1) s)) :
  ∀ m k s,k<m→I k s→(L m k s).wp P md (fun zs=>zs=f k s):=by
 intro m
 induction m with
 | zero=>intro k s h;omega
 | succ m ih =>
  intro k s h1 hI
  cases k with
  | zero=>exact hend m s hI
  | succ k=>exact hstep m k s hI (fun s' hI'=>ih k s' (by omega) hI')
abbrev Dl{σ:Type} := @Xs σ Tryz.prog md
abbrev Ca{α σ:Type} := @Agy α σ Tryz.prog md
theorem Ai:(∀ a:Arr,(dA a).fld 0=dB a.s)∧(∀ a:Arr,(dA a).fld 1=dI a.shape)∧(∀ a:Arr,(dA a).fld 2 = .sl (a.cells.map dC))∧(∀ c:Cell,(dC c).fld 0=dB c.l)∧(∀ c:Cell,(dC c).fld 1 = .int c.kind)∧(∀ c:Cell,(dC c).fld 2=dN c.n)∧(∀ c:Cell,(dC c).fld 3 = .int c.c)∧(∀ c:Cell,(dC c).fld 4 = .sl (c.inn.map dA))∧(∀ n:Num,(dN n).fld 0 = .bool n.neg)∧(∀ n:Num,(dN n).fld 1=dL n.top)∧(∀ n:Num,(dN n).fld 2=dL n.bot)∧(∀ l:List D,(D.sl l).els=l)∧(∀ l:List Int,(dI l).els=l.map .int)∧(∀ l:List Ar,(dL l).els=l.map dB)∧(∀ (α β:Type) (l:List α) (f:α→β),(l.map f).length=l.length)∧(∀ n:Nat,Apa (n:Int)=n)∧(∀ n:Int,(D.int n).toInt=n)∧(∀ (k:Nat) (x:BitVec k),(dB x).toInt=(x.toNat:Int))∧(∀ b:Bool,(D.bool b).toBool=b)∧(∀ (x:D) (l:List D),qA (x::l)=x)∧(∀ (x y:D) (l:List D),qB (x::y::l)=y)∧(∀ x y:Int,(x == y)=decide (x=y))∧(∀ x y:Int,(x != y)=decide (¬ x=y))∧(∀ (p:Prop) [Decidable p],(!decide p)=decide (¬ p))∧(∀ (k:Nat) (x:BitVec k),D.int (x.toNat:Int)=dB x)∧Apa 0=0 :=
 ⟨FU,V4,FV,Aes,PZ,Aet,Aeu,FX,Nm,Pe,Nn,Ed,Ch,B3,fun _ _ _ _=>Apd _,Apj,Ao,fun _=>En,Ba,Ah,C1,Cn,Dg,E0,fun _=>Me,Int.toNat_zero⟩
theorem Bh(k:Nat)(h:k<9223372036854775807:=by omega):Aom .i64 ((k:Int)+1)=((k+1:Nat):Int):=Fh h
theorem At{P:Program}{md:Nat→FMode}{Φ:List D→Prop}{c:Prop} [Decidable c] {t e:Tree}(he:e.wp P md Φ)(h : ¬ c:=by omega):(Tree.br (decide c) t e).wp P md Φ:=Ow h he
theorem Ad{P:Program}{md:Nat→FMode}{Φ:List D→Prop}{c:Prop} [Decidable c] {t e:Tree}(ht:t.wp P md Φ)(h:c:=by omega):(Tree.br (decide c) t e).wp P md Φ:=A0 h ht
theorem JP(a b:Al):Br .or .u64 (a.toNat:Int) (b.toNat:Int)=((a|||b).toNat:Int):=by
 show Aom .u64 ((BitVec.ofInt 64 (a.toNat:Int)|||BitVec.ofInt 64 (b.toNat:Int)).toNat:Int)=_
 have h:=(a|||b).isLt
 rw[show BitVec.ofInt 64 (a.toNat:Int)=a by simp,show BitVec.ofInt 64 (b.toNat:Int)=b by simp]
 exact Bt (Int.natCast_nonneg _) (Int.ofNat_lt.2 h)
theorem Ha(a b:Al):Sp 83 [dB a,dB b] [dB (a|||b)]:=by
 refine Af 0 (Agb 0 _ _) (Ac ?_)
 simp only[En,JP];rfl
theorem ZA(l:Al)(t:Nat)(ht:t<1000):Sp 71 [dB l,.int t] [.bool (l.getLsbD t)]:=by
 refine Af (t+1) (Akd _ _ _) ?_
 have:=Dl t (fun m k (v:Nat)=>Zy (t+1) m (v:Int) (t:Int) (k:Int)) (fun k v=>[.bool (decide (v / 2 ^ (t-k) % 2=1))]) (fun _ v=>v<18446744073709551616)
  (fun m v hv=>by
   simp only[YZ]
   refine At (Bo (by decide) (Ac ?_))
   rw[Cn,Int.tmod_eq_emod_of_nonneg (by omega)]
   simp;omega)
  (fun m k v hk hv ih=>by
   simp only[YZ]
   refine Ad (Bo (by decide) ?_)
   rw[Fh (by omega),Int.tdiv_eq_ediv_of_nonneg (by omega),Bt (by omega) (by omega)]
   have:=ih (v / 2) (by omega)
   rw[show t-k=(t-(k+1))+1 by omega,Aqj,Ap9,← Aqd]
   exact this)
  (t+1) 0 l.toNat (by omega) (by omega) (by have:=l.isLt;omega)
 rw[BitVec.getLsbD,Nat.testBit_eq_decide_div_mod_eq]
 exact this
def Ay(a b:Al):Bool:=(Ap8 64).all fun t=> !a.getLsbD t||b.getLsbD t
theorem GV{a b:Al} : Ay a b=true↔∀ t,t<64→a.getLsbD t=true→b.getLsbD t=true:=by
 unfold Ay
 rw[Aqm]
 constructor
 · intro h t ht ha
   have:=h t (List.mem_range.2 ht)
   simpa [ha]using this
 · intro h t ht
   have:=h t (List.mem_range.1 ht)
   cases ha:a.getLsbD t <;> simp_all
theorem Wy{a b:Al} : Ay a b=true↔∀ t,a.getLsbD t=true→b.getLsbD t=true:=by
 rw[GV]
 refine ⟨fun h t ht=> ?_,fun h t _=>h t⟩
 rcases Aqn t 64 with hl | hl
 · exact h t hl ht
 · rw[BitVec.getLsbD_of_ge _ _ hl]at ht;cases ht
theorem Iz(a b:Al):Sp 16 [dB a,dB b] [.bool (Ay a b)]:=by
 refine Af 65 (Akc _ _ _) ?_
 have:=Dl 64 (fun m k (_:Unit)=>Th 65 m (a.toNat:Int) (b.toNat:Int) (k:Int)) (fun k v=>[.bool (Ay a b)]) (fun k v=>∀ t,t<k→a.getLsbD t=true→b.getLsbD t=true)
  (fun m v hv=>by
   simp only[YY]
   refine At (Ac ?_)
   rw[show Ay a b=true from GV.2 hv])
  (fun m k v hk hv ih=>by
   simp only[YY]
   refine Ad (Aa (ZA a k (by omega)) ?_)
   simp only[Ah,Ba]
   refine B7 (fun h=> ?_) (fun h=> ?_)
   · refine Aa (ZA b k (by omega)) ?_
     simp only[Ah,Ba]
     refine B7 (fun h'=> ?_) (fun h'=> ?_)
     · refine Ac ?_
       have:Ay a b=false:=by
        rw[Bool.eq_false_iff]
        intro hf
        rw[Wy]at hf
        have:=hf k h
        simp[this]at h'
       rw[this]
     · rw[Fh (by omega)]
       refine ih () (fun t ht hat=> ?_)
       by_cases hk:t=k
       · subst hk;simpa using h'
       · exact hv t (by omega) hat
   · rw[Fh (by omega)]
     refine ih () (fun t ht hat=> ?_)
     by_cases hk:t=k
     · subst hk;rw[h]at hat;cases hat
     · exact hv t (by omega) hat)
  65 0 () (by omega) (by omega) (fun t ht=>by omega)
 exact this
theorem AkG(n:Nat)(a0:D):fA [] n 77 [] [a0] =
 cK 162 [a0] fun Y1 =>
 .br (!((qA Y1).toBool)) (.ret [D.int 0,D.bool false])
 (cK 164 [a0] fun Y2 =>
 cK 163 [qA Y2] fun Y3 =>
 .ret [D.int ((qA Y3).toInt),D.bool ((qB Y3).toBool)]):=by kernel_rfl
theorem AkD(n:Nat)(a0:D):fA [] n 133 [] [a0] =
 bK (32<(((a0.fld 1).els).length:Int)) (.ret [D.bool false])
 (bK (32<(((a0.fld 2).els).length:Int)) (.ret [D.bool false])
 (cK 164 [a0] fun Y1 =>
 cK 210 [a0] fun Y2 =>
 cK 209 [qA Y1,qA Y2] fun Y3 =>
 .br (((qB Y3).toInt)==0) (cK 137 [a0,qA Y3] fun Y4 =>
 .ret [D.bool ((qA Y4).toBool)])
 (.ret [D.bool false]))):=by kernel_rfl
theorem AkE(n:Nat)(a0 b1:D):fA [] n 137 [] [a0,b1] =
 .br (((a0.fld 0).toBool)==((b1.fld 0).toBool)) (cK 211 [a0.fld 1,b1.fld 1] fun Y1 =>
 .br ((qA Y1).toBool) (cK 211 [a0.fld 2,b1.fld 2] fun Y2 =>
 .ret [D.bool ((qA Y2).toBool)])
 (.ret [D.bool false]))
 (.ret [D.bool false]):=by kernel_rfl
theorem Ak8(n:Nat)(a0:D):fA [] n 162 [] [a0] =
 .br ((((a0.fld 2).els).length:Int)==1) (kK (0≤0) (kK (0<(((a0.fld 2).els).length:Int)) (.ret [D.bool (((((a0.fld 2).els).getD (Apa 0) D.nil).toInt)==1)])))
 (.ret [D.bool false]):=by kernel_rfl
theorem AkH(n:Nat)(a0:D):fA [] n 164 [] [a0] =
 cK 223 [D.agg [D.bool ((a0.fld 0).toBool),a0.fld 1]] fun Y1 =>
 .ret [qA Y1]:=by kernel_rfl
theorem AkB(n:Nat)(nn0:D):fA [] n 165 [] [nn0] =
 cK 225 [D.int nn0.toInt] fun Y1 =>
 cK 226 [qA Y1] fun Y2 =>
 .ret [qA Y2]:=by kernel_rfl
theorem AjJ(n:Nat)(a0:D):fA [] n 166 [] [a0] =
 cK 227 [a0.fld 2] fun Y1 =>
 .br (!((qA Y1).toBool)) (.ret [D.int 0,D.bool false])
 (cK 229 [a0] fun Y2 =>
 cK 228 [qA Y2] fun Y3 =>
 .ret [D.int ((qA Y3).toInt),D.bool ((qB Y3).toBool)]):=by kernel_rfl
theorem Ak_(n:Nat)(p0 q1:D):fA [] n 209 [] [p0,q1] =
 cK 223 [p0] fun Y1 =>
 cK 223 [q1] fun Y2 =>
 .br (((((qA Y2).fld 1).els).length:Int)==0) (.ret [D.agg [D.bool false,D.sl [],D.sl []],D.int 3])
 (cK 243 [(qA Y1).fld 1,(qA Y2).fld 1] fun Y3 =>
 cK 244 [(qA Y1).fld 1,qA Y3] fun Y4 =>
 cK 244 [(qA Y2).fld 1,qA Y3] fun Y5 =>
 bK (32<(((qA Y4).els).length:Int)) (.ret [D.agg [D.bool false,D.sl [],D.sl []],D.int 7])
 (bK (32<(((qA Y5).els).length:Int)) (.ret [D.agg [D.bool false,D.sl [],D.sl []],D.int 7])
 (bK (0<(((qA Y4).els).length:Int)) (.ret [D.agg [D.bool (!((((qA Y1).fld 0).toBool)==(((qA Y2).fld 0).toBool))),qA Y4,qA Y5],D.int 0])
 (.ret [D.agg [D.bool false,qA Y4,qA Y5],D.int 0])))):=by kernel_rfl
theorem Ak6(n:Nat)(a0:D):fA [] n 210 [] [a0] =
 cK 223 [D.agg [D.bool false,a0.fld 2]] fun Y1 =>
 .ret [qA Y1]:=by kernel_rfl
theorem AjD(n:Nat)(nn0:D):fA [] n 212 [] [nn0] =
 cK 246 [D.int nn0.toInt] fun Y1 =>
 cK 245 [qA Y1] fun Y2 =>
 .ret [qA Y2]:=by kernel_rfl
theorem Aj2(n:Nat)(a0 b1:D):fA [] n 219 [] [a0,b1] =
 cK 227 [a0.fld 2] fun Y1 =>
 .br ((qA Y1).toBool) (cK 227 [b1.fld 2] fun Y2 =>
 .br ((qA Y2).toBool) (cK 229 [a0] fun Y3 =>
 cK 229 [b1] fun Y4 =>
 cK 253 [qA Y3,qA Y4] fun Y5 =>
 .ret [D.int ((qA Y5).toInt)])
 (cK 229 [a0] fun Y6 =>
 cK 255 [b1] fun Y7 =>
 cK 254 [qA Y6,qA Y7] fun Y8 =>
 cK 229 [b1] fun Y9 =>
 cK 255 [a0] fun Y10 =>
 cK 254 [qA Y9,qA Y10] fun Y11 =>
 cK 253 [qA Y8,qA Y11] fun Y12 =>
 .ret [D.int ((qA Y12).toInt)]))
 (cK 229 [a0] fun Y13 =>
 cK 255 [b1] fun Y14 =>
 cK 254 [qA Y13,qA Y14] fun Y15 =>
 cK 229 [b1] fun Y16 =>
 cK 255 [a0] fun Y17 =>
 cK 254 [qA Y16,qA Y17] fun Y18 =>
 cK 253 [qA Y15,qA Y18] fun Y19 =>
 .ret [D.int ((qA Y19).toInt)]):=by kernel_rfl
theorem AkJ(n:Nat)(nn0:D):fA [] n 226 [] [nn0] =
 cK 223 [nn0] fun Y1 =>
 .ret [D.agg [D.bool (((qA Y1).fld 0).toBool),(qA Y1).fld 1,D.sl [D.int 1]]]:=by kernel_rfl
theorem AjO(n:Nat)(a0:D):fA [] n 227 [] [a0] =
 .br ((a0.els.length:Int)==1) (kK (0≤0) (kK (0<(a0.els.length:Int)) (.ret [D.bool (((a0.els.getD (Apa 0) D.nil).toInt)==1)])))
 (.ret [D.bool false]):=by kernel_rfl
theorem AjP(n:Nat)(a0:D):fA [] n 229 [] [a0] =
 .ret [D.agg [D.bool ((a0.fld 0).toBool),a0.fld 1]]:=by kernel_rfl
theorem AjL(n:Nat)(nn0:D):fA [] n 245 [] [nn0] =
 cK 269 [nn0] fun Y1 =>
 bK (32<((((qA Y1).fld 1).els).length:Int)) (.ret [D.agg [D.bool false,D.sl [],D.sl []]])
 (.ret [D.agg [D.bool (((qA Y1).fld 0).toBool),(qA Y1).fld 1,D.sl [D.int 1]]]):=by kernel_rfl
theorem AjM(n:Nat)(a0:D):fA [] n 255 [] [a0] =
 .ret [D.agg [D.bool false,a0.fld 2]]:=by kernel_rfl
theorem AjC(n:Nat)(a0:D):fA [] n 258 [] [a0] =
 cK 304 [D.bool (!((a0.fld 0).toBool)),a0] fun Y1 =>
 .ret [qA Y1]:=by kernel_rfl
theorem AjI(n:Nat)(a0:D):fA [] n 259 [] [a0] =
 cK 229 [a0] fun Y1 =>
 cK 301 [qA Y1] fun Y2 =>
 .ret [D.int ((qA Y2).toInt)]:=by kernel_rfl
theorem Aj3(n:Nat)(a0 b1:D):fA [] n 260 [] [a0,b1] =
 cK 229 [a0] fun Y1 =>
 cK 255 [b1] fun Y2 =>
 cK 254 [qA Y1,qA Y2] fun Y3 =>
 cK 255 [a0] fun Y4 =>
 cK 229 [b1] fun Y5 =>
 cK 254 [qA Y4,qA Y5] fun Y6 =>
 cK 305 [qA Y3,qA Y6] fun Y7 =>
 .ret [qA Y7,D.int ((qB Y7).toInt)]:=by kernel_rfl
theorem Aj1(n:Nat)(a0:D):fA [] n 261 [] [a0] =
 cK 258 [a0] fun Y1 =>
 cK 262 [qA Y1] fun Y2 =>
 cK 258 [qA Y2] fun Y3 =>
 .ret [qA Y3]:=by kernel_rfl
theorem Aj4(n:Nat)(a0:D):fA [] n 262 [] [a0] =
 cK 229 [a0] fun Y1 =>
 cK 255 [a0] fun Y2 =>
 cK 306 [qA Y1,qA Y2] fun Y3 =>
 cK 245 [qA Y3] fun Y4 =>
 .ret [qA Y4]:=by kernel_rfl
theorem Ajy(n:Nat)(a0:D):fA [] n 263 [] [a0] =
 cK 304 [D.bool false,a0] fun Y1 =>
 .ret [qA Y1]:=by kernel_rfl
theorem AjH(n:Nat)(a0 b1:D):fA [] n 274 [] [a0,b1] =
 .br (((a0.fld 0).toBool)==((b1.fld 0).toBool)) (cK 312 [a0.fld 1,b1.fld 1] fun Y1 =>
 .br ((qA Y1).toBool) (cK 312 [a0.fld 2,b1.fld 2] fun Y2 =>
 .ret [D.bool ((qA Y2).toBool)])
 (.ret [D.bool false]))
 (.ret [D.bool false]):=by kernel_rfl
theorem Ajz(n:Nat)(a0 b1:D):fA [] n 277 [] [a0,b1] =
 cK 229 [a0] fun Y1 =>
 cK 255 [b1] fun Y2 =>
 cK 254 [qA Y1,qA Y2] fun Y3 =>
 cK 229 [b1] fun Y4 =>
 cK 255 [a0] fun Y5 =>
 cK 254 [qA Y4,qA Y5] fun Y6 =>
 cK 313 [qA Y3,qA Y6] fun Y7 =>
 cK 255 [a0] fun Y8 =>
 cK 255 [b1] fun Y9 =>
 cK 254 [qA Y8,qA Y9] fun Y10 =>
 cK 305 [qA Y7,qA Y10] fun Y11 =>
 .ret [qA Y11,D.int ((qB Y11).toInt)]:=by kernel_rfl
theorem AjK(n:Nat)(a0 b1:D):fA [] n 278 [] [a0,b1] =
 cK 258 [b1] fun Y1 =>
 cK 277 [a0,qA Y1] fun Y2 =>
 .ret [qA Y2,D.int ((qB Y2).toInt)]:=by kernel_rfl
theorem AjB(n:Nat)(a0 b1:D):fA [] n 279 [] [a0,b1] =
 cK 229 [a0] fun Y1 =>
 cK 229 [b1] fun Y2 =>
 cK 254 [qA Y1,qA Y2] fun Y3 =>
 cK 255 [a0] fun Y4 =>
 cK 255 [b1] fun Y5 =>
 cK 254 [qA Y4,qA Y5] fun Y6 =>
 cK 305 [qA Y3,qA Y6] fun Y7 =>
 .ret [qA Y7,D.int ((qB Y7).toInt)]:=by kernel_rfl
theorem AjA(n:Nat)(a0 b1:D):fA [] n 280 [] [a0,b1] =
 cK 259 [a0] fun Y1 =>
 .br (((qA Y1).toInt)==0) (cK 304 [D.bool ((b1.fld 0).toBool),b1] fun Y2 =>
 .ret [qA Y2,D.int 0])
 (cK 260 [b1,a0] fun Y3 =>
 .br (((qB Y3).toInt)!=0) (.ret [D.agg [D.bool false,D.sl [],D.sl []],D.int ((qB Y3).toInt)])
 (cK 262 [qA Y3] fun Y4 =>
 cK 279 [a0,qA Y4] fun Y5 =>
 .br (((qB Y5).toInt)!=0) (.ret [D.agg [D.bool false,D.sl [],D.sl []],D.int ((qB Y5).toInt)])
 (cK 278 [b1,qA Y5] fun Y6 =>
 .ret [qA Y6,D.int ((qB Y6).toInt)]))):=by kernel_rfl
theorem AjF(n:Nat)(a0 nn1:D):fA [] n 281 [] [a0,nn1] =
 cK 229 [a0] fun Y1 =>
 cK 255 [a0] fun Y2 =>
 bK (nn1.toInt<0) (cK 301 [qA Y1] fun Y3 =>
 .br (((qA Y3).toInt)==0) (.ret [D.agg [D.bool false,D.sl [],D.sl []],D.int 3])
 (.br (nn1.toInt == (-9223372036854775808)) (.ret [D.agg [D.bool false,D.sl [],D.sl []],D.int 3])
 (cK 314 [qA Y2,D.int (Aom .i64 (0-nn1.toInt))] fun Y4 =>
 .br (((qB Y4).toInt)!=0) (.ret [D.agg [D.bool false,D.sl [],D.sl []],D.int ((qB Y4).toInt)])
 (cK 314 [qA Y1,D.int (Aom .i64 (0-nn1.toInt))] fun Y5 =>
 .br (((qB Y5).toInt)!=0) (.ret [D.agg [D.bool false,D.sl [],D.sl []],D.int ((qB Y5).toInt)])
 (cK 305 [qA Y4,qA Y5] fun Y6 =>
 .ret [qA Y6,D.int ((qB Y6).toInt)])))))
 (cK 314 [qA Y1,D.int nn1.toInt] fun Y7 =>
 .br (((qB Y7).toInt)!=0) (.ret [D.agg [D.bool false,D.sl [],D.sl []],D.int ((qB Y7).toInt)])
 (cK 314 [qA Y2,D.int nn1.toInt] fun Y8 =>
 .br (((qB Y8).toInt)!=0) (.ret [D.agg [D.bool false,D.sl [],D.sl []],D.int ((qB Y8).toInt)])
 (cK 305 [qA Y7,qA Y8] fun Y9 =>
 .ret [qA Y9,D.int ((qB Y9).toInt)]))):=by kernel_rfl
theorem Aj8(n:Nat)(a0 b1:D):fA [] n 282 [] [a0,b1] =
 cK 283 [a0,b1] fun Y1 =>
 .br (((qB Y1).toInt)!=0) (.ret [D.agg [D.bool false,D.sl [],D.sl []],D.int ((qB Y1).toInt)])
 (cK 259 [qA Y1] fun Y2 =>
 .br (((qA Y2).toInt)==0) (cK 212 [D.int 0] fun Y3 =>
 .ret [qA Y3,D.int 0])
 (cK 260 [a0,qA Y1] fun Y4 =>
 .br (((qB Y4).toInt)!=0) (.ret [D.agg [D.bool false,D.sl [],D.sl []],D.int ((qB Y4).toInt)])
 (cK 279 [qA Y4,b1] fun Y5 =>
 .ret [qA Y5,D.int ((qB Y5).toInt)]))):=by kernel_rfl
theorem Aj5(n:Nat)(a0 b1:D):fA [] n 283 [] [a0,b1] =
 cK 227 [a0.fld 2] fun Y1 =>
 .br (!((qA Y1).toBool)) (.ret [D.agg [D.bool false,D.sl [],D.sl []],D.int 3])
 (cK 227 [b1.fld 2] fun Y2 =>
 .br (!((qA Y2).toBool)) (.ret [D.agg [D.bool false,D.sl [],D.sl []],D.int 3])
 (cK 315 [a0.fld 1,b1.fld 1] fun Y3 =>
 cK 245 [D.agg [D.bool false,qA Y3]] fun Y4 =>
 .ret [qA Y4,D.int 0])):=by kernel_rfl
theorem AjN(n:Nat)(neg0 a1:D):fA [] n 304 [] [neg0,a1] =
 cK 299 [a1.fld 1] fun Y1 =>
 cK 299 [a1.fld 2] fun Y2 =>
 .br neg0.toBool (.ret [D.agg [D.bool (decide (0<(((qA Y1).els).length:Int))),D.sl ((qA Y1).els),D.sl ((qA Y2).els)]])
 (.ret [D.agg [D.bool false,D.sl ((qA Y1).els),D.sl ((qA Y2).els)]]):=by kernel_rfl
theorem Aj9(n:Nat)(p0 q1:D):fA [] n 305 [] [p0,q1] =
 cK 299 [p0.fld 1] fun Y1 =>
 cK 299 [q1.fld 1] fun Y2 =>
 .br ((((qA Y2).els).length:Int)==0) (.ret [D.agg [D.bool false,D.sl [],D.sl []],D.int 3])
 (cK 227 [D.sl ((qA Y2).els)] fun Y3 =>
 .br (!((qA Y3).toBool)) (cK 315 [D.sl ((qA Y1).els),D.sl ((qA Y2).els)] fun Y4 =>
 cK 227 [qA Y4] fun Y5 =>
 .br (!((qA Y5).toBool)) (cK 323 [D.sl ((qA Y1).els),qA Y4] fun Y6 =>
 cK 323 [D.sl ((qA Y2).els),qA Y4] fun Y7 =>
 bK (32<(((qA Y6).els).length:Int)) (.ret [D.agg [D.bool false,D.sl [],D.sl []],D.int 7])
 (bK (32<(((qA Y7).els).length:Int)) (.ret [D.agg [D.bool false,D.sl [],D.sl []],D.int 7])
 (bK (0<(((qA Y6).els).length:Int)) (.ret [D.agg [D.bool (!(((p0.fld 0).toBool)==((q1.fld 0).toBool))),qA Y6,qA Y7],D.int 0])
 (.ret [D.agg [D.bool false,qA Y6,qA Y7],D.int 0]))))
 (bK (32<(((qA Y1).els).length:Int)) (.ret [D.agg [D.bool false,D.sl [],D.sl []],D.int 7])
 (bK (32<(((qA Y2).els).length:Int)) (.ret [D.agg [D.bool false,D.sl [],D.sl []],D.int 7])
 (bK (0<(((qA Y1).els).length:Int)) (.ret [D.agg [D.bool (!(((p0.fld 0).toBool)==((q1.fld 0).toBool))),D.sl ((qA Y1).els),D.sl ((qA Y2).els)],D.int 0])
 (.ret [D.agg [D.bool false,D.sl ((qA Y1).els),D.sl ((qA Y2).els)],D.int 0])))))
 (bK (32<(((qA Y1).els).length:Int)) (.ret [D.agg [D.bool false,D.sl [],D.sl []],D.int 7])
 (bK (32<(((qA Y2).els).length:Int)) (.ret [D.agg [D.bool false,D.sl [],D.sl []],D.int 7])
 (bK (0<(((qA Y1).els).length:Int)) (.ret [D.agg [D.bool (!(((p0.fld 0).toBool)==((q1.fld 0).toBool))),D.sl ((qA Y1).els),D.sl ((qA Y2).els)],D.int 0])
 (.ret [D.agg [D.bool false,D.sl ((qA Y1).els),D.sl ((qA Y2).els)],D.int 0]))))):=by kernel_rfl
theorem YK(n:Nat)(a0:D):fA [] n 307 [] [a0] =
 cK 227 [a0.fld 2] fun Y1 =>
 .br (!((qA Y1).toBool)) (.ret [D.agg [D.bool false,D.sl []],D.bool false])
 (cK 229 [a0] fun Y2 =>
 cK 269 [qA Y2] fun Y3 =>
 .ret [qA Y3,D.bool true]):=by kernel_rfl
def Og:List (Nat×Orc):=[(5,⟨[(0,some 23),(4,none),(5,none),(6,none)],[],[]⟩),(17,⟨[(0,some 23),(7,none),(8,none)],[],[]⟩)]
noncomputable def Tl(n m17:Nat)(s0:D)(nn7 i8:Int):Tree :=
 lA (eA Og n 52 [1,1,1,1,1,1,1,0,1,0,0]) (An Og 17) m17 ⟨(.d 23 s0::uA 6++(.i .i64 nn7:: .i .i64 i8::uA 47)),[],[],[],[]⟩
  (Ak 2 (Aq (jA Og n 52 [1,1,1,1,1,1,1,1]) (rA 52 [23] [.tmp 2,.tmp 3] [3,3])))
noncomputable def My(n m5:Nat)(s0:D)(big4 none5:Bool)(i6:Int):Tree :=
 lA (eA Og n 52 [1,1,1,0,1,0,0]) (An Og 5) m5 ⟨(.d 23 s0::uA 3++(.b big4:: .b none5:: .i .i64 i6::uA 49)),[],[],[],[]⟩
  (Ak 0 (Aq (jA Og n 52 [1,1,1,1]) (rA 52 [23] [.tmp 2,.tmp 3] [3,3])))
theorem ZO(n m17:Nat)(s0:D)(nn7 i8:Int):Tl n (m17+1) s0 nn7 i8 =
 bK (i8<(s0.els.length:Int)) (kK (0≤i8) (kK (i8<(s0.els.length:Int)) (bK (2048<(Aom .i64 (nn7*((s0.els.getD (Apa i8) D.nil).toInt)))) (.ret [D.int 0,D.int 7])
 (Tl n m17 s0 (Aom .i64 (nn7*((s0.els.getD (Apa i8) D.nil).toInt))) (Aom .i64 (i8+1))))))
 (.ret [D.int nn7,D.int 0]):=by kernel_rfl
theorem ZP(n m5:Nat)(s0:D)(big4 none5:Bool)(i6:Int):My n (m5+1) s0 big4 none5 i6 =
 bK (i6<(s0.els.length:Int)) (kK (0≤i6) (kK (i6<(s0.els.length:Int)) (bK (((s0.els.getD (Apa i6) D.nil).toInt)<0) (.ret [D.int 0,D.int 3])
 (.br big4 (.br none5 (My n m5 s0 true true (Aom .i64 (i6+1)))
 (kK (0≤i6) (kK (i6<(s0.els.length:Int)) (My n m5 s0 true (((s0.els.getD (Apa i6) D.nil).toInt)==0) (Aom .i64 (i6+1))))))
 (kK (0≤i6) (kK (i6<(s0.els.length:Int)) (.br none5 (My n m5 s0 (decide (2048<((s0.els.getD (Apa i6) D.nil).toInt))) true (Aom .i64 (i6+1)))
 (kK (0≤i6) (kK (i6<(s0.els.length:Int)) (My n m5 s0 (decide (2048<((s0.els.getD (Apa i6) D.nil).toInt))) (((s0.els.getD (Apa i6) D.nil).toInt)==0) (Aom .i64 (i6+1))))))))))))
 (.br big4 (.ret [D.int 0,D.int 7])
 (.br none5 (.ret [D.int 0,D.int 0])
 (Tl n n s0 1 0))):=by kernel_rfl
theorem AkO(n:Nat)(s0:D):fA Og n 52 [] [s0] =
 bK (6<(s0.els.length:Int)) (.ret [D.int 0,D.int 7])
 (My n n s0 false false 0):=by kernel_rfl
def AH:List (Nat×Orc):=[(4,⟨[(0,some 23),(1,some 23),(5,none)],[],[]⟩)]
noncomputable def AG(n m4:Nat)(a0 b1:D)(i5:Int):Tree :=
 lA (eA AH n 54 [1,1,0,1,0,0]) (An AH 4) m4 ⟨(.d 23 a0:: .d 23 b1::uA 3++(.i .i64 i5::uA 20)),[],[],[],[]⟩
  (Ak 0 (Aq (jA AH n 54 [1,1,1]) (rA 54 [23,23] [.tmp 4] [4])))
theorem AkP(n m4:Nat)(a0 b1:D)(i5:Int):AG n (m4+1) a0 b1 i5 =
 bK (i5<(a0.els.length:Int)) (kK (0≤i5) (kK (i5<(a0.els.length:Int)) (kK (0≤i5) (kK (i5<(b1.els.length:Int)) (.br (((a0.els.getD (Apa i5) D.nil).toInt)!=((b1.els.getD (Apa i5) D.nil).toInt)) (.ret [D.bool false])
 (AG n m4 a0 b1 (Aom .i64 (i5+1))))))))
 (.ret [D.bool true]):=by kernel_rfl
theorem AkQ(n:Nat)(a0 b1:D):fA AH n 54 [] [a0,b1] =
 .br ((a0.els.length:Int)!=(b1.els.length:Int)) (.ret [D.bool false])
 (AG n n a0 b1 0):=by kernel_rfl
theorem Am5(n:Nat)(s0 v1:D):fA [] n 74 [] [s0,v1] =
 cK 160 [s0,D.int v1.toInt] fun Y1 =>
 .ret [D.bool (decide (0≤((qA Y1).toInt)))]:=by kernel_rfl
theorem Amn(n:Nat)(s0:D):fA [] n 81 [] [s0] =
 bK (6<(s0.els.length:Int)) (.ret [D.int 0,D.int 7])
 (cK 167 [s0,D.fn 168 [] []] fun Y1 =>
 .br ((qA Y1).toBool) (.ret [D.int 0,D.int 3])
 (cK 167 [s0,D.fn 169 [] []] fun Y2 =>
 .br ((qA Y2).toBool) (.ret [D.int 0,D.int 7])
 (cK 74 [s0,D.int 0] fun Y3 =>
 .br ((qA Y3).toBool) (.ret [D.int 0,D.int 0])
 (cK 170 [s0] fun Y4 =>
 .br (((qA Y4).toInt)==0) (.ret [D.int 0,D.int 7])
 (.ret [D.int ((qA Y4).toInt),D.int 0]))))):=by kernel_rfl
theorem Aby(n:Nat)(s0:D):fA [] n 96 [] [s0] =
 .amb s0.els.isEmpty (.ret [D.sl []])
 (kK (([]:List D).length+s0.els.length≤Am) (.ret [D.sl ([]++s0.els)])):=by kernel_rfl
theorem Amy(n:Nat)(s0:D):fA [] n 139 [] [s0] =
 .amb s0.els.isEmpty (.ret [D.sl []])
 (kK (([]:List D).length+s0.els.length≤Am) (.ret [D.sl ([]++s0.els)])):=by kernel_rfl
theorem Amj(n:Nat)(s0 axis1:D):fA [] n 140 [] [s0,axis1] =
 cK 81 [s0] fun Y1 =>
 .br (((qB Y1).toInt)!=0) (.ret [D.int 0,D.int 0,D.int 0,D.bool false])
 (bK (axis1.toInt<0) (.ret [D.int 0,D.int 0,D.int 0,D.bool false])
 (bK ((s0.els.length:Int)≤axis1.toInt) (.ret [D.int 0,D.int 0,D.int 0,D.bool false])
 (kK (0≤axis1.toInt) (kK (axis1.toInt≤(s0.els.length:Int)) (cK 170 [D.sl (s0.els.take (Apa axis1.toInt))] fun Y2 =>
 kK (0≤axis1.toInt) (kK (axis1.toInt<(s0.els.length:Int)) (kK (0≤Aom .i64 (axis1.toInt+1)) (kK (Aom .i64 (axis1.toInt+1)≤(s0.els.length:Int)) (cK 170 [D.sl (s0.els.drop (Apa (Aom .i64 (axis1.toInt+1))))] fun Y3 =>
 .ret [D.int ((qA Y2).toInt),D.int ((s0.els.getD (Apa axis1.toInt) D.nil).toInt),D.int ((qA Y3).toInt),D.bool true]))))))))):=by kernel_rfl
def MA:List (Nat×Orc):=[(1,⟨[(0,none),(2,none),(3,none)],[],[(.slot 0,0,3)]⟩)]
noncomputable def CK(n m1:Nat)(s0:List D)(i2 j3:Int):Tree :=
 lA (eA MA n 144 [1,0,0]) (An MA 1) m1 ⟨(.row 0:: .undef:: .i .i64 i2:: .i .i64 j3::uA 24),[(0,.row 3 s0 true)],[0],[],[0]⟩
  (Ak 0 (rA 144 [23] [] []))
theorem AmF(n m1:Nat)(s0:List D)(i2 j3:Int):CK n (m1+1) s0 i2 j3 =
 bK (i2<j3) (kK (0≤j3) (kK (j3<(s0.length:Int)) (kK (0≤i2) (kK (i2<(s0.length:Int)) (kK (0≤i2) (kK (i2<(s0.length:Int)) (kK (0≤j3) (kK (j3<((s0.set (Apa i2) (D.int ((s0.getD (Apa j3) D.nil).toInt))).length:Int)) (CK n m1 ((s0.set (Apa i2) (D.int ((s0.getD (Apa j3) D.nil).toInt))).set (Apa j3) (D.int ((s0.getD (Apa i2) D.nil).toInt))) (Aom .i64 (i2+1)) (Aom .i64 (j3-1)))))))))))
 (.ret [D.sl s0]):=by kernel_rfl
theorem AmG(n:Nat)(s0:D):fA MA n 144 [] [s0] =
 CK n n s0.els 0 (Aom .i64 ((s0.els.length:Int)-1)):=by kernel_rfl
theorem AmH(n:Nat)(x0 cmp1_c0 cmp1_c1:D):fA [] n 155 [] [x0,(D.fn 156 [.ref 4,.ref 26] [cmp1_c0,cmp1_c1])] =
 cK 217 [D.sl x0.els,D.int (x0.els.length:Int),(D.fn 156 [.ref 4,.ref 26] [cmp1_c0,cmp1_c1])] fun Y1 =>
 .ret [D.sl ((qA Y1).els)]:=by kernel_rfl
def CJ:List (Nat×Orc):=[(2,⟨[(0,some 23),(1,none),(7,none),(8,none)],[],[]⟩)]
noncomputable def CI(n m2:Nat)(s0:D)(v1 t7 t8:Int):Tree :=
 lA (eA CJ n 160 [1,0,1,0,0]) (An CJ 2) m2 ⟨(.d 23 s0:: .i .i64 v1::uA 5++(.i .i64 t7:: .i .i64 t8::uA 10)),[],[],[],[]⟩
  (Ak 0 (Aq (jA CJ n 160 [1,1]) (rA 160 [23,3] [.tmp 4] [3])))
theorem Ab7(n m2:Nat)(s0:D)(v1 t7 t8:Int):CI n (m2+1) s0 v1 t7 t8 =
 bK (t8<t7) (kK (0≤t8) (kK (t8<(s0.els.length:Int)) (.br (v1 == ((s0.els.getD (Apa t8) D.nil).toInt)) (.ret [D.int t8])
 (CI n m2 s0 v1 t7 (Aom .i64 (t8+1))))))
 (.ret [D.int (-1)]):=by kernel_rfl
theorem AmE(n:Nat)(s0 v1:D):fA CJ n 160 [] [s0,v1] =
 CI n n s0 v1.toInt (s0.els.length:Int) 0:=by kernel_rfl
theorem Am3(n:Nat)(s0:D):fA [] n 167 [] [s0,(D.fn 168 [] [])] =
 cK 230 [s0,(D.fn 168 [] [])] fun Y1 =>
 .ret [D.bool (decide (0≤((qA Y1).toInt)))]:=by kernel_rfl
theorem Am4(n:Nat)(s0:D):fA [] n 167 [] [s0,(D.fn 169 [] [])] =
 cK 230 [s0,(D.fn 169 [] [])] fun Y1 =>
 .ret [D.bool (decide (0≤((qA Y1).toInt)))]:=by kernel_rfl
theorem Am2(n:Nat)(s0:D):fA [] n 167 [] [s0,(D.fn 188 [] [])] =
 cK 230 [s0,(D.fn 188 [] [])] fun Y1 =>
 .ret [D.bool (decide (0≤((qA Y1).toInt)))]:=by kernel_rfl
theorem Aml(n:Nat)(nn0:D):fA [] n 168 [] [nn0] =
 .ret [D.bool (decide (nn0.toInt<0))]:=by kernel_rfl
theorem Amm(n:Nat)(nn0:D):fA [] n 169 [] [nn0] =
 .ret [D.bool (decide (2048<nn0.toInt))]:=by kernel_rfl
def BW:List (Nat×Orc):=[(3,⟨[(3,none),(6,some 23),(7,none),(8,none)],[],[]⟩)]
noncomputable def T_(n m3:Nat)(out3:Int)(t6:D)(t7 t8:Int):Tree :=
 lA (eA BW n 170 [1,1,0,1,0,0]) (An BW 3) m3 ⟨(uA 3++(.i .i64 out3:: .undef:: .undef:: .d 23 t6:: .i .i64 t7:: .i .i64 t8::uA 10)),[],[],[],[]⟩
  (Ak 0 (Aq (jA BW n 170 [1,1,1]) (rA 170 [23] [.tmp 2] [3])))
theorem BV(n m3:Nat)(out3:Int)(t6:D)(t7 t8:Int):T_ n (m3+1) out3 t6 t7 t8 =
 bK (t8<t7) (kK (0≤t8) (kK (t8<(t6.els.length:Int)) (bK (2048<(Aom .i64 (out3*((t6.els.getD (Apa t8) D.nil).toInt)))) (.ret [D.int 0])
 (T_ n m3 (Aom .i64 (out3*((t6.els.getD (Apa t8) D.nil).toInt))) t6 t7 (Aom .i64 (t8+1))))))
 (.ret [D.int out3]):=by kernel_rfl
theorem Abv(n:Nat)(s0:D):fA BW n 170 [] [s0] =
 T_ n n 1 s0 (s0.els.length:Int) 0:=by kernel_rfl
theorem Amp(n:Nat)(s0 axis1 nn2:D):fA [] n 173 [] [s0,axis1,nn2] =
 bK (axis1.toInt<0) (.ret [D.sl [],D.bool false])
 (bK ((s0.els.length:Int)≤axis1.toInt) (.ret [D.sl [],D.bool false])
 (cK 96 [s0] fun Y1 =>
 kK (0≤axis1.toInt) (kK (axis1.toInt<(((qA Y1).els).length:Int)) (.ret [D.sl (((qA Y1).els).set (Apa axis1.toInt) (D.int nn2.toInt)),D.bool true])))):=by kernel_rfl
def BS:List (Nat×Orc):=[(6,⟨[(0,some 23),(1,none),(8,none),(9,none)],[],[(.slot 8,1060,3)]⟩)]
noncomputable def BQ(n m6:Nat)(s0:D)(nn1:Int)(out8:List D)(i9:Int):Tree :=
 lA (eA BS n 175 [1,1,1,1,0,1,0,0]) (An BS 6) m6 ⟨(.d 23 s0:: .i .i64 nn1::uA 6++(.row 1060:: .i .i64 i9::uA 42)),[(1060,.row 3 out8 true)],[1060],[],[]⟩
  (Ak 0 (Aq (jA BS n 175 [1,1,1,1,1]) (rA 175 [23,3] [.tmp 4,.tmp 5] [23,4])))
theorem Abp(n m6:Nat)(s0:D)(nn1:Int)(out8:List D)(i9:Int):BQ n (m6+1) s0 nn1 out8 i9 =
 bK (0≤i9) (kK (0≤i9) (kK (i9<(s0.els.length:Int)) (.br (!(((s0.els.getD (Apa i9) D.nil).toInt)==(0:Int))) (kK (0≤i9) (kK (i9<(out8.length:Int)) (kK (0≤i9) (kK (i9<(s0.els.length:Int)) (.br (!(((s0.els.getD (Apa i9) D.nil).toInt)==(0:Int))) (BQ n m6 s0 (Aom .i64 (Int.tdiv nn1 ((s0.els.getD (Apa i9) D.nil).toInt))) (out8.set (Apa i9) (D.int (Int.tmod nn1 ((s0.els.getD (Apa i9) D.nil).toInt)))) (Aom .i64 (i9-1))) .fail))))) .fail)))
 (.ret [D.sl out8,D.bool true]):=by kernel_rfl
theorem Amk(n:Nat)(s0 nn1:D):fA BS n 175 [] [s0,nn1] =
 cK 81 [s0] fun Y1 =>
 .br (((qB Y1).toInt)!=0) (.ret [D.sl [],D.bool false])
 (bK (nn1.toInt<0) (.ret [D.sl [],D.bool false])
 (bK (((qA Y1).toInt)≤nn1.toInt) (.ret [D.sl [],D.bool false])
 (kK (0≤(s0.els.length:Int)) (kK ((s0.els.length:Int)≤(s0.els.length:Int)) (kK ((s0.els.length:Int)≤Am) (BQ n n s0 nn1.toInt (Apc (Apa (s0.els.length:Int)) (D.int 0)) (Aom .i64 ((s0.els.length:Int)-1)))))))):=by kernel_rfl
def BU:List (Nat×Orc):=[(6,⟨[(1,some 23),(8,none),(25,some 23),(26,none),(27,none)],[],[]⟩)]
noncomputable def BT(n m6:Nat)(at1:D)(out8:Int)(t25:D)(t26 t27:Int):Tree :=
 lA (eA BU n 176 [1,1,1,0,1,0,0]) (An BU 6) m6 ⟨(.undef:: .d 23 at1::uA 6++(.i .i64 out8::uA 16++(.d 23 t25:: .i .i64 t26:: .i .i64 t27::uA 27))),[],[],[],[]⟩
  (Ak 0 (Aq (jA BU n 176 [1,1,1,1]) (rA 176 [23,23] [.tmp 4,.tmp 5] [3,4])))
theorem Abr(n m6:Nat)(at1:D)(out8:Int)(t25:D)(t26 t27:Int):BT n (m6+1) at1 out8 t25 t26 t27 =
 bK (t27<t26) (kK (0≤t27) (kK (t27<(t25.els.length:Int)) (kK (0≤t27) (kK (t27<(at1.els.length:Int)) (bK (((at1.els.getD (Apa t27) D.nil).toInt)<0) (.ret [D.int 0,D.bool false])
 (kK (0≤t27) (kK (t27<(at1.els.length:Int)) (bK (((t25.els.getD (Apa t27) D.nil).toInt)≤((at1.els.getD (Apa t27) D.nil).toInt)) (.ret [D.int 0,D.bool false])
 (kK (0≤t27) (kK (t27<(at1.els.length:Int)) (BT n m6 at1 (Aom .i64 ((Aom .i64 (out8*((t25.els.getD (Apa t27) D.nil).toInt)))+((at1.els.getD (Apa t27) D.nil).toInt))) t25 t26 (Aom .i64 (t27+1)))))))))))))
 (.ret [D.int out8,D.bool true]):=by kernel_rfl
theorem Amo(n:Nat)(s0 at1:D):fA BU n 176 [] [s0,at1] =
 cK 81 [s0] fun Y1 =>
 .br (((qB Y1).toInt)!=0) (.ret [D.int 0,D.bool false])
 (.br ((at1.els.length:Int)!=(s0.els.length:Int)) (.ret [D.int 0,D.bool false])
 (BT n n at1 0 s0 (s0.els.length:Int) 0)):=by kernel_rfl
def I2:List (Nat×Orc):=[(2,⟨[(0,none),(1,none),(2,some 107),(6,none),(7,none),(8,none)],[],[(.slot 0,0,3)]⟩),(7,⟨[(0,none),(1,none),(2,some 107),(6,none)],[],[(.slot 0,0,3)]⟩),(9,⟨[(0,none),(1,none),(2,some 107),(6,none),(7,none),(8,none)],[],[(.slot 0,0,3)]⟩)]
def CP:List Nat:=[23,3,107]
noncomputable def CO(n m7 m9:Nat)(data0:List D)(nn1:Int)(cmp2:D)(blockSize6 a7 b8:Int):Tree :=
 lA (eA I2 n 217 [1,1,1,1,0,0,1,0,1,0,0,0]) (An I2 9) m9 ⟨(.row 0:: .i .i64 nn1:: .d 107 cmp2::uA 3++(.i .i64 blockSize6:: .i .i64 a7:: .i .i64 b8::uA 54)),[(0,.row 3 data0 true)],[0],[],[0]⟩
  (Ak 4 (Aq (jA I2 n 217 [1,1,1,1,0,0,1,0,1,1]) (Ak 3 (Gb Tryz.prog md (An I2 7) (fun s1=>lA (eA I2 n 217 [1,1,1,1,0,0]) (An I2 7) m7 s1 (Ak 2 (rA 217 CP [] []))) (Ak 2 (rA 217 CP [] []))))))
noncomputable def Q3(n m7:Nat)(data0:List D)(nn1:Int)(cmp2:D)(blockSize6:Int):Tree :=
 lA (eA I2 n 217 [1,1,1,1,0,0]) (An I2 7) m7 ⟨(.row 0:: .i .i64 nn1:: .d 107 cmp2::uA 3++(.i .i64 blockSize6::uA 56)),[(0,.row 3 data0 true)],[0],[],[0]⟩
  (Ak 2 (rA 217 CP [] []))
noncomputable def CN(n m2:Nat)(data0:List D)(nn1:Int)(cmp2:D)(blockSize6 a7 b8:Int):Tree :=
 lA (eA I2 n 217 [1,1,0,0,0]) (An I2 2) m2 ⟨(.row 0:: .i .i64 nn1:: .d 107 cmp2::uA 3++(.i .i64 blockSize6:: .i .i64 a7:: .i .i64 b8::uA 54)),[(0,.row 3 data0 true)],[0],[],[0]⟩
  (Ak 0 (Aq (jA I2 n 217 [1,1,1]) (rA 217 CP [] [])))
theorem AmN(n m7 m9:Nat)(data0:List D)(nn1:Int)(cmp2_c0 cmp2_c1:D)(blockSize6 a7 b8:Int):CO n m7 (m9+1) data0 nn1 (D.fn 156 [.ref 4,.ref 26] [cmp2_c0,cmp2_c1]) blockSize6 a7 b8 =
 bK (b8≤nn1) (cK 251 [D.sl data0,D.int a7,D.int (Aom .i64 (a7+blockSize6)),D.int b8,(D.fn 156 [.ref 4,.ref 26] [cmp2_c0,cmp2_c1])] fun Y3 =>
 CO n m7 m9 ((qA Y3).els) nn1 (D.fn 156 [.ref 4,.ref 26] [cmp2_c0,cmp2_c1]) blockSize6 b8 (Aom .i64 (b8+(Aom .i64 (2*blockSize6)))))
 (bK ((Aom .i64 (a7+blockSize6))<nn1) (cK 251 [D.sl data0,D.int a7,D.int (Aom .i64 (a7+blockSize6)),D.int nn1,(D.fn 156 [.ref 4,.ref 26] [cmp2_c0,cmp2_c1])] fun Y4 =>
 Q3 n m7 ((qA Y4).els) nn1 (D.fn 156 [.ref 4,.ref 26] [cmp2_c0,cmp2_c1]) (Aom .i64 (blockSize6*2)))
 (Q3 n m7 data0 nn1 (D.fn 156 [.ref 4,.ref 26] [cmp2_c0,cmp2_c1]) (Aom .i64 (blockSize6*2)))):=by kernel_rfl
theorem AmM(n m7:Nat)(data0:List D)(nn1:Int)(cmp2_c0 cmp2_c1:D)(blockSize6:Int):Q3 n (m7+1) data0 nn1 (D.fn 156 [.ref 4,.ref 26] [cmp2_c0,cmp2_c1]) blockSize6 =
 bK (blockSize6<nn1) (CO n m7 n data0 nn1 (D.fn 156 [.ref 4,.ref 26] [cmp2_c0,cmp2_c1]) blockSize6 0 (Aom .i64 (2*blockSize6)))
 (.ret [D.sl data0]):=by kernel_rfl
theorem AmL(n m2:Nat)(data0:List D)(nn1:Int)(cmp2_c0 cmp2_c1:D)(blockSize6 a7 b8:Int):CN n (m2+1) data0 nn1 (D.fn 156 [.ref 4,.ref 26] [cmp2_c0,cmp2_c1]) blockSize6 a7 b8 =
 bK (b8≤nn1) (cK 250 [D.sl data0,D.int a7,D.int b8,(D.fn 156 [.ref 4,.ref 26] [cmp2_c0,cmp2_c1])] fun Y1 =>
 CN n m2 ((qA Y1).els) nn1 (D.fn 156 [.ref 4,.ref 26] [cmp2_c0,cmp2_c1]) blockSize6 b8 (Aom .i64 (b8+blockSize6)))
 (cK 250 [D.sl data0,D.int a7,D.int nn1,(D.fn 156 [.ref 4,.ref 26] [cmp2_c0,cmp2_c1])] fun Y2 =>
 Q3 n n ((qA Y2).els) nn1 (D.fn 156 [.ref 4,.ref 26] [cmp2_c0,cmp2_c1]) blockSize6):=by kernel_rfl
theorem AmO(n:Nat)(data0 nn1:D)(cmp2_c0 cmp2_c1:D):fA I2 n 217 [] [data0,nn1,(D.fn 156 [.ref 4,.ref 26] [cmp2_c0,cmp2_c1])] =
 CN n n data0.els nn1.toInt (D.fn 156 [.ref 4,.ref 26] [cmp2_c0,cmp2_c1]) 20 0 20:=by kernel_rfl
def Qz:List (Nat×Orc):=[(2,⟨[(0,some 23),(1,some 119),(7,none),(8,none)],[],[]⟩)]
noncomputable def I1(n m2:Nat)(s0 f1:D)(t7 t8:Int):Tree :=
 lA (eA Qz n 230 [1,0,1,0,0]) (An Qz 2) m2 ⟨(.d 23 s0:: .d 119 f1::uA 5++(.i .i64 t7:: .i .i64 t8::uA 10)),[],[],[],[]⟩
  (Ak 0 (Aq (jA Qz n 230 [1,1]) (rA 230 [23,119] [.tmp 4] [3])))
theorem Ab5(n m2:Nat)(s0:D)(t7 t8:Int):I1 n (m2+1) s0 (D.fn 168 [] []) t7 t8 =
 bK (t8<t7) (kK (0≤t8) (kK (t8<(s0.els.length:Int)) (.call (D.fn 168 [] []).fnId (D.fn 168 [] []).fnCts ([D.int ((s0.els.getD (Apa t8) D.nil).toInt)]++(D.fn 168 [] []).fnDs) fun Y1 =>
 .br ((qA Y1).toBool) (.ret [D.int t8])
 (I1 n m2 s0 (D.fn 168 [] []) t7 (Aom .i64 (t8+1))))))
 (.ret [D.int (-1)]):=by kernel_rfl
theorem Ab6(n m2:Nat)(s0:D)(t7 t8:Int):I1 n (m2+1) s0 (D.fn 169 [] []) t7 t8 =
 bK (t8<t7) (kK (0≤t8) (kK (t8<(s0.els.length:Int)) (.call (D.fn 169 [] []).fnId (D.fn 169 [] []).fnCts ([D.int ((s0.els.getD (Apa t8) D.nil).toInt)]++(D.fn 169 [] []).fnDs) fun Y1 =>
 .br ((qA Y1).toBool) (.ret [D.int t8])
 (I1 n m2 s0 (D.fn 169 [] []) t7 (Aom .i64 (t8+1))))))
 (.ret [D.int (-1)]):=by kernel_rfl
theorem Ab4(n m2:Nat)(s0:D)(t7 t8:Int):I1 n (m2+1) s0 (D.fn 188 [] []) t7 t8 =
 bK (t8<t7) (kK (0≤t8) (kK (t8<(s0.els.length:Int)) (.call (D.fn 188 [] []).fnId (D.fn 188 [] []).fnCts ([D.int ((s0.els.getD (Apa t8) D.nil).toInt)]++(D.fn 188 [] []).fnDs) fun Y1 =>
 .br ((qA Y1).toBool) (.ret [D.int t8])
 (I1 n m2 s0 (D.fn 188 [] []) t7 (Aom .i64 (t8+1))))))
 (.ret [D.int (-1)]):=by kernel_rfl
theorem AmC(n:Nat)(s0:D):fA Qz n 230 [] [s0,(D.fn 168 [] [])] =
 I1 n n s0 (D.fn 168 [] []) (s0.els.length:Int) 0:=by kernel_rfl
theorem AmD(n:Nat)(s0:D):fA Qz n 230 [] [s0,(D.fn 169 [] [])] =
 I1 n n s0 (D.fn 169 [] []) (s0.els.length:Int) 0:=by kernel_rfl
theorem AmB(n:Nat)(s0:D):fA Qz n 230 [] [s0,(D.fn 188 [] [])] =
 I1 n n s0 (D.fn 188 [] []) (s0.els.length:Int) 0:=by kernel_rfl
def CF:List (Nat×Orc):=[(4,⟨[(0,some 23),(1,some 23),(12,none),(13,none)],[],[]⟩)]
noncomputable def CE(n m4:Nat)(s10 s21:D)(t12 t13:Int):Tree :=
 lA (eA CF n 234 [1,1,0,1,0,0]) (An CF 4) m4 ⟨(.d 23 s10:: .d 23 s21::uA 10++(.i .i64 t12:: .i .i64 t13::uA 12)),[],[],[],[]⟩
  (Ak 0 (Aq (jA CF n 234 [1,1,1]) (rA 234 [23,23] [.tmp 4] [4])))
theorem Am8(n m4:Nat)(s10 s21:D)(t12 t13:Int):CE n (m4+1) s10 s21 t12 t13 =
 bK (t13<t12) (kK (0≤t13) (kK (t13<(s10.els.length:Int)) (kK (0≤t13) (kK (t13<(s21.els.length:Int)) (.br (((s10.els.getD (Apa t13) D.nil).toInt)!=((s21.els.getD (Apa t13) D.nil).toInt)) (.ret [D.bool false])
 (CE n m4 s10 s21 t12 (Aom .i64 (t13+1))))))))
 (.ret [D.bool true]):=by kernel_rfl
theorem Am9(n:Nat)(s10 s21:D):fA CF n 234 [] [s10,s21] =
 .br ((s10.els.length:Int)!=(s21.els.length:Int)) (.ret [D.bool false])
 (CE n n s10 s21 (s10.els.length:Int) 0):=by kernel_rfl
theorem Amz(n:Nat)(s0:D):fA [] n 247 [] [s0] =
 .amb s0.els.isEmpty (.ret [D.sl []])
 (kK (([]:List D).length+s0.els.length≤Am) (.ret [D.sl ([]++s0.els)])):=by kernel_rfl
theorem Amx(n:Nat)(s0:D):fA [] n 248 [] [s0] =
 .amb s0.els.isEmpty (.ret [D.sl []])
 (kK (([]:List D).length+s0.els.length≤Am) (.ret [D.sl ([]++s0.els)])):=by kernel_rfl
def Ls:List (Nat×Orc):=[(1,⟨[(0,none),(1,none),(2,none),(3,some 107),(8,none)],[],[(.slot 0,0,3)]⟩),(4,⟨[(0,none),(1,none),(2,none),(3,some 107),(8,none),(9,none)],[],[(.slot 0,0,3)]⟩)]
def MB:List Nat:=[23,3,3,107]
noncomputable def CL(n m1 m4:Nat)(data0:List D)(a1 b2:Int)(cmp3:D)(i8 j9:Int):Tree :=
 lA (eA Ls n 250 [1,0,0,1,0,0,1,0,0]) (An Ls 4) m4 ⟨(.row 0:: .i .i64 a1:: .i .i64 b2:: .d 107 cmp3::uA 4++(.i .i64 i8:: .i .i64 j9::uA 43)),[(0,.row 3 data0 true)],[0],[],[0]⟩
  (Ak 2 (Ak 1 (Aq (jA Ls n 250 [1,0,0,1,1]) (Gb Tryz.prog md (An Ls 1) (fun s1=>lA (eA Ls n 250 [1,0,0]) (An Ls 1) m1 s1 (Ak 0 (rA 250 MB [] []))) (Ak 0 (rA 250 MB [] []))))))
noncomputable def Q0(n m1:Nat)(data0:List D)(a1 b2:Int)(cmp3:D)(i8:Int):Tree :=
 lA (eA Ls n 250 [1,0,0]) (An Ls 1) m1 ⟨(.row 0:: .i .i64 a1:: .i .i64 b2:: .d 107 cmp3::uA 4++(.i .i64 i8::uA 44)),[(0,.row 3 data0 true)],[0],[],[0]⟩
  (Ak 0 (rA 250 MB [] []))
theorem Ab9(n m1 m4:Nat)(data0:List D)(a1 b2:Int)(cmp3_c0 cmp3_c1:D)(i8 j9:Int):CL n m1 (m4+1) data0 a1 b2 (D.fn 156 [.ref 4,.ref 26] [cmp3_c0,cmp3_c1]) i8 j9 =
 bK (a1<j9) (kK (0≤j9) (kK (j9<(data0.length:Int)) (kK (0≤Aom .i64 (j9-1)) (kK (Aom .i64 (j9-1)<(data0.length:Int)) (.call (D.fn 156 [.ref 4,.ref 26] [cmp3_c0,cmp3_c1]).fnId (D.fn 156 [.ref 4,.ref 26] [cmp3_c0,cmp3_c1]).fnCts ([D.int ((data0.getD (Apa j9) D.nil).toInt),D.int ((data0.getD (Apa (Aom .i64 (j9-1))) D.nil).toInt)]++(D.fn 156 [.ref 4,.ref 26] [cmp3_c0,cmp3_c1]).fnDs) fun Y1 =>
 bK (((qA Y1).toInt)<0) (kK (0≤Aom .i64 (j9-1)) (kK (Aom .i64 (j9-1)<(data0.length:Int)) (kK (0≤j9) (kK (j9<(data0.length:Int)) (kK (0≤j9) (kK (j9<(data0.length:Int)) (kK (0≤Aom .i64 (j9-1)) (kK (Aom .i64 (j9-1)<((data0.set (Apa j9) (D.int ((data0.getD (Apa (Aom .i64 (j9-1))) D.nil).toInt))).length:Int)) (CL n m1 m4 ((data0.set (Apa j9) (D.int ((data0.getD (Apa (Aom .i64 (j9-1))) D.nil).toInt))).set (Apa (Aom .i64 (j9-1))) (D.int ((data0.getD (Apa j9) D.nil).toInt))) a1 b2 (D.fn 156 [.ref 4,.ref 26] [cmp3_c0,cmp3_c1]) i8 (Aom .i64 (j9-1)))))))))))
 (Q0 n m1 data0 a1 b2 (D.fn 156 [.ref 4,.ref 26] [cmp3_c0,cmp3_c1]) (Aom .i64 (i8+1))))))))
 (Q0 n m1 data0 a1 b2 (D.fn 156 [.ref 4,.ref 26] [cmp3_c0,cmp3_c1]) (Aom .i64 (i8+1))):=by kernel_rfl
theorem Ab8(n m1:Nat)(data0:List D)(a1 b2:Int)(cmp3_c0 cmp3_c1:D)(i8:Int):Q0 n (m1+1) data0 a1 b2 (D.fn 156 [.ref 4,.ref 26] [cmp3_c0,cmp3_c1]) i8 =
 bK (i8<b2) (CL n m1 n data0 a1 b2 (D.fn 156 [.ref 4,.ref 26] [cmp3_c0,cmp3_c1]) i8 i8)
 (.ret [D.sl data0]):=by kernel_rfl
theorem AmI(n:Nat)(data0 a1:D)(b2 cmp3_c0 cmp3_c1:D):fA Ls n 250 [] [data0,a1,b2,(D.fn 156 [.ref 4,.ref 26] [cmp3_c0,cmp3_c1])] =
 Q0 n n data0.els a1.toInt b2.toInt (D.fn 156 [.ref 4,.ref 26] [cmp3_c0,cmp3_c1]) (Aom .i64 (a1.toInt+1)):=by kernel_rfl
def E7:List (Nat×Orc):=[(3,⟨[(0,none),(1,none),(4,some 107),(10,none),(11,none)],[],[(.slot 0,0,3)]⟩),(9,⟨[(0,none),(10,none),(13,none)],[],[(.slot 0,0,3)]⟩),(15,⟨[(0,none),(2,none),(4,some 107),(14,none),(15,none)],[],[(.slot 0,0,3)]⟩),(21,⟨[(0,none),(14,none),(17,none)],[],[(.slot 0,0,3)]⟩),(33,⟨[(0,none),(1,none),(2,none),(3,none),(4,some 107),(18,none),(19,none),(20,none),(21,none),(22,none)],[],[(.slot 0,0,3)]⟩)]
def Ud:List Nat:=[23,3,3,3,107]
noncomputable def CS(n m9:Nat)(data0:List D)(i10 k13:Int):Tree :=
 lA (eA E7 n 251 [0,1,0,1,1,1,0,1,0,0]) (An E7 9) m9 ⟨(.row 0::uA 9++(.i .i64 i10:: .undef:: .undef:: .i .i64 k13::uA 206)),[(0,.row 3 data0 true)],[0],[],[0]⟩
  (Ak 2 (Aq (jA E7 n 251 [0,1,0,1,1,1,1]) (Aq (jA E7 n 251 [1]) (rA 251 Ud [] []))))
noncomputable def Uc(n m3:Nat)(data0:List D)(a1:Int)(cmp4:D)(i10 j11:Int):Tree :=
 lA (eA E7 n 251 [0,1,0,1,1,0,0,0]) (An E7 3) m3 ⟨(.row 0:: .i .i64 a1:: .undef:: .undef:: .d 107 cmp4::uA 5++(.i .i64 i10:: .i .i64 j11::uA 208)),[(0,.row 3 data0 true)],[0],[],[0]⟩
  (Ak 0 (Aq (jA E7 n 251 [0,1,0,1,1,1]) (Aq (jA E7 n 251 [1]) (rA 251 Ud [] []))))
noncomputable def CR(n m21:Nat)(data0:List D)(i14 k17:Int):Tree :=
 lA (eA E7 n 251 [1,0,1,0,1,1,1,0,1,0,0]) (An E7 21) m21 ⟨(.row 0::uA 13++(.i .i64 i14:: .undef:: .undef:: .i .i64 k17::uA 202)),[(0,.row 3 data0 true)],[0],[],[0]⟩
  (Ak 6 (Aq (jA E7 n 251 [1,0,1,0,1,1,1,1]) (Aq (jA E7 n 251 [1,1]) (rA 251 Ud [] []))))
noncomputable def Ub(n m15:Nat)(data0:List D)(mm2:Int)(cmp4:D)(i14 j15:Int):Tree :=
 lA (eA E7 n 251 [1,0,1,0,1,1,0,0,0]) (An E7 15) m15 ⟨(.row 0:: .undef:: .i .i64 mm2:: .undef:: .d 107 cmp4::uA 9++(.i .i64 i14:: .i .i64 j15::uA 204)),[(0,.row 3 data0 true)],[0],[],[0]⟩
  (Ak 4 (Aq (jA E7 n 251 [1,0,1,0,1,1,1]) (Aq (jA E7 n 251 [1,1]) (rA 251 Ud [] []))))
noncomputable def Q4(n m33:Nat)(data0:List D)(a1 mm2 b3:Int)(cmp4:D)(mid18 nn19:Int)(start20 r21 p22:Int):Tree :=
 lA (eA E7 n 251 [1,1,1,1,1,1,1,0,0,0]) (An E7 33) m33 ⟨(.row 0:: .i .i64 a1:: .i .i64 mm2:: .i .i64 b3:: .d 107 cmp4::uA 13++(.i .i64 mid18:: .i .i64 nn19:: .i .i64 start20:: .i .i64 r21:: .i .i64 p22::uA 197)),[(0,.row 3 data0 true)],[0],[],[0]⟩
  (Ak 8 (Aq (jA E7 n 251 [1,1,1,1,1,1,1,1]) (rA 251 Ud [] [])))
theorem AbB(n m9:Nat)(data0:List D)(i10 k13:Int):CS n (m9+1) data0 i10 k13 =
 bK (k13<(Aom .i64 (i10-1))) (kK (0≤Aom .i64 (k13+1)) (kK (Aom .i64 (k13+1)<(data0.length:Int)) (kK (0≤k13) (kK (k13<(data0.length:Int)) (kK (0≤k13) (kK (k13<(data0.length:Int)) (kK (0≤Aom .i64 (k13+1)) (kK (Aom .i64 (k13+1)<((data0.set (Apa k13) (D.int ((data0.getD (Apa (Aom .i64 (k13+1))) D.nil).toInt))).length:Int)) (CS n m9 ((data0.set (Apa k13) (D.int ((data0.getD (Apa (Aom .i64 (k13+1))) D.nil).toInt))).set (Apa (Aom .i64 (k13+1))) (D.int ((data0.getD (Apa k13) D.nil).toInt))) i10 (Aom .i64 (k13+1)))))))))))
 (.ret [D.sl data0]):=by kernel_rfl
theorem AmS(n m3:Nat)(data0:List D)(a1:Int)(cmp4_c0 cmp4_c1:D)(i10 j11:Int):Uc n (m3+1) data0 a1 (D.fn 156 [.ref 4,.ref 26] [cmp4_c0,cmp4_c1]) i10 j11 =
 bK (i10<j11) (kK (0≤1) (kK (0≤Aom .i64 (Ap3 (Aom .u64 (Aom .i64 (i10+j11))) (2 ^ (min (Apa 1) (Apl .u64))))) (kK (Aom .i64 (Ap3 (Aom .u64 (Aom .i64 (i10+j11))) (2 ^ (min (Apa 1) (Apl .u64))))<(data0.length:Int)) (kK (0≤a1) (kK (a1<(data0.length:Int)) (.call (D.fn 156 [.ref 4,.ref 26] [cmp4_c0,cmp4_c1]).fnId (D.fn 156 [.ref 4,.ref 26] [cmp4_c0,cmp4_c1]).fnCts ([D.int ((data0.getD (Apa (Aom .i64 (Ap3 (Aom .u64 (Aom .i64 (i10+j11))) (2 ^ (min (Apa 1) (Apl .u64)))))) D.nil).toInt),D.int ((data0.getD (Apa a1) D.nil).toInt)]++(D.fn 156 [.ref 4,.ref 26] [cmp4_c0,cmp4_c1]).fnDs) fun Y1 =>
 bK (((qA Y1).toInt)<0) (Uc n m3 data0 a1 (D.fn 156 [.ref 4,.ref 26] [cmp4_c0,cmp4_c1]) (Aom .i64 ((Aom .i64 (Ap3 (Aom .u64 (Aom .i64 (i10+j11))) (2 ^ (min (Apa 1) (Apl .u64)))))+1)) j11)
 (Uc n m3 data0 a1 (D.fn 156 [.ref 4,.ref 26] [cmp4_c0,cmp4_c1]) i10 (Aom .i64 (Ap3 (Aom .u64 (Aom .i64 (i10+j11))) (2 ^ (min (Apa 1) (Apl .u64))))))))))))
 (CS n n data0 i10 a1):=by kernel_rfl
theorem AbA(n m21:Nat)(data0:List D)(i14 k17:Int):CR n (m21+1) data0 i14 k17 =
 bK (i14<k17) (kK (0≤Aom .i64 (k17-1)) (kK (Aom .i64 (k17-1)<(data0.length:Int)) (kK (0≤k17) (kK (k17<(data0.length:Int)) (kK (0≤k17) (kK (k17<(data0.length:Int)) (kK (0≤Aom .i64 (k17-1)) (kK (Aom .i64 (k17-1)<((data0.set (Apa k17) (D.int ((data0.getD (Apa (Aom .i64 (k17-1))) D.nil).toInt))).length:Int)) (CR n m21 ((data0.set (Apa k17) (D.int ((data0.getD (Apa (Aom .i64 (k17-1))) D.nil).toInt))).set (Apa (Aom .i64 (k17-1))) (D.int ((data0.getD (Apa k17) D.nil).toInt))) i14 (Aom .i64 (k17-1)))))))))))
 (.ret [D.sl data0]):=by kernel_rfl
theorem AmQ(n m15:Nat)(data0:List D)(mm2:Int)(cmp4_c0 cmp4_c1:D)(i14 j15:Int):Ub n (m15+1) data0 mm2 (D.fn 156 [.ref 4,.ref 26] [cmp4_c0,cmp4_c1]) i14 j15 =
 bK (i14<j15) (kK (0≤1) (kK (0≤mm2) (kK (mm2<(data0.length:Int)) (kK (0≤Aom .i64 (Ap3 (Aom .u64 (Aom .i64 (i14+j15))) (2 ^ (min (Apa 1) (Apl .u64))))) (kK (Aom .i64 (Ap3 (Aom .u64 (Aom .i64 (i14+j15))) (2 ^ (min (Apa 1) (Apl .u64))))<(data0.length:Int)) (.call (D.fn 156 [.ref 4,.ref 26] [cmp4_c0,cmp4_c1]).fnId (D.fn 156 [.ref 4,.ref 26] [cmp4_c0,cmp4_c1]).fnCts ([D.int ((data0.getD (Apa mm2) D.nil).toInt),D.int ((data0.getD (Apa (Aom .i64 (Ap3 (Aom .u64 (Aom .i64 (i14+j15))) (2 ^ (min (Apa 1) (Apl .u64)))))) D.nil).toInt)]++(D.fn 156 [.ref 4,.ref 26] [cmp4_c0,cmp4_c1]).fnDs) fun Y2 =>
 .br (!(decide (((qA Y2).toInt)<0))) (Ub n m15 data0 mm2 (D.fn 156 [.ref 4,.ref 26] [cmp4_c0,cmp4_c1]) (Aom .i64 ((Aom .i64 (Ap3 (Aom .u64 (Aom .i64 (i14+j15))) (2 ^ (min (Apa 1) (Apl .u64)))))+1)) j15)
 (Ub n m15 data0 mm2 (D.fn 156 [.ref 4,.ref 26] [cmp4_c0,cmp4_c1]) i14 (Aom .i64 (Ap3 (Aom .u64 (Aom .i64 (i14+j15))) (2 ^ (min (Apa 1) (Apl .u64))))))))))))
 (CR n n data0 i14 mm2):=by kernel_rfl
theorem AmR(n m33:Nat)(data0:List D)(a1 mm2 b3:Int)(cmp4_c0 cmp4_c1:D)(mid18 nn19:Int)(start20 r21 p22:Int):Q4 n (m33+1) data0 a1 mm2 b3 (D.fn 156 [.ref 4,.ref 26] [cmp4_c0,cmp4_c1]) mid18 nn19 start20 r21 p22 =
 bK (start20<r21) (kK (0≤1) (kK (0≤Aom .i64 (p22-(Aom .i64 (Ap3 (Aom .u64 (Aom .i64 (start20+r21))) (2 ^ (min (Apa 1) (Apl .u64))))))) (kK (Aom .i64 (p22-(Aom .i64 (Ap3 (Aom .u64 (Aom .i64 (start20+r21))) (2 ^ (min (Apa 1) (Apl .u64))))))<(data0.length:Int)) (kK (0≤Aom .i64 (Ap3 (Aom .u64 (Aom .i64 (start20+r21))) (2 ^ (min (Apa 1) (Apl .u64))))) (kK (Aom .i64 (Ap3 (Aom .u64 (Aom .i64 (start20+r21))) (2 ^ (min (Apa 1) (Apl .u64))))<(data0.length:Int)) (.call (D.fn 156 [.ref 4,.ref 26] [cmp4_c0,cmp4_c1]).fnId (D.fn 156 [.ref 4,.ref 26] [cmp4_c0,cmp4_c1]).fnCts ([D.int ((data0.getD (Apa (Aom .i64 (p22-(Aom .i64 (Ap3 (Aom .u64 (Aom .i64 (start20+r21))) (2 ^ (min (Apa 1) (Apl .u64)))))))) D.nil).toInt),D.int ((data0.getD (Apa (Aom .i64 (Ap3 (Aom .u64 (Aom .i64 (start20+r21))) (2 ^ (min (Apa 1) (Apl .u64)))))) D.nil).toInt)]++(D.fn 156 [.ref 4,.ref 26] [cmp4_c0,cmp4_c1]).fnDs) fun Y3 =>
 .br (!(decide (((qA Y3).toInt)<0))) (Q4 n m33 data0 a1 mm2 b3 (D.fn 156 [.ref 4,.ref 26] [cmp4_c0,cmp4_c1]) mid18 nn19 (Aom .i64 ((Aom .i64 (Ap3 (Aom .u64 (Aom .i64 (start20+r21))) (2 ^ (min (Apa 1) (Apl .u64)))))+1)) r21 p22)
 (Q4 n m33 data0 a1 mm2 b3 (D.fn 156 [.ref 4,.ref 26] [cmp4_c0,cmp4_c1]) mid18 nn19 start20 (Aom .i64 (Ap3 (Aom .u64 (Aom .i64 (start20+r21))) (2 ^ (min (Apa 1) (Apl .u64))))) p22)))))))
 (bK (start20<mm2) (bK (mm2<(Aom .i64 (nn19-start20))) (cK 300 [D.sl data0,D.int start20,D.int mm2,D.int (Aom .i64 (nn19-start20)),(D.fn 156 [.ref 4,.ref 26] [cmp4_c0,cmp4_c1])] fun Y4 =>
 bK (a1<start20) (bK (start20<mid18) (cK 251 [D.sl ((qA Y4).els),D.int a1,D.int start20,D.int mid18,(D.fn 156 [.ref 4,.ref 26] [cmp4_c0,cmp4_c1])] fun Y5 =>
 bK (mid18<(Aom .i64 (nn19-start20))) (bK ((Aom .i64 (nn19-start20))<b3) (cK 251 [D.sl ((qA Y5).els),D.int mid18,D.int (Aom .i64 (nn19-start20)),D.int b3,(D.fn 156 [.ref 4,.ref 26] [cmp4_c0,cmp4_c1])] fun Y6 =>
 .ret [D.sl ((qA Y6).els)])
 (.ret [D.sl ((qA Y5).els)]))
 (.ret [D.sl ((qA Y5).els)]))
 (bK (mid18<(Aom .i64 (nn19-start20))) (bK ((Aom .i64 (nn19-start20))<b3) (cK 251 [D.sl ((qA Y4).els),D.int mid18,D.int (Aom .i64 (nn19-start20)),D.int b3,(D.fn 156 [.ref 4,.ref 26] [cmp4_c0,cmp4_c1])] fun Y7 =>
 .ret [D.sl ((qA Y7).els)])
 (.ret [D.sl ((qA Y4).els)]))
 (.ret [D.sl ((qA Y4).els)])))
 (bK (mid18<(Aom .i64 (nn19-start20))) (bK ((Aom .i64 (nn19-start20))<b3) (cK 251 [D.sl ((qA Y4).els),D.int mid18,D.int (Aom .i64 (nn19-start20)),D.int b3,(D.fn 156 [.ref 4,.ref 26] [cmp4_c0,cmp4_c1])] fun Y8 =>
 .ret [D.sl ((qA Y8).els)])
 (.ret [D.sl ((qA Y4).els)]))
 (.ret [D.sl ((qA Y4).els)])))
 (bK (a1<start20) (bK (start20<mid18) (cK 251 [D.sl data0,D.int a1,D.int start20,D.int mid18,(D.fn 156 [.ref 4,.ref 26] [cmp4_c0,cmp4_c1])] fun Y9 =>
 bK (mid18<(Aom .i64 (nn19-start20))) (bK ((Aom .i64 (nn19-start20))<b3) (cK 251 [D.sl ((qA Y9).els),D.int mid18,D.int (Aom .i64 (nn19-start20)),D.int b3,(D.fn 156 [.ref 4,.ref 26] [cmp4_c0,cmp4_c1])] fun Y10 =>
 .ret [D.sl ((qA Y10).els)])
 (.ret [D.sl ((qA Y9).els)]))
 (.ret [D.sl ((qA Y9).els)]))
 (bK (mid18<(Aom .i64 (nn19-start20))) (bK ((Aom .i64 (nn19-start20))<b3) (cK 251 [D.sl data0,D.int mid18,D.int (Aom .i64 (nn19-start20)),D.int b3,(D.fn 156 [.ref 4,.ref 26] [cmp4_c0,cmp4_c1])] fun Y11 =>
 .ret [D.sl ((qA Y11).els)])
 (.ret [D.sl data0]))
 (.ret [D.sl data0])))
 (bK (mid18<(Aom .i64 (nn19-start20))) (bK ((Aom .i64 (nn19-start20))<b3) (cK 251 [D.sl data0,D.int mid18,D.int (Aom .i64 (nn19-start20)),D.int b3,(D.fn 156 [.ref 4,.ref 26] [cmp4_c0,cmp4_c1])] fun Y12 =>
 .ret [D.sl ((qA Y12).els)])
 (.ret [D.sl data0]))
 (.ret [D.sl data0]))))
 (bK (a1<start20) (bK (start20<mid18) (cK 251 [D.sl data0,D.int a1,D.int start20,D.int mid18,(D.fn 156 [.ref 4,.ref 26] [cmp4_c0,cmp4_c1])] fun Y13 =>
 bK (mid18<(Aom .i64 (nn19-start20))) (bK ((Aom .i64 (nn19-start20))<b3) (cK 251 [D.sl ((qA Y13).els),D.int mid18,D.int (Aom .i64 (nn19-start20)),D.int b3,(D.fn 156 [.ref 4,.ref 26] [cmp4_c0,cmp4_c1])] fun Y14 =>
 .ret [D.sl ((qA Y14).els)])
 (.ret [D.sl ((qA Y13).els)]))
 (.ret [D.sl ((qA Y13).els)]))
 (bK (mid18<(Aom .i64 (nn19-start20))) (bK ((Aom .i64 (nn19-start20))<b3) (cK 251 [D.sl data0,D.int mid18,D.int (Aom .i64 (nn19-start20)),D.int b3,(D.fn 156 [.ref 4,.ref 26] [cmp4_c0,cmp4_c1])] fun Y15 =>
 .ret [D.sl ((qA Y15).els)])
 (.ret [D.sl data0]))
 (.ret [D.sl data0])))
 (bK (mid18<(Aom .i64 (nn19-start20))) (bK ((Aom .i64 (nn19-start20))<b3) (cK 251 [D.sl data0,D.int mid18,D.int (Aom .i64 (nn19-start20)),D.int b3,(D.fn 156 [.ref 4,.ref 26] [cmp4_c0,cmp4_c1])] fun Y16 =>
 .ret [D.sl ((qA Y16).els)])
 (.ret [D.sl data0]))
 (.ret [D.sl data0])))):=by kernel_rfl
theorem AmT(n:Nat)(data0 a1:D)(mm2 b3:D)(cmp4_c0 cmp4_c1:D):fA E7 n 251 [] [data0,a1,mm2,b3,(D.fn 156 [.ref 4,.ref 26] [cmp4_c0,cmp4_c1])] =
 .br ((Aom .i64 (mm2.toInt-a1.toInt))==1) (Uc n n data0.els a1.toInt (D.fn 156 [.ref 4,.ref 26] [cmp4_c0,cmp4_c1]) mm2.toInt b3.toInt)
 (.br ((Aom .i64 (b3.toInt-mm2.toInt))==1) (Ub n n data0.els mm2.toInt (D.fn 156 [.ref 4,.ref 26] [cmp4_c0,cmp4_c1]) a1.toInt mm2.toInt)
 (kK (0≤1) (bK ((Aom .i64 (Ap3 (Aom .u64 (Aom .i64 (a1.toInt+b3.toInt))) (2 ^ (min (Apa 1) (Apl .u64)))))<mm2.toInt) (Q4 n n data0.els a1.toInt mm2.toInt b3.toInt (D.fn 156 [.ref 4,.ref 26] [cmp4_c0,cmp4_c1]) (Aom .i64 (Ap3 (Aom .u64 (Aom .i64 (a1.toInt+b3.toInt))) (2 ^ (min (Apa 1) (Apl .u64))))) (Aom .i64 ((Aom .i64 (Ap3 (Aom .u64 (Aom .i64 (a1.toInt+b3.toInt))) (2 ^ (min (Apa 1) (Apl .u64)))))+mm2.toInt)) (Aom .i64 ((Aom .i64 ((Aom .i64 (Ap3 (Aom .u64 (Aom .i64 (a1.toInt+b3.toInt))) (2 ^ (min (Apa 1) (Apl .u64)))))+mm2.toInt))-b3.toInt)) (Aom .i64 (Ap3 (Aom .u64 (Aom .i64 (a1.toInt+b3.toInt))) (2 ^ (min (Apa 1) (Apl .u64))))) (Aom .i64 ((Aom .i64 ((Aom .i64 (Ap3 (Aom .u64 (Aom .i64 (a1.toInt+b3.toInt))) (2 ^ (min (Apa 1) (Apl .u64)))))+mm2.toInt))-1)))
 (Q4 n n data0.els a1.toInt mm2.toInt b3.toInt (D.fn 156 [.ref 4,.ref 26] [cmp4_c0,cmp4_c1]) (Aom .i64 (Ap3 (Aom .u64 (Aom .i64 (a1.toInt+b3.toInt))) (2 ^ (min (Apa 1) (Apl .u64))))) (Aom .i64 ((Aom .i64 (Ap3 (Aom .u64 (Aom .i64 (a1.toInt+b3.toInt))) (2 ^ (min (Apa 1) (Apl .u64)))))+mm2.toInt)) a1.toInt mm2.toInt (Aom .i64 ((Aom .i64 ((Aom .i64 (Ap3 (Aom .u64 (Aom .i64 (a1.toInt+b3.toInt))) (2 ^ (min (Apa 1) (Apl .u64)))))+mm2.toInt))-1)))))):=by kernel_rfl
def BZ:List (Nat×Orc):=[(2,⟨[(0,some 23),(1,some 23),(9,some 23),(10,none),(11,none)],[],[]⟩)]
noncomputable def BY(n m2:Nat)(s10 s21 t9:D)(t10 t11:Int):Tree :=
 lA (eA BZ n 256 [1,0,1,0,0]) (An BZ 2) m2 ⟨(.d 23 s10:: .d 23 s21::uA 7++(.d 23 t9:: .i .i64 t10:: .i .i64 t11::uA 24)),[],[],[],[]⟩
  (Ak 0 (Aq (jA BZ n 256 [1,1]) (rA 256 [23,23] [.tmp 4] [3])))
theorem Abz(n m2:Nat)(s10 s21 t9:D)(t10 t11:Int):BY n (m2+1) s10 s21 t9 t10 t11 =
 bK (t11<t10) (kK (0≤t11) (kK (t11<(t9.els.length:Int)) (bK ((s21.els.length:Int)≤t11) (.ret [D.int 1])
 (kK (0≤t11) (kK (t11<(s21.els.length:Int)) (cK 218 [D.int ((t9.els.getD (Apa t11) D.nil).toInt),D.int ((s21.els.getD (Apa t11) D.nil).toInt)] fun Y1 =>
 .br (((qA Y1).toInt)!=0) (.ret [D.int ((qA Y1).toInt)])
 (BY n m2 s10 s21 t9 t10 (Aom .i64 (t11+1)))))))))
 (bK ((s10.els.length:Int)<(s21.els.length:Int)) (.ret [D.int (-1)])
 (.ret [D.int 0])):=by kernel_rfl
theorem Am0(n:Nat)(s10 s21:D):fA BZ n 256 [] [s10,s21] =
 BY n n s10 s21 s10 (s10.els.length:Int) 0:=by kernel_rfl
def CD:List (Nat×Orc):=[(4,⟨[(1,some 24),(2,some 77),(15,some 24),(16,none),(17,none)],[],[]⟩)]
noncomputable def CC(n m4:Nat)(s21 eq2 t15:D)(t16 t17:Int):Tree :=
 lA (eA CD n 272 [1,1,0,1,0,0]) (An CD 4) m4 ⟨(.undef:: .d 24 s21:: .d 77 eq2::uA 12++(.d 24 t15:: .i .i64 t16:: .i .i64 t17::uA 14)),[],[],[],[]⟩
  (Ak 0 (Aq (jA CD n 272 [1,1,1]) (rA 272 [24,24,77] [.tmp 6] [4])))
theorem Ab1(n m4:Nat)(s21 eq2_c0 t15:D)(t16 t17:Int):CC n (m4+1) s21 (D.fn 273 [.ref 4] [eq2_c0]) t15 t16 t17 =
 bK (t17<t16) (kK (0≤t17) (kK (t17<(t15.els.length:Int)) (kK (0≤t17) (kK (t17<(s21.els.length:Int)) (.call (D.fn 273 [.ref 4] [eq2_c0]).fnId (D.fn 273 [.ref 4] [eq2_c0]).fnCts ([t15.els.getD (Apa t17) D.nil,s21.els.getD (Apa t17) D.nil]++(D.fn 273 [.ref 4] [eq2_c0]).fnDs) fun Y1 =>
 .br (!((qA Y1).toBool)) (.ret [D.bool false])
 (CC n m4 s21 (D.fn 273 [.ref 4] [eq2_c0]) t15 t16 (Aom .i64 (t17+1))))))))
 (.ret [D.bool true]):=by kernel_rfl
theorem Am7(n:Nat)(s10 s21 eq2_c0:D):fA CD n 272 [] [s10,s21,(D.fn 273 [.ref 4] [eq2_c0])] =
 .br ((s10.els.length:Int)!=(s21.els.length:Int)) (.ret [D.bool false])
 (CC n n s21 (D.fn 273 [.ref 4] [eq2_c0]) s10 (s10.els.length:Int) 0):=by kernel_rfl
def CB:List (Nat×Orc):=[(4,⟨[(1,some 65),(2,some 44),(15,some 65),(16,none),(17,none)],[],[]⟩)]
noncomputable def CA(n m4:Nat)(s21 eq2 t15:D)(t16 t17:Int):Tree :=
 lA (eA CB n 275 [1,1,0,1,0,0]) (An CB 4) m4 ⟨(.undef:: .d 65 s21:: .d 44 eq2::uA 12++(.d 65 t15:: .i .i64 t16:: .i .i64 t17::uA 14)),[],[],[],[]⟩
  (Ak 0 (Aq (jA CB n 275 [1,1,1]) (rA 275 [65,65,44] [.tmp 6] [4])))
theorem Ab0(n m4:Nat)(s21 eq2_c0 t15:D)(t16 t17:Int):CA n (m4+1) s21 (D.fn 276 [.ref 4] [eq2_c0]) t15 t16 t17 =
 bK (t17<t16) (kK (0≤t17) (kK (t17<(t15.els.length:Int)) (kK (0≤t17) (kK (t17<(s21.els.length:Int)) (.call (D.fn 276 [.ref 4] [eq2_c0]).fnId (D.fn 276 [.ref 4] [eq2_c0]).fnCts ([t15.els.getD (Apa t17) D.nil,s21.els.getD (Apa t17) D.nil]++(D.fn 276 [.ref 4] [eq2_c0]).fnDs) fun Y1 =>
 .br (!((qA Y1).toBool)) (.ret [D.bool false])
 (CA n m4 s21 (D.fn 276 [.ref 4] [eq2_c0]) t15 t16 (Aom .i64 (t17+1))))))))
 (.ret [D.bool true]):=by kernel_rfl
theorem Am6(n:Nat)(s10 s21 eq2_c0:D):fA CB n 275 [] [s10,s21,(D.fn 276 [.ref 4] [eq2_c0])] =
 .br ((s10.els.length:Int)!=(s21.els.length:Int)) (.ret [D.bool false])
 (CA n n s21 (D.fn 276 [.ref 4] [eq2_c0]) s10 (s10.els.length:Int) 0):=by kernel_rfl
def CM:List (Nat×Orc):=[(2,⟨[(0,none),(2,none),(4,some 107),(10,none),(11,none)],[],[(.slot 0,0,3)]⟩)]
noncomputable def Ua(n m2:Nat)(data0:List D)(mm2:Int)(cmp4:D)(i10 j11:Int):Tree :=
 lA (eA CM n 300 [1,1,0,0,0]) (An CM 2) m2 ⟨(.row 0:: .undef:: .i .i64 mm2:: .undef:: .d 107 cmp4::uA 5++(.i .i64 i10:: .i .i64 j11::uA 46)),[(0,.row 3 data0 true)],[0],[],[0]⟩
  (Ak 0 (Aq (jA CM n 300 [1,1,1]) (rA 300 [23,3,3,3,107] [] [])))
theorem AmJ(n m2:Nat)(data0:List D)(mm2:Int)(cmp4_c0 cmp4_c1:D)(i10 j11:Int):Ua n (m2+1) data0 mm2 (D.fn 156 [.ref 4,.ref 26] [cmp4_c0,cmp4_c1]) i10 j11 =
 .br (i10 != j11) (bK (j11<i10) (cK 322 [D.sl data0,D.int (Aom .i64 (mm2-i10)),D.int mm2,D.int j11,(D.fn 156 [.ref 4,.ref 26] [cmp4_c0,cmp4_c1])] fun Y1 =>
 Ua n m2 ((qA Y1).els) mm2 (D.fn 156 [.ref 4,.ref 26] [cmp4_c0,cmp4_c1]) (Aom .i64 (i10-j11)) j11)
 (cK 322 [D.sl data0,D.int (Aom .i64 (mm2-i10)),D.int (Aom .i64 ((Aom .i64 (mm2+j11))-i10)),D.int i10,(D.fn 156 [.ref 4,.ref 26] [cmp4_c0,cmp4_c1])] fun Y2 =>
 Ua n m2 ((qA Y2).els) mm2 (D.fn 156 [.ref 4,.ref 26] [cmp4_c0,cmp4_c1]) i10 (Aom .i64 (j11-i10))))
 (cK 322 [D.sl data0,D.int (Aom .i64 (mm2-i10)),D.int mm2,D.int i10,(D.fn 156 [.ref 4,.ref 26] [cmp4_c0,cmp4_c1])] fun Y3 =>
 .ret [D.sl ((qA Y3).els)]):=by kernel_rfl
theorem AmK(n:Nat)(data0 a1:D)(mm2 b3:D)(cmp4_c0 cmp4_c1:D):fA CM n 300 [] [data0,a1,mm2,b3,(D.fn 156 [.ref 4,.ref 26] [cmp4_c0,cmp4_c1])] =
 Ua n n data0.els mm2.toInt (D.fn 156 [.ref 4,.ref 26] [cmp4_c0,cmp4_c1]) (Aom .i64 (mm2.toInt-a1.toInt)) (Aom .i64 (b3.toInt-mm2.toInt)):=by kernel_rfl
def CH:List (Nat×Orc):=[(4,⟨[(0,some 62),(1,some 62),(12,none),(13,none)],[],[]⟩)]
noncomputable def CG(n m4:Nat)(s10 s21:D)(t12 t13:Int):Tree :=
 lA (eA CH n 312 [1,1,0,1,0,0]) (An CH 4) m4 ⟨(.d 62 s10:: .d 62 s21::uA 10++(.i .i64 t12:: .i .i64 t13::uA 12)),[],[],[],[]⟩
  (Ak 0 (Aq (jA CH n 312 [1,1,1]) (rA 312 [62,62] [.tmp 4] [4])))
theorem Am_(n m4:Nat)(s10 s21:D)(t12 t13:Int):CG n (m4+1) s10 s21 t12 t13 =
 bK (t13<t12) (kK (0≤t13) (kK (t13<(s10.els.length:Int)) (kK (0≤t13) (kK (t13<(s21.els.length:Int)) (.br (((s10.els.getD (Apa t13) D.nil).toInt)!=((s21.els.getD (Apa t13) D.nil).toInt)) (.ret [D.bool false])
 (CG n m4 s10 s21 t12 (Aom .i64 (t13+1))))))))
 (.ret [D.bool true]):=by kernel_rfl
theorem AmA(n:Nat)(s10 s21:D):fA CH n 312 [] [s10,s21] =
 .br ((s10.els.length:Int)!=(s21.els.length:Int)) (.ret [D.bool false])
 (CG n n s10 s21 (s10.els.length:Int) 0):=by kernel_rfl
def MC:List (Nat×Orc):=[(1,⟨[(0,none),(1,none),(2,none),(3,none),(10,none)],[],[(.slot 0,0,3)]⟩)]
noncomputable def CQ(n m1:Nat)(data0:List D)(a1 b2:Int)(nn3 i10:Int):Tree :=
 lA (eA MC n 322 [1,0,0]) (An MC 1) m1 ⟨(.row 0:: .i .i64 a1:: .i .i64 b2:: .i .i64 nn3::uA 6++(.i .i64 i10::uA 27)),[(0,.row 3 data0 true)],[0],[],[0]⟩
  (Ak 0 (rA 322 [23,3,3,3,107] [] []))
theorem Ab_(n m1:Nat)(data0:List D)(a1 b2:Int)(nn3 i10:Int):CQ n (m1+1) data0 a1 b2 nn3 i10 =
 bK (i10<nn3) (kK (0≤Aom .i64 (b2+i10)) (kK (Aom .i64 (b2+i10)<(data0.length:Int)) (kK (0≤Aom .i64 (a1+i10)) (kK (Aom .i64 (a1+i10)<(data0.length:Int)) (kK (0≤Aom .i64 (a1+i10)) (kK (Aom .i64 (a1+i10)<(data0.length:Int)) (kK (0≤Aom .i64 (b2+i10)) (kK (Aom .i64 (b2+i10)<((data0.set (Apa (Aom .i64 (a1+i10))) (D.int ((data0.getD (Apa (Aom .i64 (b2+i10))) D.nil).toInt))).length:Int)) (CQ n m1 ((data0.set (Apa (Aom .i64 (a1+i10))) (D.int ((data0.getD (Apa (Aom .i64 (b2+i10))) D.nil).toInt))).set (Apa (Aom .i64 (b2+i10))) (D.int ((data0.getD (Apa (Aom .i64 (a1+i10))) D.nil).toInt))) a1 b2 nn3 (Aom .i64 (i10+1)))))))))))
 (.ret [D.sl data0]):=by kernel_rfl
theorem AmP(n:Nat)(data0 a1:D)(b2 nn3:D)(cmp4_c0 cmp4_c1:D):fA MC n 322 [] [data0,a1,b2,nn3,(D.fn 156 [.ref 4,.ref 26] [cmp4_c0,cmp4_c1])] =
 CQ n n data0.els a1.toInt b2.toInt nn3.toInt 0:=by kernel_rfl
def AF:List (Nat×Orc):=[(6,⟨[(4,none),(5,none),(6,none)],[(4,true)],[]⟩)]
noncomputable def Tk(n m6:Nat)(nn5 i6:Int)(x4:D):Tree :=
 lA (eA AF n 163 [1,1,1,1,0,1,0,0]) (An AF 6) m6 ⟨(uA 4++(.ptr 4 []:: .i .i64 nn5:: .i .i64 i6::uA 47)),[(4,.var 139 (.d 139 x4) true)],[4],[],[]⟩
  (Ak 0 (Aq (jA AF n 163 [1,1,1,1,1]) (rA 163 [139] [.tmp 2,.tmp 3] [3,4])))
theorem ZM(n m6:Nat)(nn5 i6:Int)(x4:D):Tk n (m6+1) nn5 i6 x4 =
 bK (0≤i6) (.br ((x4.fld 0).toBool) (kK (0≤i6) (kK (i6<(((x4.fld 1).els).length:Int)) (Tk n m6 (Aom .i64 ((Aom .i64 (nn5*4294967296))-(Aom .i64 ((((x4.fld 1).els).getD (Apa i6) D.nil).toInt)))) (Aom .i64 (i6-1)) x4)))
 (kK (0≤i6) (kK (i6<(((x4.fld 1).els).length:Int)) (Tk n m6 (Aom .i64 ((Aom .i64 (nn5*4294967296))+(Aom .i64 ((((x4.fld 1).els).getD (Apa i6) D.nil).toInt)))) (Aom .i64 (i6-1)) x4))))
 (.ret [D.int nn5,D.bool true]):=by kernel_rfl
theorem Ak2(n:Nat)(a0:D):fA AF n 163 [] [a0] =
 cK 223 [a0] fun Y1 =>
 bK (2<((((qA Y1).fld 1).els).length:Int)) (.ret [D.int 0,D.bool false])
 (cK 225 [D.int 9223372036854775807] fun Y2 =>
 cK 224 [qA Y1,qA Y2] fun Y3 =>
 bK (0<((qA Y3).toInt)) (.ret [D.int 0,D.bool false])
 (cK 225 [D.int (-9223372036854775808)] fun Y4 =>
 cK 224 [qA Y1,qA Y4] fun Y5 =>
 bK (((qA Y5).toInt)<0) (.ret [D.int 0,D.bool false])
 (Tk n n 0 (Aom .i64 (((((qA Y1).fld 1).els).length:Int)-1)) (qA Y1)))):=by kernel_rfl
theorem Akx(n:Nat)(a0:D):fA [] n 223 [] [a0] =
 cK 265 [a0.fld 1] fun Y1 =>
 .br ((((qA Y1).els).length:Int)==0) (.ret [D.agg [D.bool false,D.sl []]])
 (.ret [D.agg [D.bool ((a0.fld 0).toBool),qA Y1]]):=by kernel_rfl
theorem Aku(n:Nat)(a0 b1:D):fA [] n 224 [] [a0,b1] =
 cK 267 [a0,b1] fun Y1 =>
 cK 266 [qA Y1] fun Y2 =>
 .ret [D.int ((qA Y2).toInt)]:=by kernel_rfl
theorem Aky(n:Nat)(nn0:D):fA [] n 225 [] [nn0] =
 bK (0≤nn0.toInt) (.br (!(4294967296 == (0:Int))) (.br (!(4294967296 == (0:Int))) (cK 223 [D.agg [D.bool false,D.sl [D.int (Aom .u32 (Int.tmod nn0.toInt 4294967296)),D.int (Aom .u32 (Aom .i64 (Int.tdiv nn0.toInt 4294967296)))]]] fun Y1 =>
 .ret [qA Y1]) .fail) .fail)
 (.br (!(4294967296 == (0:Int))) (.br (!(4294967296 == (0:Int))) (cK 268 [D.sl [D.int (Aom .u32 (Int.tmod (Aom .i64 ((-1)-nn0.toInt)) 4294967296)),D.int (Aom .u32 (Aom .i64 (Int.tdiv (Aom .i64 ((-1)-nn0.toInt)) 4294967296)))],D.sl [D.int 1]] fun Y2 =>
 cK 223 [D.agg [D.bool true,qA Y2]] fun Y3 =>
 .ret [qA Y3]) .fail) .fail):=by kernel_rfl
def DR:List (Nat×Orc):=[(6,⟨[(1,none),(4,none),(14,some 62),(15,none),(16,none)],[(1,true)],[]⟩)]
noncomputable def Ra(n m6:Nat)(size4:Int)(t14:D)(t15 t16:Int)(a1:D):Tree :=
 lA (eA DR n 228 [1,1,1,1,0,1,0,0]) (An DR 6) m6 ⟨(.undef:: .ptr 1 []:: .undef:: .undef:: .i .u64 size4::uA 9++(.d 62 t14:: .i .i64 t15:: .i .i64 t16::uA 24)),[(1,.var 187 (.d 187 a1) true)],[1],[],[]⟩
  (Ak 0 (Aq (jA DR n 228 [1,1,1,1,1]) (rA 228 [187] [.tmp 2,.tmp 3] [3,4])))
theorem Ac5(n m6:Nat)(size4:Int)(t14:D)(t15 t16:Int)(a1:D):Ra n (m6+1) size4 t14 t15 t16 a1 =
 bK (t16<t15) (kK (0≤t16) (kK (t16<(t14.els.length:Int)) (kK (0≤Aom .u64 (Aom .i64 (32*t16))) (Ra n m6 (Br .or .u64 size4 (Aom .u64 ((Aom .u64 ((t14.els.getD (Apa t16) D.nil).toInt))*2 ^ (min (Apa (Aom .u64 (Aom .i64 (32*t16)))) (Apl .u64))))) t14 t15 (Aom .i64 (t16+1)) a1))))
 (.br ((a1.fld 0).toBool) (bK (9223372036854775808<size4) (.ret [D.int 0,D.bool false])
 (.ret [D.int (Aom .i64 (Aom .u64 (0-size4))),D.bool true]))
 (bK (9223372036854775807<size4) (.ret [D.int 0,D.bool false])
 (.ret [D.int (Aom .i64 size4),D.bool true]))):=by kernel_rfl
theorem Ao0(n:Nat)(a0:D):fA DR n 228 [] [a0] =
 cK 269 [a0] fun Y1 =>
 bK (2<((((qA Y1).fld 1).els).length:Int)) (.ret [D.int 0,D.bool false])
 (Ra n n 0 ((qA Y1).fld 1) ((((qA Y1).fld 1).els).length:Int) 0 (qA Y1)):=by kernel_rfl
theorem Aow(n:Nat)(nn0:D):fA [] n 246 [] [nn0] =
 bK (nn0.toInt<0) (kK (0≤32) (cK 299 [D.sl [D.int (Aom .u32 (Aom .u64 (0-(Aom .u64 nn0.toInt)))),D.int (Aom .u32 (Ap3 (Aom .u64 (0-(Aom .u64 nn0.toInt))) (2 ^ (min (Apa 32) (Apl .u64)))))]] fun Y1 =>
 cK 298 [D.bool (decide (nn0.toInt<0)),D.sl ((qA Y1).els)] fun Y2 =>
 .ret [qA Y2]))
 (kK (0≤32) (cK 299 [D.sl [D.int (Aom .u32 (Aom .u64 nn0.toInt)),D.int (Aom .u32 (Ap3 (Aom .u64 nn0.toInt) (2 ^ (min (Apa 32) (Apl .u64)))))]] fun Y3 =>
 cK 298 [D.bool (decide (nn0.toInt<0)),D.sl ((qA Y3).els)] fun Y4 =>
 .ret [qA Y4])):=by kernel_rfl
theorem Aor(n:Nat)(a0 b1:D):fA [] n 253 [] [a0,b1] =
 cK 301 [a0] fun Y1 =>
 cK 301 [b1] fun Y2 =>
 bK (((qA Y1).toInt)<((qA Y2).toInt)) (.ret [D.int (-1)])
 (bK (((qA Y2).toInt)<((qA Y1).toInt)) (.ret [D.int 1])
 (bK (((qA Y1).toInt)<0) (cK 302 [b1.fld 1,a0.fld 1] fun Y3 =>
 .ret [D.int ((qA Y3).toInt)])
 (cK 302 [a0.fld 1,b1.fld 1] fun Y4 =>
 .ret [D.int ((qA Y4).toInt)]))):=by kernel_rfl
theorem Aou(n:Nat)(a0 b1:D):fA [] n 254 [] [a0,b1] =
 cK 303 [a0.fld 1,b1.fld 1] fun Y1 =>
 cK 298 [D.bool (!(((a0.fld 0).toBool)==((b1.fld 0).toBool))),qA Y1] fun Y2 =>
 .ret [qA Y2]:=by kernel_rfl
theorem Ak0(n:Nat)(a0:D):fA [] n 266 [] [a0] =
 cK 223 [a0] fun Y1 =>
 .br (((((qA Y1).fld 1).els).length:Int)==0) (.ret [D.int 0])
 (.br (((qA Y1).fld 0).toBool) (.ret [D.int (-1)])
 (.ret [D.int 1])):=by kernel_rfl
theorem Ak4(n:Nat)(a0 b1:D):fA [] n 267 [] [a0,b1] =
 cK 309 [b1] fun Y1 =>
 cK 308 [a0,qA Y1] fun Y2 =>
 .ret [qA Y2]:=by kernel_rfl
theorem Aov(n:Nat)(a0:D):fA [] n 269 [] [a0] =
 cK 299 [a0.fld 1] fun Y1 =>
 cK 298 [D.bool ((a0.fld 0).toBool),D.sl ((qA Y1).els)] fun Y2 =>
 .ret [qA Y2]:=by kernel_rfl
theorem Ao3(n:Nat)(neg0 mag1:D):fA [] n 298 [] [neg0,mag1] =
 .br ((mag1.els.length:Int)==0) (.ret [D.agg [D.bool false,D.sl []]])
 (.ret [D.agg [D.bool neg0.toBool,mag1]]):=by kernel_rfl
theorem Aoy(n:Nat)(a0:D):fA [] n 301 [] [a0] =
 cK 302 [a0.fld 1,D.sl []] fun Y1 =>
 .br (((qA Y1).toInt)==0) (.ret [D.int 0])
 (.br ((a0.fld 0).toBool) (.ret [D.int (-1)])
 (.ret [D.int 1])):=by kernel_rfl
theorem Aot(n:Nat)(a0 b1:D):fA [] n 306 [] [a0,b1] =
 cK 323 [a0.fld 1,b1.fld 1] fun Y1 =>
 .br (!((qC Y1).toBool)) (.ret [D.agg [D.bool false,D.sl []],D.agg [D.bool false,D.sl []],D.bool false])
 (cK 298 [D.bool (!(((a0.fld 0).toBool)==((b1.fld 0).toBool))),qA Y1] fun Y2 =>
 cK 298 [D.bool ((a0.fld 0).toBool),qB Y1] fun Y3 =>
 .br (!(((a0.fld 0).toBool)==((b1.fld 0).toBool))) (bK (0<(((qB Y1).els).length:Int)) (cK 246 [D.int 1] fun Y4 =>
 cK 324 [qA Y2,qA Y4] fun Y5 =>
 cK 313 [qA Y3,b1] fun Y6 =>
 .ret [qA Y5,qA Y6,D.bool true])
 (.ret [qA Y2,qA Y3,D.bool true]))
 (.ret [qA Y2,qA Y3,D.bool true])):=by kernel_rfl
theorem Akt(n:Nat)(a0 b1:D):fA [] n 308 [] [a0,b1] =
 cK 223 [a0] fun Y1 =>
 cK 223 [b1] fun Y2 =>
 .br ((((qA Y1).fld 0).toBool)==(((qA Y2).fld 0).toBool)) (cK 268 [(qA Y1).fld 1,(qA Y2).fld 1] fun Y3 =>
 cK 223 [D.agg [D.bool (((qA Y1).fld 0).toBool),qA Y3]] fun Y4 =>
 .ret [qA Y4])
 (cK 320 [(qA Y1).fld 1,(qA Y2).fld 1] fun Y5 =>
 bK (0≤((qA Y5).toInt)) (cK 297 [(qA Y1).fld 1,(qA Y2).fld 1] fun Y6 =>
 cK 223 [D.agg [D.bool (((qA Y1).fld 0).toBool),qA Y6]] fun Y7 =>
 .ret [qA Y7])
 (cK 297 [(qA Y2).fld 1,(qA Y1).fld 1] fun Y8 =>
 cK 223 [D.agg [D.bool (((qA Y2).fld 0).toBool),qA Y8]] fun Y9 =>
 .ret [qA Y9])):=by kernel_rfl
theorem Akw(n:Nat)(a0:D):fA [] n 309 [] [a0] =
 cK 223 [D.agg [D.bool (!((a0.fld 0).toBool)),a0.fld 1]] fun Y1 =>
 .ret [qA Y1]:=by kernel_rfl
theorem Aoq(n:Nat)(a0 b1:D):fA [] n 313 [] [a0,b1] =
 .br (((a0.fld 0).toBool)==((b1.fld 0).toBool)) (cK 325 [a0.fld 1,b1.fld 1] fun Y1 =>
 cK 298 [D.bool ((a0.fld 0).toBool),qA Y1] fun Y2 =>
 .ret [qA Y2])
 (cK 326 [a0.fld 1,b1.fld 1] fun Y3 =>
 .br ((qB Y3).toBool) (cK 298 [D.bool ((a0.fld 0).toBool),qA Y3] fun Y4 =>
 .ret [qA Y4])
 (cK 326 [b1.fld 1,a0.fld 1] fun Y5 =>
 cK 298 [D.bool ((b1.fld 0).toBool),qA Y5] fun Y6 =>
 .ret [qA Y6])):=by kernel_rfl
def DO:List (Nat×Orc):=[(4,⟨[(1,none),(4,none),(6,none),(7,none)],[(4,false),(6,true),(7,true)],[]⟩)]
noncomputable def Ov(n m4:Nat)(nn1:Int)(t4_0:Bool)(out6 factor7:D):Tree :=
 lA (eA DO n 314 [1,1,1,0,0,0]) (An DO 4) m4 ⟨(.undef:: .i .i64 nn1:: .undef:: .undef:: .ptr 4 []:: .undef:: .ptr 6 []:: .ptr 7 []::uA 32),[(4,.var 187 (.agg 187 [.b t4_0,.mt]) true),(6,.var 187 (.d 187 out6) true),(7,.var 187 (.d 187 factor7) true)],[4,6,7],[],[]⟩
  (Ak 0 (Aq (jA DO n 314 [1,1,1,1]) (rA 314 [187,3] [.cell 4 187,.tmp 5] [187,29])))
theorem Ac4(n m4:Nat)(nn1:Int)(t4_0:Bool)(out6 factor7:D):Ov n (m4+1) nn1 t4_0 out6 factor7 =
 bK (0<nn1) (bK (32<(((factor7.fld 1).els).length:Int)) (.ret [D.agg [D.bool false,D.sl []],D.int 7])
 (.br ((Br .and .i64 nn1 1)==1) (cK 254 [out6,factor7] fun Y3 =>
 bK (32<((((qA Y3).fld 1).els).length:Int)) (.ret [D.agg [D.bool false,D.sl []],D.int 7])
 (kK (0≤1) (bK (0<(Ap3 nn1 (2 ^ (min (Apa 1) (Apl .i64))))) (cK 254 [factor7,factor7] fun Y4 =>
 Ov n m4 (Ap3 nn1 (2 ^ (min (Apa 1) (Apl .i64)))) t4_0 (qA Y3) (qA Y4))
 (Ov n m4 (Ap3 nn1 (2 ^ (min (Apa 1) (Apl .i64)))) t4_0 (qA Y3) factor7))))
 (bK (32<(((out6.fld 1).els).length:Int)) (.ret [D.agg [D.bool false,D.sl []],D.int 7])
 (kK (0≤1) (bK (0<(Ap3 nn1 (2 ^ (min (Apa 1) (Apl .i64))))) (cK 254 [factor7,factor7] fun Y5 =>
 Ov n m4 (Ap3 nn1 (2 ^ (min (Apa 1) (Apl .i64)))) t4_0 out6 (qA Y5))
 (Ov n m4 (Ap3 nn1 (2 ^ (min (Apa 1) (Apl .i64)))) t4_0 out6 factor7))))))
 (.ret [out6,D.int 0]):=by kernel_rfl
theorem Aox(n:Nat)(a0 nn1:D):fA DO n 314 [] [a0,nn1] =
 bK (nn1.toInt<0) (.ret [D.agg [D.bool false,D.sl []],D.int 3])
 (cK 246 [D.int 1] fun Y1 =>
 cK 269 [a0] fun Y2 =>
 Ov n n nn1.toInt false (qA Y1) (qA Y2)):=by kernel_rfl
theorem Ao2(n:Nat)(a0 b1:D):fA [] n 324 [] [a0,b1] =
 cK 313 [a0,D.agg [D.bool (!((b1.fld 0).toBool)),b1.fld 1]] fun Y1 =>
 .ret [qA Y1]:=by kernel_rfl
def AA:List (Nat×Orc):=[(4,⟨[(0,some 62),(1,some 62),(5,none)],[],[]⟩)]
noncomputable def Z_(n m4:Nat)(a0 b1:D)(i5:Int):Tree :=
 lA (eA AA n 211 [1,1,0,1,0,0]) (An AA 4) m4 ⟨(.d 62 a0:: .d 62 b1::uA 3++(.i .i64 i5::uA 20)),[],[],[],[]⟩
  (Ak 0 (Aq (jA AA n 211 [1,1,1]) (rA 211 [62,62] [.tmp 4] [4])))
theorem Akm(n m4:Nat)(a0 b1:D)(i5:Int):Z_ n (m4+1) a0 b1 i5 =
 bK (i5<(a0.els.length:Int)) (kK (0≤i5) (kK (i5<(a0.els.length:Int)) (kK (0≤i5) (kK (i5<(b1.els.length:Int)) (.br (((a0.els.getD (Apa i5) D.nil).toInt)!=((b1.els.getD (Apa i5) D.nil).toInt)) (.ret [D.bool false])
 (Z_ n m4 a0 b1 (Aom .i64 (i5+1))))))))
 (.ret [D.bool true]):=by kernel_rfl
theorem Akn(n:Nat)(a0 b1:D):fA AA n 211 [] [a0,b1] =
 .br ((a0.els.length:Int)!=(b1.els.length:Int)) (.ret [D.bool false])
 (Z_ n n a0 b1 0):=by kernel_rfl
theorem AdC(n:Nat)(x0 y1:D):fA [] n 231 [] [x0,y1] =
 cK 271 [D.int x0.toInt,D.int y1.toInt] fun Y1 =>
 .ret [D.int ((qA Y1).toInt),D.int ((qB Y1).toInt)]:=by kernel_rfl
def Z7:List (Nat×Orc):=[(3,⟨[(5,some 62),(6,some 62),(7,none)],[],[]⟩)]
noncomputable def Oe(n m3:Nat)(x5 y6:D)(k7:Int):Tree :=
 lA (eA Z7 n 243 [1,1,0,1,0,0]) (An Z7 3) m3 ⟨(uA 5++(.d 62 x5:: .d 62 y6:: .i .i64 k7::uA 26)),[],[],[],[]⟩
  (Ak 0 (Aq (jA Z7 n 243 [1,1,1]) (rA 243 [62,62] [.tmp 4] [62])))
theorem KT(n m3:Nat)(x5 y6:D)(k7:Int):Oe n (m3+1) x5 y6 k7 =
 bK (k7<100000) (bK (0<(y6.els.length:Int)) (cK 244 [x5,y6] fun Y3 =>
 Oe n m3 y6 (qB Y3) (Aom .i64 (k7+1)))
 (.ret [x5]))
 (.ret [x5]):=by kernel_rfl
theorem Akk(n:Nat)(a0 b1:D):fA Z7 n 243 [] [a0,b1] =
 cK 265 [a0] fun Y1 =>
 cK 265 [b1] fun Y2 =>
 Oe n n (qA Y1) (qA Y2) 0:=by kernel_rfl
def Z6:List (Nat×Orc):=[(5,⟨[(0,some 62),(1,some 62),(7,some 62),(8,some 62),(9,none)],[],[]⟩)]
noncomputable def Ti(n m5:Nat)(a0 b1:D)(q7 r8:D)(i9:Int):Tree :=
 lA (eA Z6 n 244 [1,1,1,0,1,0,0]) (An Z6 5) m5 ⟨(.d 62 a0:: .d 62 b1::uA 5++(.d 62 q7:: .d 62 r8:: .i .i64 i9::uA 33)),[],[],[],[]⟩
  (Ak 0 (Aq (jA Z6 n 244 [1,1,1,1]) (rA 244 [62,62] [.tmp 4,.tmp 5,.tmp 6] [62,62,4])))
theorem ZG(n m5:Nat)(a0 b1:D)(q7 r8:D)(i9:Int):Ti n (m5+1) a0 b1 q7 r8 i9 =
 bK (0≤i9) (cK 296 [a0,D.int i9] fun Y2 =>
 cK 295 [r8,D.int ((qA Y2).toInt)] fun Y3 =>
 cK 297 [qA Y3,b1] fun Y4 =>
 .br ((qB Y4).toBool) (cK 295 [q7,D.int 1] fun Y5 =>
 Ti n m5 a0 b1 (qA Y5) (qA Y4) (Aom .i64 (i9-1)))
 (cK 295 [q7,D.int 0] fun Y6 =>
 Ti n m5 a0 b1 (qA Y6) (qA Y3) (Aom .i64 (i9-1))))
 (.ret [q7,r8,D.bool true]):=by kernel_rfl
theorem Aki(n:Nat)(a0 b1:D):fA Z6 n 244 [] [a0,b1] =
 cK 265 [b1] fun Y1 =>
 .br ((((qA Y1).els).length:Int)==0) (.ret [D.sl [],D.sl [],D.bool false])
 (Ti n n a0 b1 (D.sl []) (D.sl []) (Aom .i64 ((Aom .i64 (32*(a0.els.length:Int)))-1))):=by kernel_rfl
def Z9:List (Nat×Orc):=[(2,⟨[(0,some 62),(3,none)],[],[]⟩)]
noncomputable def Z8(n m2:Nat)(a0:D)(nn3:Int):Tree :=
 lA (eA Z9 n 265 [1,1,0,0,0]) (An Z9 2) m2 ⟨(.d 62 a0:: .undef:: .undef:: .i .i64 nn3::uA 20),[],[],[],[]⟩
  (Ak 0 (Aq (jA Z9 n 265 [1,1,1]) (rA 265 [62] [.tmp 2] [62])))
theorem ZH(n m2:Nat)(a0:D)(nn3:Int):Z8 n (m2+1) a0 nn3 =
 bK (0<nn3) (kK (0≤Aom .i64 (nn3-1)) (kK (Aom .i64 (nn3-1)<(a0.els.length:Int)) (.br (((a0.els.getD (Apa (Aom .i64 (nn3-1))) D.nil).toInt)==0) (Z8 n m2 a0 (Aom .i64 (nn3-1)))
 (kK (0≤nn3) (kK (nn3≤(a0.els.length:Int)) (kK ((a0.els.take (Apa nn3)).length≤Am) (.ret [D.sl (a0.els.take (Apa nn3))])))))))
 (kK (0≤nn3) (kK (nn3≤(a0.els.length:Int)) (kK ((a0.els.take (Apa nn3)).length≤Am) (.ret [D.sl (a0.els.take (Apa nn3))])))):=by kernel_rfl
theorem Akl(n:Nat)(a0:D):fA Z9 n 265 [] [a0] =
 Z8 n n a0 (a0.els.length:Int):=by kernel_rfl
def Z1:List (Nat×Orc):=[(4,⟨[(0,some 62),(1,some 62),(5,none),(6,none),(7,none)],[],[(.slot 5,1040,180)]⟩)]
noncomputable def Z0(n m4:Nat)(a0 b1:D)(out5:List D)(carry6 i7:Int):Tree :=
 lA (eA Z1 n 268 [1,1,1,0,1,0,0]) (An Z1 4) m4 ⟨(.d 62 a0:: .d 62 b1::uA 3++(.row 1040:: .i .u64 carry6:: .i .i64 i7::uA 27)),[(1040,.row 180 out5 true)],[1040],[],[]⟩
  (Ak 0 (Aq (jA Z1 n 268 [1,1,1,1]) (rA 268 [62,62] [.tmp 4] [62])))
theorem ZB(n m4:Nat)(a0 b1:D)(out5:List D)(carry6 i7:Int):Z0 n (m4+1) a0 b1 out5 carry6 i7 =
 cK 310 [a0,b1] fun Y1 =>
 bK (i7≤((qA Y1).toInt)) (cK 311 [a0,D.int i7] fun Y2 =>
 cK 311 [b1,D.int i7] fun Y3 =>
 .br (!(4294967296 == (0:Int))) (kK (out5.length + [D.int (Aom .u32 (Int.tmod (Aom .u64 ((Aom .u64 (((qA Y2).toInt)+((qA Y3).toInt)))+carry6)) 4294967296))].length≤Am) (.br (!(4294967296 == (0:Int))) (Z0 n m4 a0 b1 (out5++[D.int (Aom .u32 (Int.tmod (Aom .u64 ((Aom .u64 (((qA Y2).toInt)+((qA Y3).toInt)))+carry6)) 4294967296))]) (Aom .u64 (Int.tdiv (Aom .u64 ((Aom .u64 (((qA Y2).toInt)+((qA Y3).toInt)))+carry6)) 4294967296)) (Aom .i64 (i7+1))) .fail)) .fail)
 (cK 265 [D.sl out5] fun Y4 =>
 .ret [qA Y4]):=by kernel_rfl
theorem Ake(n:Nat)(a0 b1:D):fA Z1 n 268 [] [a0,b1] =
 Z0 n n a0 b1 [] 0 0:=by kernel_rfl
theorem AdB(n:Nat)(x0 y1:D):fA [] n 271 [] [x0,y1] =
 kK (0≤32) (kK (0≤32) (kK (0≤32) (kK (0≤32) (kK (0≤32) (.ret [D.int (Aom .u64 ((Aom .u64 ((Aom .u64 ((Ap3 x0.toInt (2 ^ (min (Apa 32) (Apl .u64))))*(Ap3 y1.toInt (2 ^ (min (Apa 32) (Apl .u64))))))+(Ap3 (Aom .u64 ((Aom .u64 ((Ap3 x0.toInt (2 ^ (min (Apa 32) (Apl .u64))))*(Br .and .u64 y1.toInt 4294967295)))+(Ap3 (Aom .u64 ((Br .and .u64 x0.toInt 4294967295)*(Br .and .u64 y1.toInt 4294967295))) (2 ^ (min (Apa 32) (Apl .u64)))))) (2 ^ (min (Apa 32) (Apl .u64))))))+(Ap3 (Aom .u64 ((Br .and .u64 (Aom .u64 ((Aom .u64 ((Ap3 x0.toInt (2 ^ (min (Apa 32) (Apl .u64))))*(Br .and .u64 y1.toInt 4294967295)))+(Ap3 (Aom .u64 ((Br .and .u64 x0.toInt 4294967295)*(Br .and .u64 y1.toInt 4294967295))) (2 ^ (min (Apa 32) (Apl .u64)))))) 4294967295)+(Aom .u64 ((Br .and .u64 x0.toInt 4294967295)*(Ap3 y1.toInt (2 ^ (min (Apa 32) (Apl .u64)))))))) (2 ^ (min (Apa 32) (Apl .u64)))))),D.int (Aom .u64 (x0.toInt*y1.toInt))]))))):=by kernel_rfl
def AE:List (Nat×Orc):=[(4,⟨[(0,some 62),(5,none),(6,none),(7,none)],[],[(.slot 5,1040,180)]⟩)]
noncomputable def AD(n m4:Nat)(a0:D)(out5:List D)(carry6 i7:Int):Tree :=
 lA (eA AE n 295 [1,1,1,0,1,0,0]) (An AE 4) m4 ⟨(.d 62 a0::uA 4++(.row 1040:: .i .u64 carry6:: .i .i64 i7::uA 25)),[(1040,.row 180 out5 true)],[1040],[],[]⟩
  (Ak 0 (Aq (jA AE n 295 [1,1,1,1]) (rA 295 [62,180] [.tmp 4] [62])))
theorem ZK(n m4:Nat)(a0:D)(out5:List D)(carry6 i7:Int):AD n (m4+1) a0 out5 carry6 i7 =
 bK (i7≤(a0.els.length:Int)) (cK 311 [a0,D.int i7] fun Y1 =>
 .br (!(4294967296 == (0:Int))) (kK (out5.length + [D.int (Aom .u32 (Int.tmod (Aom .u64 ((Aom .u64 (2*((qA Y1).toInt)))+carry6)) 4294967296))].length≤Am) (.br (!(4294967296 == (0:Int))) (AD n m4 a0 (out5++[D.int (Aom .u32 (Int.tmod (Aom .u64 ((Aom .u64 (2*((qA Y1).toInt)))+carry6)) 4294967296))]) (Aom .u64 (Int.tdiv (Aom .u64 ((Aom .u64 (2*((qA Y1).toInt)))+carry6)) 4294967296)) (Aom .i64 (i7+1))) .fail)) .fail)
 (cK 265 [D.sl out5] fun Y2 =>
 .ret [qA Y2]):=by kernel_rfl
theorem Akr(n:Nat)(a0 bit1:D):fA AE n 295 [] [a0,bit1] =
 AD n n a0 [] (Aom .u64 bit1.toInt) 0:=by kernel_rfl
def Z3:List (Nat×Orc):=[(3,⟨[(1,none),(5,none),(6,none)],[],[]⟩)]
noncomputable def Z2(n m3:Nat)(i1 w5 k6:Int):Tree :=
 lA (eA Z3 n 296 [1,1,0,1,0,0]) (An Z3 3) m3 ⟨(.undef:: .i .i64 i1::uA 3++(.i .u64 w5:: .i .i64 k6::uA 15)),[],[],[],[]⟩
  (Ak 0 (Aq (jA Z3 n 296 [1,1,1]) (rA 296 [62,3] [.tmp 4] [180])))
theorem ZD(n m3:Nat)(i1 w5 k6:Int):Z2 n (m3+1) i1 w5 k6 =
 .br (!(32 == (0:Int))) (bK (k6<(Int.tmod i1 32)) (.br (!(2 == (0:Int))) (Z2 n m3 i1 (Aom .u64 (Int.tdiv w5 2)) (Aom .i64 (k6+1))) .fail)
 (.br (!(2 == (0:Int))) (.ret [D.int (Aom .u32 (Int.tmod w5 2))]) .fail)) .fail:=by kernel_rfl
theorem Akg(n:Nat)(a0 i1:D):fA Z3 n 296 [] [a0,i1] =
 .br (!(32 == (0:Int))) (cK 311 [a0,D.int (Aom .i64 (Int.tdiv i1.toInt 32))] fun Y1 =>
 Z2 n n i1.toInt ((qA Y1).toInt) 0) .fail:=by kernel_rfl
def AC:List (Nat×Orc):=[(6,⟨[(0,some 62),(1,some 62),(6,none),(7,none),(8,none)],[],[(.slot 6,1060,180)]⟩)]
noncomputable def AB(n m6:Nat)(a0 b1:D)(out6:List D)(borrow7 i8:Int):Tree :=
 lA (eA AC n 297 [1,1,1,1,0,1,0,0]) (An AC 6) m6 ⟨(.d 62 a0:: .d 62 b1::uA 4++(.row 1060:: .i .u64 borrow7:: .i .i64 i8::uA 33)),[(1060,.row 180 out6 true)],[1060],[],[]⟩
  (Ak 0 (Aq (jA AC n 297 [1,1,1,1,1]) (rA 297 [62,62] [.tmp 4,.tmp 5] [62,4])))
theorem ZJ(n m6:Nat)(a0 b1:D)(out6:List D)(borrow7 i8:Int):AB n (m6+1) a0 b1 out6 borrow7 i8 =
 cK 310 [a0,b1] fun Y2 =>
 bK (i8<((qA Y2).toInt)) (cK 311 [a0,D.int i8] fun Y3 =>
 cK 311 [b1,D.int i8] fun Y4 =>
 .br (!(4294967296 == (0:Int))) (kK (out6.length + [D.int (Aom .u32 (Int.tmod (Aom .u64 ((Aom .u64 ((Aom .u64 (4294967296+((qA Y3).toInt)))-((qA Y4).toInt)))-borrow7)) 4294967296))].length≤Am) (.br (!(4294967296 == (0:Int))) (AB n m6 a0 b1 (out6++[D.int (Aom .u32 (Int.tmod (Aom .u64 ((Aom .u64 ((Aom .u64 (4294967296+((qA Y3).toInt)))-((qA Y4).toInt)))-borrow7)) 4294967296))]) (Aom .u64 (1-(Aom .u64 (Int.tdiv (Aom .u64 ((Aom .u64 ((Aom .u64 (4294967296+((qA Y3).toInt)))-((qA Y4).toInt)))-borrow7)) 4294967296)))) (Aom .i64 (i8+1))) .fail)) .fail)
 (cK 265 [D.sl out6] fun Y5 =>
 .ret [qA Y5,D.bool true]):=by kernel_rfl
theorem Ako(n:Nat)(a0 b1:D):fA AC n 297 [] [a0,b1] =
 cK 320 [a0,b1] fun Y1 =>
 bK (((qA Y1).toInt)<0) (.ret [D.sl [],D.bool false])
 (AB n n a0 b1 [] 0 0):=by kernel_rfl
theorem Ahw(n:Nat)(a0:D):fA [] n 299 [] [a0] =
 cK 321 [a0] fun Y1 =>
 kK (0≤(((qA Y1).els).length:Int)) (kK ((((qA Y1).els).length:Int)≤(((qA Y1).els).length:Int)) (kK ((((qA Y1).els).length:Int)≤Am) (.ret [D.sl (((qA Y1).els).take (Apc (Apa (((qA Y1).els).length:Int)) (D.int 0)).length++(Apc (Apa (((qA Y1).els).length:Int)) (D.int 0)).drop ((qA Y1).els).length)]))):=by kernel_rfl
def Yb:List (Nat×Orc):=[(7,⟨[(0,some 62),(1,some 62),(5,none)],[],[]⟩)]
noncomputable def Ya(n m7:Nat)(a0 b1:D)(i5:Int):Tree :=
 lA (eA Yb n 302 [1,1,1,0,1,0,0]) (An Yb 7) m7 ⟨(.d 62 a0:: .d 62 b1::uA 3++(.i .i64 i5::uA 43)),[],[],[],[]⟩
  (Ak 1 (Aq (jA Yb n 302 [1,1,1,1]) (rA 302 [62,62] [.tmp 4] [3])))
theorem VE(n m7:Nat)(a0 b1:D)(i5:Int):Ya n (m7+1) a0 b1 i5 =
 bK (0≤i5) (kK (0≤i5) (kK (i5<(a0.els.length:Int)) (kK (0≤i5) (kK (i5<(b1.els.length:Int)) (bK (((a0.els.getD (Apa i5) D.nil).toInt)<((b1.els.getD (Apa i5) D.nil).toInt)) (.ret [D.int (-1)])
 (kK (0≤i5) (kK (i5<(a0.els.length:Int)) (kK (0≤i5) (kK (i5<(b1.els.length:Int)) (bK (((b1.els.getD (Apa i5) D.nil).toInt)<((a0.els.getD (Apa i5) D.nil).toInt)) (.ret [D.int 1])
 (Ya n m7 a0 b1 (Aom .i64 (i5-1)))))))))))))
 (.ret [D.int 0]):=by kernel_rfl
theorem Ahq(n:Nat)(a0 b1:D):fA Yb n 302 [] [a0,b1] =
 cK 321 [a0] fun Y1 =>
 cK 321 [b1] fun Y2 =>
 bK ((((qA Y1).els).length:Int)<(((qA Y2).els).length:Int)) (.ret [D.int (-1)])
 (bK ((((qA Y2).els).length:Int)<(((qA Y1).els).length:Int)) (.ret [D.int 1])
 (Ya n n (qA Y1) (qA Y2) (Aom .i64 ((((qA Y1).els).length:Int)-1)))):=by kernel_rfl
def Hz:List (Nat×Orc):=[(6,⟨[(1,some 62),(5,none),(30,some 62),(31,none),(32,none)],[],[(.slot 5,1060,180)]⟩),(10,⟨[(1,some 62),(5,none),(6,none),(7,none),(8,none),(30,some 62),(31,none),(32,none),(37,some 62),(38,none),(39,none)],[],[(.slot 5,1100,180)]⟩)]
noncomputable def Ye(n m6 m10:Nat)(b1:D)(out5:List D)(i6 x7 carry8:Int)(t30:D)(t31 t32:Int)(t37:D)(t38 t39:Int):Tree :=
 lA (eA Hz n 303 [1,1,1,1,0,1,0,0,1,1,0,0,1,1,0,1,0,0]) (An Hz 10) m10 ⟨(.undef:: .d 62 b1::uA 3++(.row 1100:: .i .i64 i6:: .i .u32 x7:: .i .u64 carry8::uA 21++(.d 62 t30:: .i .i64 t31:: .i .i64 t32::uA 4++(.d 62 t37:: .i .i64 t38:: .i .i64 t39::uA 40)))),[(1100,.row 180 out5 true)],[1100],[],[]⟩
  (Ak 2 (Aq (jA Hz n 303 [1,1,1,1,0,1,0,0,1,1,0,0,1,1,1]) (Ak 1 (Aq (jA Hz n 303 [1,1,1,1,0,1,0,0,1,1,1]) (Gb Tryz.prog md (An Hz 6) (fun s1=>lA (eA Hz n 303 [1,1,1,1,0,1,0,0]) (An Hz 6) m6 s1 (Ak 0 (Aq (jA Hz n 303 [1,1,1,1,1]) (rA 303 [62,62] [.tmp 4] [62])))) (Ak 0 (Aq (jA Hz n 303 [1,1,1,1,1]) (rA 303 [62,62] [.tmp 4] [62]))))))))
noncomputable def Yf(n m6:Nat)(b1:D)(out5:List D)(t30:D)(t31 t32:Int):Tree :=
 lA (eA Hz n 303 [1,1,1,1,0,1,0,0]) (An Hz 6) m6 ⟨(.undef:: .d 62 b1::uA 3++(.row 1060::uA 24++(.d 62 t30:: .i .i64 t31:: .i .i64 t32::uA 47))),[(1060,.row 180 out5 true)],[1060],[],[]⟩
  (Ak 0 (Aq (jA Hz n 303 [1,1,1,1,1]) (rA 303 [62,62] [.tmp 4] [62])))
theorem VG(n m6 m10:Nat)(b1:D)(out5:List D)(i6 x7 carry8:Int)(t30:D)(t31 t32:Int)(t37:D)(t38 t39:Int):Ye n m6 (m10+1) b1 out5 i6 x7 carry8 t30 t31 t32 t37 t38 t39 =
 bK (t39<t38) (kK (0≤t39) (kK (t39<(t37.els.length:Int)) (kK (0≤Aom .i64 (i6+t39)) (kK (Aom .i64 (i6+t39)<(out5.length:Int)) (kK (0≤Aom .i64 (i6+t39)) (kK (Aom .i64 (i6+t39)<(out5.length:Int)) (kK (0≤32) (Ye n m6 m10 b1 (out5.set (Apa (Aom .i64 (i6+t39))) (D.int (Aom .u32 (Aom .u64 ((Aom .u64 ((Aom .u64 ((Aom .u64 x7)*(Aom .u64 ((t37.els.getD (Apa t39) D.nil).toInt))))+(Aom .u64 ((out5.getD (Apa (Aom .i64 (i6+t39))) D.nil).toInt))))+carry8))))) i6 x7 (Ap3 (Aom .u64 ((Aom .u64 ((Aom .u64 ((Aom .u64 x7)*(Aom .u64 ((t37.els.getD (Apa t39) D.nil).toInt))))+(Aom .u64 ((out5.getD (Apa (Aom .i64 (i6+t39))) D.nil).toInt))))+carry8)) (2 ^ (min (Apa 32) (Apl .u64)))) t30 t31 t32 t37 t38 (Aom .i64 (t39+1))))))))))
 (kK (0≤Aom .i64 (i6+(b1.els.length:Int))) (kK (Aom .i64 (i6+(b1.els.length:Int))<(out5.length:Int)) (Yf n m6 b1 (out5.set (Apa (Aom .i64 (i6+(b1.els.length:Int)))) (D.int (Aom .u32 carry8))) t30 t31 (Aom .i64 (t32+1))))):=by kernel_rfl
theorem VH(n m6:Nat)(b1:D)(out5:List D)(t30:D)(t31 t32:Int):Yf n (m6+1) b1 out5 t30 t31 t32 =
 bK (t32<t31) (kK (0≤t32) (kK (t32<(t30.els.length:Int)) (Ye n m6 n b1 out5 t32 ((t30.els.getD (Apa t32) D.nil).toInt) 0 t30 t31 t32 b1 (b1.els.length:Int) 0)))
 (cK 321 [D.sl out5] fun Y3 =>
 .ret [qA Y3]):=by kernel_rfl
theorem Ahv(n:Nat)(a0 b1:D):fA Hz n 303 [] [a0,b1] =
 cK 321 [a0] fun Y1 =>
 cK 321 [b1] fun Y2 =>
 .br ((((qA Y1).els).length:Int)==0) (.ret [D.sl []])
 (.br ((((qA Y2).els).length:Int)==0) (.ret [D.sl []])
 (kK (0≤Aom .i64 ((((qA Y1).els).length:Int)+(((qA Y2).els).length:Int))) (kK (Aom .i64 ((((qA Y1).els).length:Int)+(((qA Y2).els).length:Int))≤Aom .i64 ((((qA Y1).els).length:Int)+(((qA Y2).els).length:Int))) (kK (Aom .i64 ((((qA Y1).els).length:Int)+(((qA Y2).els).length:Int))≤Am) (Yf n n (qA Y2) (Apc (Apa (Aom .i64 ((((qA Y1).els).length:Int)+(((qA Y2).els).length:Int)))) (D.int 0)) (qA Y1) (((qA Y1).els).length:Int) 0))))):=by kernel_rfl
theorem Akq(n:Nat)(a0 b1:D):fA [] n 310 [] [a0,b1] =
 bK ((b1.els.length:Int)<(a0.els.length:Int)) (.ret [D.int (a0.els.length:Int)])
 (.ret [D.int (b1.els.length:Int)]):=by kernel_rfl
theorem Akp(n:Nat)(a0 i1:D):fA [] n 311 [] [a0,i1] =
 bK (i1.toInt<(a0.els.length:Int)) (kK (0≤i1.toInt) (kK (i1.toInt<(a0.els.length:Int)) (.ret [D.int (Aom .u64 ((a0.els.getD (Apa i1.toInt) D.nil).toInt))])))
 (.ret [D.int 0]):=by kernel_rfl
def Yd:List (Nat×Orc):=[(2,⟨[(0,some 62),(1,some 62)],[],[]⟩)]
noncomputable def S2(n m2:Nat)(a0 b1:D):Tree :=
 lA (eA Yd n 315 [1,1,0,0,0]) (An Yd 2) m2 ⟨(.d 62 a0:: .d 62 b1::uA 37),[],[],[],[]⟩
  (Ak 0 (Aq (jA Yd n 315 [1,1,1]) (rA 315 [62,62] [.tmp 4] [62])))
theorem Ahs(n m2:Nat)(a0 b1:D):S2 n (m2+1) a0 b1 =
 bK (0<(b1.els.length:Int)) (bK ((a0.els.length:Int)≤2) (bK ((b1.els.length:Int)≤2) (cK 328 [a0] fun Y3 =>
 cK 328 [b1] fun Y4 =>
 cK 327 [D.int ((qA Y3).toInt),D.int ((qA Y4).toInt)] fun Y5 =>
 .ret [qA Y5])
 (cK 323 [a0,b1] fun Y6 =>
 S2 n m2 b1 (qB Y6)))
 (cK 323 [a0,b1] fun Y7 =>
 S2 n m2 b1 (qB Y7)))
 (cK 299 [a0] fun Y8 =>
 .ret [D.sl ((qA Y8).els)]):=by kernel_rfl
theorem Aht(n:Nat)(a0 b1:D):fA Yd n 315 [] [a0,b1] =
 cK 321 [a0] fun Y1 =>
 cK 321 [b1] fun Y2 =>
 S2 n n (qA Y1) (qA Y2):=by kernel_rfl
def Z5:List (Nat×Orc):=[(2,⟨[(0,some 62),(1,some 62),(5,none)],[],[]⟩)]
noncomputable def Z4(n m2:Nat)(a0 b1:D)(i5:Int):Tree :=
 lA (eA Z5 n 320 [1,0,1,0,0]) (An Z5 2) m2 ⟨(.d 62 a0:: .d 62 b1::uA 3++(.i .i64 i5::uA 22)),[],[],[],[]⟩
  (Ak 0 (Aq (jA Z5 n 320 [1,1]) (rA 320 [62,62] [.tmp 4] [3])))
theorem ZE(n m2:Nat)(a0 b1:D)(i5:Int):Z4 n (m2+1) a0 b1 i5 =
 bK (0≤i5) (cK 311 [a0,D.int i5] fun Y2 =>
 cK 311 [b1,D.int i5] fun Y3 =>
 bK (((qA Y2).toInt)<((qA Y3).toInt)) (.ret [D.int (-1)])
 (cK 311 [a0,D.int i5] fun Y4 =>
 cK 311 [b1,D.int i5] fun Y5 =>
 bK (((qA Y5).toInt)<((qA Y4).toInt)) (.ret [D.int 1])
 (Z4 n m2 a0 b1 (Aom .i64 (i5-1)))))
 (.ret [D.int 0]):=by kernel_rfl
theorem Akh(n:Nat)(a0 b1:D):fA Z5 n 320 [] [a0,b1] =
 cK 310 [a0,b1] fun Y1 =>
 Z4 n n a0 b1 (Aom .i64 (((qA Y1).toInt)-1)):=by kernel_rfl
def Yp:List (Nat×Orc):=[(2,⟨[(0,some 62),(3,none)],[],[]⟩)]
noncomputable def Yo(n m2:Nat)(a0:D)(nn3:Int):Tree :=
 lA (eA Yp n 321 [1,1,0,0,0]) (An Yp 2) m2 ⟨(.d 62 a0:: .undef:: .undef:: .i .i64 nn3::uA 18),[],[],[],[]⟩
  (Ak 0 (Aq (jA Yp n 321 [1,1,1]) (rA 321 [62] [.tmp 2] [62])))
theorem VN(n m2:Nat)(a0:D)(nn3:Int):Yo n (m2+1) a0 nn3 =
 bK (0<nn3) (kK (0≤Aom .i64 (nn3-1)) (kK (Aom .i64 (nn3-1)<(a0.els.length:Int)) (.br (((a0.els.getD (Apa (Aom .i64 (nn3-1))) D.nil).toInt)==0) (Yo n m2 a0 (Aom .i64 (nn3-1)))
 (kK (0≤nn3) (kK (nn3≤nn3) (kK (nn3≤(a0.els.length:Int)) (.ret [D.sl (a0.els.take (Apa nn3))])))))))
 (kK (0≤nn3) (kK (nn3≤nn3) (kK (nn3≤(a0.els.length:Int)) (.ret [D.sl (a0.els.take (Apa nn3))])))):=by kernel_rfl
theorem Ah9(n:Nat)(a0:D):fA Yp n 321 [] [a0] =
 Yo n n a0 (a0.els.length:Int):=by kernel_rfl
theorem Ahr(n:Nat)(a0 b1:D):fA [] n 323 [] [a0,b1] =
 cK 321 [a0] fun Y1 =>
 cK 321 [b1] fun Y2 =>
 .br ((((qA Y2).els).length:Int)==0) (.ret [D.sl [],D.sl [],D.bool false])
 (cK 302 [qA Y1,qA Y2] fun Y3 =>
 bK (((qA Y3).toInt)<0) (cK 299 [qA Y1] fun Y4 =>
 .ret [D.sl [],D.sl ((qA Y4).els),D.bool true])
 (.br ((((qA Y2).els).length:Int)==1) (cK 299 [qA Y1] fun Y5 =>
 kK (0≤0) (kK (0<(((qA Y2).els).length:Int)) (cK 331 [D.sl ((qA Y5).els),D.int ((((qA Y2).els).getD (Apa 0) D.nil).toInt)] fun Y6 =>
 cK 321 [D.sl ((qB Y6).els)] fun Y7 =>
 cK 299 [D.sl [D.int ((qA Y6).toInt)]] fun Y8 =>
 .ret [qA Y7,D.sl ((qA Y8).els),D.bool true])))
 (cK 332 [qA Y1,qA Y2] fun Y9 =>
 .ret [qA Y9,qB Y9,D.bool true]))):=by kernel_rfl
def X_:List (Nat×Orc):=[(8,⟨[(1,some 62),(5,none),(6,none),(30,none),(31,none)],[],[(.slot 5,1080,180)]⟩)]
noncomputable def N6(n m8:Nat)(b1:D)(out5:List D)(carry6 t30 t31:Int):Tree :=
 lA (eA X_ n 325 [1,1,1,1,1,1,0,1,0,0]) (An X_ 8) m8 ⟨(.undef:: .d 62 b1::uA 3++(.row 1080:: .i .u32 carry6::uA 23++(.i .i64 t30:: .i .i64 t31::uA 33))),[(1080,.row 180 out5 true)],[1080],[],[]⟩
  (Ak 0 (Aq (jA X_ n 325 [1,1,1,1,1,1,1]) (rA 325 [62,62] [.tmp 4] [62])))
theorem VC(n m8:Nat)(b1:D)(out5:List D)(carry6 t30 t31:Int):N6 n (m8+1) b1 out5 carry6 t30 t31 =
 bK (t31<t30) (bK (t31<(b1.els.length:Int)) (kK (0≤t31) (kK (t31<(b1.els.length:Int)) (kK (0≤t31) (kK (t31<(out5.length:Int)) (cK 333 [D.int ((out5.getD (Apa t31) D.nil).toInt),D.int ((b1.els.getD (Apa t31) D.nil).toInt),D.int carry6] fun Y3 =>
 kK (0≤t31) (kK (t31<(out5.length:Int)) (N6 n m8 b1 (out5.set (Apa t31) (D.int ((qA Y3).toInt))) ((qB Y3).toInt) t30 (Aom .i64 (t31+1)))))))))
 (.br (carry6 == 0) (.br (carry6 != 0) (kK (out5.length + [D.int carry6].length≤Am) (.ret [D.sl (out5++[D.int carry6])]))
 (.ret [D.sl out5]))
 (kK (0≤t31) (kK (t31<(out5.length:Int)) (cK 333 [D.int ((out5.getD (Apa t31) D.nil).toInt),D.int 0,D.int carry6] fun Y4 =>
 kK (0≤t31) (kK (t31<(out5.length:Int)) (N6 n m8 b1 (out5.set (Apa t31) (D.int ((qA Y4).toInt))) ((qB Y4).toInt) t30 (Aom .i64 (t31+1)))))))))
 (.br (carry6 != 0) (kK (out5.length + [D.int carry6].length≤Am) (.ret [D.sl (out5++[D.int carry6])]))
 (.ret [D.sl out5])):=by kernel_rfl
theorem Ahp(n:Nat)(a0 b1:D):fA X_ n 325 [] [a0,b1] =
 cK 321 [a0] fun Y1 =>
 cK 321 [b1] fun Y2 =>
 bK ((((qA Y1).els).length:Int)<(((qA Y2).els).length:Int)) (kK (0≤(((qA Y2).els).length:Int)) (kK ((((qA Y2).els).length:Int)≤Aom .i64 ((((qA Y2).els).length:Int)+1)) (kK (Aom .i64 ((((qA Y2).els).length:Int)+1)≤Am) (N6 n n (qA Y1) (((qA Y2).els).take (Apc (Apa (((qA Y2).els).length:Int)) (D.int 0)).length++(Apc (Apa (((qA Y2).els).length:Int)) (D.int 0)).drop ((qA Y2).els).length) 0 ((((qA Y2).els).take (Apc (Apa (((qA Y2).els).length:Int)) (D.int 0)).length++(Apc (Apa (((qA Y2).els).length:Int)) (D.int 0)).drop ((qA Y2).els).length).length:Int) 0))))
 (kK (0≤(((qA Y1).els).length:Int)) (kK ((((qA Y1).els).length:Int)≤Aom .i64 ((((qA Y1).els).length:Int)+1)) (kK (Aom .i64 ((((qA Y1).els).length:Int)+1)≤Am) (N6 n n (qA Y2) (((qA Y1).els).take (Apc (Apa (((qA Y1).els).length:Int)) (D.int 0)).length++(Apc (Apa (((qA Y1).els).length:Int)) (D.int 0)).drop ((qA Y1).els).length) 0 ((((qA Y1).els).take (Apc (Apa (((qA Y1).els).length:Int)) (D.int 0)).length++(Apc (Apa (((qA Y1).els).length:Int)) (D.int 0)).drop ((qA Y1).els).length).length:Int) 0)))):=by kernel_rfl
def Yg:List (Nat×Orc):=[(6,⟨[(1,some 62),(6,none),(7,none),(19,none),(20,none)],[],[(.slot 6,1060,180)]⟩)]
noncomputable def S3(n m6:Nat)(b1:D)(out6:List D)(borrow7 t19 t20:Int):Tree :=
 lA (eA Yg n 326 [1,1,1,1,0,1,0,0]) (An Yg 6) m6 ⟨(.undef:: .d 62 b1::uA 4++(.row 1060:: .i .u32 borrow7::uA 11++(.i .i64 t19:: .i .i64 t20::uA 28))),[(1060,.row 180 out6 true)],[1060],[],[]⟩
  (Ak 0 (Aq (jA Yg n 326 [1,1,1,1,1]) (rA 326 [62,62] [.tmp 4,.tmp 5] [62,4])))
theorem VI(n m6:Nat)(b1:D)(out6:List D)(borrow7 t19 t20:Int):S3 n (m6+1) b1 out6 borrow7 t19 t20 =
 bK (t20<t19) (bK (t20<(b1.els.length:Int)) (kK (0≤t20) (kK (t20<(b1.els.length:Int)) (kK (0≤t20) (kK (t20<(out6.length:Int)) (cK 334 [D.int ((out6.getD (Apa t20) D.nil).toInt),D.int ((b1.els.getD (Apa t20) D.nil).toInt),D.int borrow7] fun Y4 =>
 kK (0≤t20) (kK (t20<(out6.length:Int)) (S3 n m6 b1 (out6.set (Apa t20) (D.int ((qA Y4).toInt))) ((qB Y4).toInt) t19 (Aom .i64 (t20+1)))))))))
 (.br (borrow7 == 0) (cK 321 [D.sl out6] fun Y5 =>
 .ret [qA Y5,D.bool true])
 (kK (0≤t20) (kK (t20<(out6.length:Int)) (cK 334 [D.int ((out6.getD (Apa t20) D.nil).toInt),D.int 0,D.int borrow7] fun Y6 =>
 kK (0≤t20) (kK (t20<(out6.length:Int)) (S3 n m6 b1 (out6.set (Apa t20) (D.int ((qA Y6).toInt))) ((qB Y6).toInt) t19 (Aom .i64 (t20+1)))))))))
 (cK 321 [D.sl out6] fun Y7 =>
 .ret [qA Y7,D.bool true]):=by kernel_rfl
theorem Ahx(n:Nat)(a0 b1:D):fA Yg n 326 [] [a0,b1] =
 cK 302 [a0,b1] fun Y1 =>
 bK (((qA Y1).toInt)<0) (.ret [D.sl [],D.bool false])
 (cK 299 [a0] fun Y2 =>
 cK 321 [b1] fun Y3 =>
 S3 n n (qA Y3) ((qA Y2).els) 0 (((qA Y2).els).length:Int) 0):=by kernel_rfl
def Yn:List (Nat×Orc):=[(1,⟨[(0,none),(1,none)],[],[]⟩)]
noncomputable def Ym(n m1:Nat)(a0 b1:Int):Tree :=
 lA (eA Yn n 327 [1,0,0,0]) (An Yn 1) m1 ⟨(.i .u64 a0:: .i .u64 b1::uA 16),[],[],[],[]⟩
  (Ak 0 (Aq (jA Yn n 327 [1,1]) (rA 327 [22,22] [.tmp 4] [62])))
theorem Ah6(n m1:Nat)(a0 b1:Int):Ym n (m1+1) a0 b1 =
 .br (b1 != 0) (.br (!(b1 == (0:Int))) (Ym n m1 b1 (Int.tmod a0 b1)) .fail)
 (kK (0≤32) (cK 299 [D.sl [D.int (Aom .u32 a0),D.int (Aom .u32 (Ap3 a0 (2 ^ (min (Apa 32) (Apl .u64)))))]] fun Y1 =>
 .ret [D.sl ((qA Y1).els)])):=by kernel_rfl
theorem Ah8(n:Nat)(a0 b1:D):fA Yn n 327 [] [a0,b1] =
 Ym n n a0.toInt b1.toInt:=by kernel_rfl
def Ys:List (Nat×Orc):=[(3,⟨[(3,none),(6,some 62),(7,none),(8,none)],[],[]⟩)]
noncomputable def Qb(n m3:Nat)(out3:Int)(t6:D)(t7 t8:Int):Tree :=
 lA (eA Ys n 328 [1,1,0,1,0,0]) (An Ys 3) m3 ⟨(uA 3++(.i .u64 out3:: .undef:: .undef:: .d 62 t6:: .i .i64 t7:: .i .i64 t8::uA 14)),[],[],[],[]⟩
  (Ak 0 (Aq (jA Ys n 328 [1,1,1]) (rA 328 [62] [.tmp 2] [22])))
theorem VR(n m3:Nat)(out3:Int)(t6:D)(t7 t8:Int):Qb n (m3+1) out3 t6 t7 t8 =
 bK (t8<t7) (kK (0≤t8) (kK (t8<(t6.els.length:Int)) (kK (0≤Aom .u64 (Aom .i64 (32*t8))) (Qb n m3 (Br .or .u64 out3 (Aom .u64 ((Aom .u64 ((t6.els.getD (Apa t8) D.nil).toInt))*2 ^ (min (Apa (Aom .u64 (Aom .i64 (32*t8)))) (Apl .u64))))) t6 t7 (Aom .i64 (t8+1))))))
 (.ret [D.int out3]):=by kernel_rfl
theorem AhA(n:Nat)(a0:D):fA Ys n 328 [] [a0] =
 Qb n n 0 a0 (a0.els.length:Int) 0:=by kernel_rfl
def Yl:List (Nat×Orc):=[(3,⟨[(0,none),(1,none),(5,none),(6,none)],[],[(.slot 0,0,180)]⟩)]
noncomputable def Yk(n m3:Nat)(a0:List D)(by1 rest5 i6:Int):Tree :=
 lA (eA Yl n 331 [1,1,0,1,0,0]) (An Yl 3) m3 ⟨(.row 0:: .i .u32 by1::uA 3++(.i .u64 rest5:: .i .i64 i6::uA 29)),[(0,.row 180 a0 true)],[0],[],[0]⟩
  (Ak 0 (Aq (jA Yl n 331 [1,1,1]) (rA 331 [62,180] [.tmp 4] [180])))
theorem VM(n m3:Nat)(a0:List D)(by1 rest5 i6:Int):Yk n (m3+1) a0 by1 rest5 i6 =
 bK (0≤i6) (kK (0≤32) (kK (0≤i6) (kK (i6<(a0.length:Int)) (.br (!((Aom .u64 by1)==(0:Int))) (kK (0≤i6) (kK (i6<(a0.length:Int)) (.br (!((Aom .u64 by1)==(0:Int))) (Yk n m3 (a0.set (Apa i6) (D.int (Aom .u32 (Aom .u64 (Int.tdiv (Br .or .u64 (Aom .u64 (rest5*2 ^ (min (Apa 32) (Apl .u64)))) (Aom .u64 ((a0.getD (Apa i6) D.nil).toInt))) (Aom .u64 by1)))))) by1 (Int.tmod (Br .or .u64 (Aom .u64 (rest5*2 ^ (min (Apa 32) (Apl .u64)))) (Aom .u64 ((a0.getD (Apa i6) D.nil).toInt))) (Aom .u64 by1)) (Aom .i64 (i6-1))) .fail))) .fail))))
 (.ret [D.int (Aom .u32 rest5),D.sl a0]):=by kernel_rfl
theorem Ah5(n:Nat)(a0 by1:D):fA Yl n 331 [] [a0,by1] =
 Yk n n a0.els by1.toInt 0 (Aom .i64 ((a0.els.length:Int)-1)):=by kernel_rfl
theorem Ad7(n:Nat)(x0 y1 carry2:D):fA [] n 333 [] [x0,y1,carry2] =
 kK (0≤32) (.ret [D.int (Aom .u32 (Aom .u64 ((Aom .u64 ((Aom .u64 x0.toInt)+(Aom .u64 y1.toInt)))+(Aom .u64 carry2.toInt)))),D.int (Aom .u32 (Ap3 (Aom .u64 ((Aom .u64 ((Aom .u64 x0.toInt)+(Aom .u64 y1.toInt)))+(Aom .u64 carry2.toInt))) (2 ^ (min (Apa 32) (Apl .u64)))))]):=by kernel_rfl
theorem AdD(n:Nat)(x0 y1 borrow2:D):fA [] n 334 [] [x0,y1,borrow2] =
 kK (0≤31) (.ret [D.int (Aom .u32 ((Aom .u32 (x0.toInt-y1.toInt))-borrow2.toInt)),D.int (Ap3 (Br .or .u32 (Br .and .u32 (Br .xor .u32 (IntKind.max .u32) x0.toInt) y1.toInt) (Br .and .u32 (Br .xor .u32 (IntKind.max .u32) (Br .xor .u32 x0.toInt y1.toInt)) (Aom .u32 ((Aom .u32 (x0.toInt-y1.toInt))-borrow2.toInt)))) (2 ^ (min (Apa 31) (Apl .u32))))]):=by kernel_rfl
theorem Ad8(n:Nat)(x0:D):fA [] n 335 [] [x0] =
 cK 341 [D.int x0.toInt] fun Y1 =>
 .ret [D.int (Aom .i64 (32-((qA Y1).toInt)))]:=by kernel_rfl
def Yr:List (Nat×Orc):=[(4,⟨[(0,some 62),(1,none),(5,none),(6,none),(14,some 62),(15,none),(16,none)],[],[(.slot 5,1040,180)]⟩)]
noncomputable def Yq(n m4:Nat)(a0:D)(shift1:Int)(out5:List D)(carry6:Int)(t14:D)(t15 t16:Int):Tree :=
 lA (eA Yr n 336 [1,1,1,0,1,0,0]) (An Yr 4) m4 ⟨(.d 62 a0:: .i .i64 shift1::uA 3++(.row 1040:: .i .u64 carry6::uA 7++(.d 62 t14:: .i .i64 t15:: .i .i64 t16::uA 26))),[(1040,.row 180 out5 true)],[1040],[],[]⟩
  (Ak 0 (Aq (jA Yr n 336 [1,1,1,1]) (rA 336 [62,3] [.tmp 4] [62])))
theorem VQ(n m4:Nat)(a0:D)(shift1:Int)(out5:List D)(carry6:Int)(t14:D)(t15 t16:Int):Yq n (m4+1) a0 shift1 out5 carry6 t14 t15 t16 =
 bK (t16<t15) (kK (0≤t16) (kK (t16<(t14.els.length:Int)) (kK (0≤Aom .u64 shift1) (kK (0≤t16) (kK (t16<(out5.length:Int)) (kK (0≤32) (Yq n m4 a0 shift1 (out5.set (Apa t16) (D.int (Aom .u32 (Br .or .u64 (Aom .u64 ((Aom .u64 ((t14.els.getD (Apa t16) D.nil).toInt))*2 ^ (min (Apa (Aom .u64 shift1)) (Apl .u64)))) carry6)))) (Ap3 (Br .or .u64 (Aom .u64 ((Aom .u64 ((t14.els.getD (Apa t16) D.nil).toInt))*2 ^ (min (Apa (Aom .u64 shift1)) (Apl .u64)))) carry6) (2 ^ (min (Apa 32) (Apl .u64)))) t14 t15 (Aom .i64 (t16+1)))))))))
 (kK (0≤(a0.els.length:Int)) (kK ((a0.els.length:Int)<(out5.length:Int)) (.ret [D.sl (out5.set (Apa (a0.els.length:Int)) (D.int (Aom .u32 carry6)))]))):=by kernel_rfl
theorem Ah_(n:Nat)(a0 shift1:D):fA Yr n 336 [] [a0,shift1] =
 kK (0≤Aom .i64 ((a0.els.length:Int)+1)) (kK (Aom .i64 ((a0.els.length:Int)+1)≤Aom .i64 ((a0.els.length:Int)+1)) (kK (Aom .i64 ((a0.els.length:Int)+1)≤Am) (Yq n n a0 shift1.toInt (Apc (Apa (Aom .i64 ((a0.els.length:Int)+1))) (D.int 0)) 0 a0 (a0.els.length:Int) 0))):=by kernel_rfl
def Yj:List (Nat×Orc):=[(4,⟨[(0,some 62),(1,some 62),(5,none),(7,none),(8,none)],[],[]⟩)]
noncomputable def Qa(n m4:Nat)(a0 divisor1:D)(nn5 guess7 rest8:Int):Tree :=
 lA (eA Yj n 337 [1,1,1,1,0,0,0]) (An Yj 4) m4 ⟨(.d 62 a0:: .d 62 divisor1::uA 3++(.i .i64 nn5:: .undef:: .i .u64 guess7:: .i .u64 rest8::uA 68)),[],[],[],[]⟩
  (Ak 0 (Aq (jA Yj n 337 [1,1,1,1,1]) (rA 337 [62,62] [.tmp 4] [22])))
theorem Ah1(n m4:Nat)(a0 divisor1:D)(nn5 guess7 rest8:Int):Qa n (m4+1) a0 divisor1 nn5 guess7 rest8 =
 kK (0≤32) (.br ((Ap3 guess7 (2 ^ (min (Apa 32) (Apl .u64))))!=0) (kK (0≤Aom .i64 (nn5-1)) (kK (Aom .i64 (nn5-1)<(divisor1.els.length:Int)) (kK (0≤32) (.br ((Ap3 (Aom .u64 (rest8+(Aom .u64 ((divisor1.els.getD (Apa (Aom .i64 (nn5-1))) D.nil).toInt)))) (2 ^ (min (Apa 32) (Apl .u64))))!=0) (.ret [D.int (Aom .u64 (guess7-1))])
 (Qa n m4 a0 divisor1 nn5 (Aom .u64 (guess7-1)) (Aom .u64 (rest8+(Aom .u64 ((divisor1.els.getD (Apa (Aom .i64 (nn5-1))) D.nil).toInt)))))))))
 (kK (0≤Aom .i64 (nn5-2)) (kK (Aom .i64 (nn5-2)<(divisor1.els.length:Int)) (kK (0≤32) (kK (0≤Aom .i64 (nn5-2)) (kK (Aom .i64 (nn5-2)<(a0.els.length:Int)) (bK ((Br .or .u64 (Aom .u64 (rest8*2 ^ (min (Apa 32) (Apl .u64)))) (Aom .u64 ((a0.els.getD (Apa (Aom .i64 (nn5-2))) D.nil).toInt)))<(Aom .u64 (guess7*(Aom .u64 ((divisor1.els.getD (Apa (Aom .i64 (nn5-2))) D.nil).toInt))))) (kK (0≤Aom .i64 (nn5-1)) (kK (Aom .i64 (nn5-1)<(divisor1.els.length:Int)) (kK (0≤32) (.br ((Ap3 (Aom .u64 (rest8+(Aom .u64 ((divisor1.els.getD (Apa (Aom .i64 (nn5-1))) D.nil).toInt)))) (2 ^ (min (Apa 32) (Apl .u64))))!=0) (.ret [D.int (Aom .u64 (guess7-1))])
 (Qa n m4 a0 divisor1 nn5 (Aom .u64 (guess7-1)) (Aom .u64 (rest8+(Aom .u64 ((divisor1.els.getD (Apa (Aom .i64 (nn5-1))) D.nil).toInt)))))))))
 (.ret [D.int guess7])))))))):=by kernel_rfl
theorem Ah2(n:Nat)(a0 divisor1:D):fA Yj n 337 [] [a0,divisor1] =
 kK (0≤(divisor1.els.length:Int)) (kK ((divisor1.els.length:Int)<(a0.els.length:Int)) (kK (0≤32) (kK (0≤Aom .i64 ((divisor1.els.length:Int)-1)) (kK (Aom .i64 ((divisor1.els.length:Int)-1)<(a0.els.length:Int)) (kK (0≤Aom .i64 ((divisor1.els.length:Int)-1)) (kK (Aom .i64 ((divisor1.els.length:Int)-1)<(divisor1.els.length:Int)) (.br (!((Aom .u64 ((divisor1.els.getD (Apa (Aom .i64 ((divisor1.els.length:Int)-1))) D.nil).toInt))==(0:Int))) (kK (0≤Aom .i64 ((divisor1.els.length:Int)-1)) (kK (Aom .i64 ((divisor1.els.length:Int)-1)<(divisor1.els.length:Int)) (.br (!((Aom .u64 ((divisor1.els.getD (Apa (Aom .i64 ((divisor1.els.length:Int)-1))) D.nil).toInt))==(0:Int))) (Qa n n a0 divisor1 (divisor1.els.length:Int) (Aom .u64 (Int.tdiv (Br .or .u64 (Aom .u64 ((Aom .u64 ((a0.els.getD (Apa (divisor1.els.length:Int)) D.nil).toInt))*2 ^ (min (Apa 32) (Apl .u64)))) (Aom .u64 ((a0.els.getD (Apa (Aom .i64 ((divisor1.els.length:Int)-1))) D.nil).toInt))) (Aom .u64 ((divisor1.els.getD (Apa (Aom .i64 ((divisor1.els.length:Int)-1))) D.nil).toInt)))) (Int.tmod (Br .or .u64 (Aom .u64 ((Aom .u64 ((a0.els.getD (Apa (divisor1.els.length:Int)) D.nil).toInt))*2 ^ (min (Apa 32) (Apl .u64)))) (Aom .u64 ((a0.els.getD (Apa (Aom .i64 ((divisor1.els.length:Int)-1))) D.nil).toInt))) (Aom .u64 ((divisor1.els.getD (Apa (Aom .i64 ((divisor1.els.length:Int)-1))) D.nil).toInt)))) .fail))) .fail))))))):=by kernel_rfl
def Yi:List (Nat×Orc):=[(4,⟨[(0,some 62),(1,none),(5,none),(6,none),(7,none)],[],[(.slot 5,1040,180)]⟩)]
noncomputable def Yh(n m4:Nat)(a0:D)(shift1:Int)(out5:List D)(above6 i7:Int):Tree :=
 lA (eA Yi n 340 [1,1,1,0,1,0,0]) (An Yi 4) m4 ⟨(.d 62 a0:: .i .i64 shift1::uA 3++(.row 1040:: .i .u64 above6:: .i .i64 i7::uA 34)),[(1040,.row 180 out5 true)],[1040],[],[]⟩
  (Ak 0 (Aq (jA Yi n 340 [1,1,1,1]) (rA 340 [62,3] [.tmp 4] [62])))
theorem VK(n m4:Nat)(a0:D)(shift1:Int)(out5:List D)(above6 i7:Int):Yh n (m4+1) a0 shift1 out5 above6 i7 =
 bK (0≤i7) (kK (0≤32) (kK (0≤i7) (kK (i7<(a0.els.length:Int)) (kK (0≤Aom .u64 shift1) (kK (0≤i7) (kK (i7<(out5.length:Int)) (kK (0≤i7) (kK (i7<(a0.els.length:Int)) (Yh n m4 a0 shift1 (out5.set (Apa i7) (D.int (Aom .u32 (Ap3 (Br .or .u64 (Aom .u64 (above6*2 ^ (min (Apa 32) (Apl .u64)))) (Aom .u64 ((a0.els.getD (Apa i7) D.nil).toInt))) (2 ^ (min (Apa (Aom .u64 shift1)) (Apl .u64))))))) (Aom .u64 ((a0.els.getD (Apa i7) D.nil).toInt)) (Aom .i64 (i7-1)))))))))))
 (cK 321 [D.sl out5] fun Y1 =>
 .ret [qA Y1]):=by kernel_rfl
theorem Ahz(n:Nat)(a0 shift1:D):fA Yi n 340 [] [a0,shift1] =
 kK (0≤(a0.els.length:Int)) (kK ((a0.els.length:Int)≤(a0.els.length:Int)) (kK ((a0.els.length:Int)≤Am) (Yh n n a0 shift1.toInt (Apc (Apa (a0.els.length:Int)) (D.int 0)) 0 (Aom .i64 ((a0.els.length:Int)-1))))):=by kernel_rfl
theorem Ad_(n:Nat)(x0:D):fA [] n 341 [] [x0] =
 bK (65536≤x0.toInt) (kK (0≤16) (bK (256≤(Ap3 x0.toInt (2 ^ (min (Apa 16) (Apl .u32))))) (kK (0≤8) (kK (0≤Aom .u8 (Ap3 (Ap3 x0.toInt (2 ^ (min (Apa 16) (Apl .u32)))) (2 ^ (min (Apa 8) (Apl .u32))))) (kK (Aom .u8 (Ap3 (Ap3 x0.toInt (2 ^ (min (Apa 16) (Apl .u32)))) (2 ^ (min (Apa 8) (Apl .u32))))<(Kx.size:Int)) (.ret [D.int (Aom .i64 ((Aom .i64 (16+8))+(Aom .i64 (((Kx.data.toList.getD (Apa (Aom .u8 (Ap3 (Ap3 x0.toInt (2 ^ (min (Apa 16) (Apl .u32)))) (2 ^ (min (Apa 8) (Apl .u32)))))) 0).toNat:Nat):Int))))]))))
 (kK (0≤Aom .u8 (Ap3 x0.toInt (2 ^ (min (Apa 16) (Apl .u32))))) (kK (Aom .u8 (Ap3 x0.toInt (2 ^ (min (Apa 16) (Apl .u32))))<(Kx.size:Int)) (.ret [D.int (Aom .i64 (16+(Aom .i64 (((Kx.data.toList.getD (Apa (Aom .u8 (Ap3 x0.toInt (2 ^ (min (Apa 16) (Apl .u32)))))) 0).toNat:Nat):Int))))])))))
 (bK (256≤x0.toInt) (kK (0≤8) (kK (0≤Aom .u8 (Ap3 x0.toInt (2 ^ (min (Apa 8) (Apl .u32))))) (kK (Aom .u8 (Ap3 x0.toInt (2 ^ (min (Apa 8) (Apl .u32))))<(Kx.size:Int)) (.ret [D.int (Aom .i64 ((Aom .i64 (0+8))+(Aom .i64 (((Kx.data.toList.getD (Apa (Aom .u8 (Ap3 x0.toInt (2 ^ (min (Apa 8) (Apl .u32)))))) 0).toNat:Nat):Int))))]))))
 (kK (0≤Aom .u8 x0.toInt) (kK (Aom .u8 x0.toInt<(Kx.size:Int)) (.ret [D.int (Aom .i64 (0+(Aom .i64 (((Kx.data.toList.getD (Apa (Aom .u8 x0.toInt)) 0).toNat:Nat):Int))))])))):=by kernel_rfl
def B:Nat:=4294967296
theorem A5:B=4294967296:=rfl
theorem B0:0<B:=by decide
theorem Bp(i:Nat):0<B ^ i:=Nat.pow_pos B0
theorem Fb(x:Ar):x.toNat<B:=x.isLt
def nv:List Ar→Nat
 | []=>0
 | x::l=>x.toNat+B*nv l
@[simp] theorem JF:nv []=0:=rfl
theorem H1(l m:List Ar):nv (l++m)=nv l+B ^ l.length*nv m:=by
 induction l with
 | nil=>simp
 | cons x l ih =>
  simp only[List.cons_append,nv,ih,Apg,Aqj,Nat.mul_add]
  rw[Ap9 (B ^ l.length) B,Nat.mul_assoc];omega
theorem Jl(l:List Ar)(x:Ar):nv (l++[x])=nv l+B ^ l.length*x.toNat:=by rw[H1];simp[nv]
theorem Cd(l:List Ar):nv l<B ^ l.length:=by
 induction l with
 | nil=>simp
 | cons x l ih =>
  simp only[nv,Apg,Aqj]
  have hx:=Fb x
  have:B*(nv l+1)≤B*B ^ l.length:=Nat.mul_le_mul_left _ ih
  rw[Ap9 (B ^ l.length) B]
  rw[Nat.mul_add]at this
  omega
theorem Yv(l:List Ar)(i:Nat):nv (l.drop i)=nv l / B ^ i:=by
 induction i generalizing l with
 | zero=>simp
 | succ i ih =>
  cases l with
  | nil=>simp
  | cons x l =>
   rw[List.drop_succ_cons,ih,Aqj,Ap9,← Aqd]
   simp only[nv]
   rw[Nat.add_mul_div_left _ _ B0,Nat.div_eq_of_lt (Fb x),Aqo]
theorem Eg(l:List Ar)(i:Nat)(hi:i<l.length):(l[i]).toNat=nv l / B ^ i % B:=by
 rw[← Yv,Ap1 hi,nv,Nat.add_mul_mod_self_left,Ap6 (Fb _)]
theorem JE(l:List Ar)(i:Nat)(hi:l.length≤i):nv l / B ^ i % B=0:=by
 rw[← Yv,List.drop_eq_nil_of_le hi];rfl
theorem Yw(k:Nat):nv (Apc k 0)=0:=by
 induction k with
 | zero=>rfl
 | succ k ih=>rw[List.replicate_succ,nv,ih];rfl
theorem S4{out:List Ar}{z i:Nat}{d:Ar}(hl:out.length=i)(h:nv out=z % B ^ i)(hd:d.toNat=z / B ^ i % B):nv (out++[d])=z % B ^ (i+1):=by
 rw[Jl,hl,h,hd,Nat.mod_pow_succ]
def lb(n:Nat):List Ar:=if h:n=0 then [] else Apw 32 n::lb (n / B)
termination_by n
decreasing_by exact Nat.div_lt_self (Nat.pos_of_ne_zero h) (by decide)
theorem C9:lb 0 = []:=by rw[lb];simp
theorem Py{n:Nat}(h:n≠0):lb n=Apw 32 n::lb (n / B):=by rw[lb,dif_neg h]
theorem Bv(n:Nat):nv (lb n)=n:=by
 induction n using Nat.strongRecOn with
 | _ n ih =>
  by_cases h:n=0
  · subst h;rw[C9];rfl
  · rw[Py h,nv,ih _ (Nat.div_lt_self (Nat.pos_of_ne_zero h) (by decide)),BitVec.toNat_ofNat]
    exact Nat.mod_add_div n B
theorem Bb{n k:Nat} : (lb n).length≤k↔n<B ^ k:=by
 induction k generalizing n with
 | zero =>
  by_cases h:n=0
  · subst h;simp[C9]
  · rw[Py h];simp;omega
 | succ k ih =>
  by_cases h:n=0
  · subst h;simp[C9,Bp]
  · rw[Py h,Apg,Nat.succ_le_succ_iff,ih,Aqk B0,Aqj]
theorem IK{n:Nat} : lb n = []↔n=0:=by
 constructor
 · intro h;have:=Bv n;rw[h]at this;simpa using this.symm
 · rintro rfl;exact C9
theorem Hb{n:Nat} : (lb n).length=0↔n=0:=by rw[Ap2,IK]
theorem TP{l:List Ar}(h : ∀ hne:l≠[],l.getLast hne≠0):lb (nv l)=l:=by
 induction l with
 | nil=>simp[C9]
 | cons x l ih =>
  have ihl:=ih (fun hne=>by have:=h (by simp);rwa[List.getLast_cons hne]at this)
  have hpos:nv (x::l)≠0:=by
   intro h0
   simp only[nv]at h0
   cases l with
   | nil =>
    have:=h (by simp)
    simp only[List.getLast_singleton]at this
    exact this (BitVec.eq_of_toNat_eq (by simp;omega))
   | cons y m =>
    have hv:nv (y::m)=0:=by
     rcases Nat.eq_zero_or_pos (nv (y::m)) with h | h
     · exact h
     · have:=Nat.mul_le_mul_left B h;rw[A5]at this h0;omega
    rw[hv,C9]at ihl
    cases ihl
  rw[Py hpos]
  have e2:nv (x::l) / B=nv l:=by simp only[nv];rw[Nat.add_mul_div_left _ _ B0,Nat.div_eq_of_lt (Fb x),Aqo]
  rw[e2,ihl]
  congr 1
  apply BitVec.eq_of_toNat_eq
  simp only[nv,BitVec.toNat_ofNat]
  show (x.toNat+B*nv l) % B=x.toNat
  rw[Nat.add_mul_mod_self_left,Ap6 (Fb x)]
theorem Xq{l:List Ar}{k:Nat}(hk:k≤l.length)(hz : ∀ i,k≤i→(hi:i<l.length)→l[i]=0)(ht : ∀ (hi:k-1<l.length),0<k→l[k-1]≠0):lb (nv l)=l.take k:=by
 have e:nv l=nv (l.take k):=by
  have:=H1 (l.take k) (l.drop k)
  rw[Ap5]at this
  have hd:l.drop k=Apc (l.length-k) 0:=by
   apply List.ext_getElem
   · simp
   · intro i h1 h2
     simp only[List.getElem_drop,List.getElem_replicate]
     exact hz _ (by omega) _
  rw[this,hd,Yw];simp
 rw[e]
 apply TP
 intro hne
 have hk0:0<k:=by
  rcases Nat.eq_zero_or_pos k with h | h
  · subst h;simp at hne
  · exact h
 rw[List.getLast_eq_getElem]
 simp only[List.getElem_take,Apr]
 have:=ht (by omega) hk0
 have he:min k l.length-1=k-1:=by omega
 simp only[he]
 exact this
theorem EH(x y i:Nat):(x+y) / B ^ i % B=(x / B ^ i % B+y / B ^ i % B+(x % B ^ i+y % B ^ i) / B ^ i) % B:=by
 have h1:(x+y) / B ^ i=x / B ^ i+y / B ^ i+(x % B ^ i+y % B ^ i) / B ^ i:=by
  have hx:=Nat.div_add_mod x (B ^ i)
  have hy:=Nat.div_add_mod y (B ^ i)
  conv=>lhs;rw[← hx,← hy]
  rw[show B ^ i*(x / B ^ i)+x % B ^ i+(B ^ i*(y / B ^ i)+y % B ^ i)=(x % B ^ i+y % B ^ i)+B ^ i*(x / B ^ i+y / B ^ i) by rw[Nat.mul_add];omega,Nat.add_mul_div_left _ _ (Bp i)]
  omega
 rw[h1]
 simp[Nat.add_mod]
theorem EG(x y i:Nat):(x % B ^ (i+1)+y % B ^ (i+1)) / B ^ (i+1)=(x / B ^ i % B+y / B ^ i % B+(x % B ^ i+y % B ^ i) / B ^ i) / B:=by
 rw[Nat.mod_pow_succ,Nat.mod_pow_succ,Aqj,← Aqd]
 congr 1
 rw[show x % B ^ i+B ^ i*(x / B ^ i % B)+(y % B ^ i+B ^ i*(y / B ^ i % B))=(x % B ^ i+y % B ^ i)+B ^ i*(x / B ^ i % B+y / B ^ i % B) by rw[Nat.mul_add];omega,Nat.add_mul_div_left _ _ (Bp i)]
 omega
theorem Xt{x y b:Nat}(h:x / b<y / b):x<y:=by
 rcases Aqn x y with h1 | h1
 · exact h1
 · have:=Nat.div_le_div_right (c:=b) h1;omega
theorem AbO{x y:Nat}(h:y≤x)(i:Nat) : ∃ zi c c',zi=(x-y) / B ^ i % B∧c=((x-y) % B ^ i+y % B ^ i) / B ^ i∧c'=((x-y) % B ^ (i+1)+y % B ^ (i+1)) / B ^ (i+1)∧c'≤1∧x / B ^ i % B+B*c'=zi+y / B ^ i % B+c:=by
 refine ⟨_,_,_,rfl,rfl,rfl,?_,?_⟩
 · have h1:=Ap4 (x-y) (Bp (i+1))
   have h2:=Ap4 y (Bp (i+1))
   have:((x-y) % B ^ (i+1)+y % B ^ (i+1)) / B ^ (i+1)<2:=by rw[Aqk (Bp _)];omega
   omega
 · have h1:=EH (x-y) y i
   rw[Nat.sub_add_cancel h]at h1
   rw[EG,h1]
   exact Nat.mod_add_div _ _
theorem AnW(x b i:Nat):(2*x+b) / B ^ i % B=(2*(x / B ^ i % B)+(2*(x % B ^ i)+b) / B ^ i) % B:=by
 have h1:(2*x+b) / B ^ i=2*(x / B ^ i)+(2*(x % B ^ i)+b) / B ^ i:=by
  have hx:=Nat.div_add_mod x (B ^ i)
  conv=>lhs;rw[← hx]
  rw[show 2*(B ^ i*(x / B ^ i)+x % B ^ i)+b=(2*(x % B ^ i)+b)+B ^ i*(2*(x / B ^ i)) by rw[Nat.mul_add,Nat.mul_left_comm];omega,Nat.add_mul_div_left _ _ (Bp i)]
  omega
 rw[h1]
 simp[Nat.add_mod,Nat.mul_mod]
theorem AnV(x b i:Nat):(2*(x % B ^ (i+1))+b) / B ^ (i+1)=(2*(x / B ^ i % B)+(2*(x % B ^ i)+b) / B ^ i) / B:=by
 rw[Nat.mod_pow_succ,Aqj,← Aqd]
 congr 1
 rw[show 2*(x % B ^ i+B ^ i*(x / B ^ i % B))+b=(2*(x % B ^ i)+b)+B ^ i*(2*(x / B ^ i % B)) by rw[Nat.mul_add,Nat.mul_left_comm];omega,Nat.add_mul_div_left _ _ (Bp i)]
 omega
theorem NG(i:Nat):B ^ i=2 ^ (32*i):=by rw[Nat.pow_mul];rfl
theorem Ad6(x i:Nat):x / B ^ (i / 32) % B / 2 ^ (i % 32) % 2=x / 2 ^ i % 2:=by
 have h1:=Nat.toNat_testBit (x / B ^ (i / 32) % B) (i % 32)
 have h2:=Nat.toNat_testBit x i
 rw[← h1,← h2]
 congr 1
 rw[show B=2 ^ 32 from rfl,Nat.testBit_mod_two_pow,← Nat.pow_mul,Nat.testBit_div_two_pow]
 have:i % 32<32:=Ap4 _ (by decide)
 simp only[this,decide_true,Bool.true_and]
 congr 1
 omega
theorem AgO{x y:Nat}(h:y≠0)(h2:x % y≠0):2*(y % (x % y))<y:=by
 have h1:=Ap4 x (Nat.pos_of_ne_zero h)
 rcases Aqn y (2*(x % y)) with h3 | h3
 · have:y % (x % y)=y-x % y:=by
    rw[Nat.mod_eq_sub_mod (by omega),Ap6 (by omega)]
   omega
 · have:=Ap4 y (Nat.pos_of_ne_zero h2)
   omega
theorem Ew{t:Nat}(h:t<B):D.int (t:Int)=dB (Apw 32 t):=by
 show _=D.int ((Apw 32 t).toNat:Int)
 rw[show (Apw 32 t).toNat=t by rw[BitVec.toNat_ofNat];exact Ap6 h]
theorem ofNat_lt{t:Nat}(h:t<B):(Apw 32 t).toNat=t:=by rw[BitVec.toNat_ofNat];exact Ap6 h
theorem AcC(k:Nat)(h:k<9223372036854775807):Aom .i64 (((k+1:Nat):Int)-1)=(k:Int):=by rw[Ax (by omega) (by omega)];omega
theorem V5(l:List Ar)(k:Nat):D.sl ((l.map dB).take k)=dL (l.take k):=by rw[dL,List.map_take]
theorem Of(l:List Ar)(hl:l.length≤1000000):Sp 265 [dL l] [dL (lb (nv l))]:=by
 refine Af (l.length+1) (Akl _ _) ?_
 have:=Ji (P:=Tryz.prog) (md:=md) (fun m k (_:Unit)=>Z8 (l.length+1) m (dL l) (k:Int)) (fun _ _=>[dL (lb (nv l))]) (fun k _=>k≤l.length∧∀ i,k≤i→(hi:i<l.length)→l[i]=0)
  (fun m s ⟨h1,h2⟩=>by
   simp only[ZH,B3,Apd,Apr]
   refine At (Ad (Ad (A0 (by simp[Am]) (Ac ?_))))
   rw[Xq (k:=0) (by omega) h2 (fun _ h=>by omega),V5];rfl)
  (fun m k s ⟨h1,h2⟩ ih=>by
   have hk:l[k]? = some l[k]:=Apb _
   simp only[ZH,B3,Apd,Apr,AcC k (by omega),Apj,Aw hk,En,Cn]
   refine Ad (Ad (Ad (Ae (fun h=> ?_) (fun h=> ?_))))
   · refine ih () ⟨by omega,fun i hi hlt=> ?_⟩
     by_cases he:i=k
     · subst he;exact BitVec.eq_of_toNat_eq (by simp;omega)
     · exact h2 i (by omega) hlt
   · refine Ad (Ad (A0 (by unfold Am;omega) (Ac ?_)))
     rw[Xq (k:=k+1) (by omega) h2 (fun _ _ hc=>h (by have hc':l[k]=0:=hc;rw[hc'];rfl)),V5])
  (l.length+1) l.length () (by omega) ⟨Apo _,fun i h1 h2=>by omega⟩
 simpa using this
theorem Ko(l:List Ar)(i:Nat)(hi:i<9223372036854775807):Sp 311 [dL l,.int i] [.int ((nv l / B ^ i % B:Nat):Int)]:=by
 refine Af 0 (Akp _ _ _) ?_
 simp only[B3,Apd,Ao,Apj]
 refine Ae (fun h=> ?_) (fun h=> ?_)
 · have hk:l[i]? = some (l[i]'(by omega)):=Apb _
   refine Ad (Ad (Ac ?_))
   have:=Fb l[i]
   rw[Aw hk,En,Bt (by omega) (by rw[A5]at this;omega),Eg]
 · refine Ac ?_
   rw[JE _ _ (by omega)];rfl
theorem Tj(a b:List Ar):Sp 310 [dL a,dL b] [.int ((max a.length b.length:Nat):Int)]:=by
 refine Af 0 (Akq _ _ _) ?_
 simp only[B3,Apd]
 refine Ae (fun h=>Ac ?_) (fun h=>Ac ?_)
 · rw[Nat.max_eq_left (by omega)]
 · rw[Nat.max_eq_right (by omega)]
def D4(a b:Nat):Int:=if a<b then -1 else if a=b then 0 else 1
theorem ZF(a b:List Ar)(ha:a.length≤1000000)(hb:b.length≤1000000):Sp 320 [dL a,dL b] [.int (D4 (nv a) (nv b))]:=by
 refine Af (max a.length b.length+1) (Akh _ _ _) (Aa (Tj a b) ?_)
 simp only[Ah,Ao]
 have key:=Ji (P:=Tryz.prog) (md:=md) (fun m k (_:Unit)=>Z4 (max a.length b.length+1) m (dL a) (dL b) ((k:Int)-1)) (fun _ _=>[.int (D4 (nv a) (nv b))]) (fun k _=>k≤1000000∧nv a / B ^ k=nv b / B ^ k)
  (fun m s ⟨_,h⟩=>by
   simp only[ZE]
   refine At (Ac ?_)
   simp at h
   simp[D4,h])
  (fun m k s ⟨h0,h⟩ ih=>by
   simp only[ZE,show ((k+1:Nat):Int)-1=(k:Int) by omega]
   have ea:=Nat.div_add_mod (nv a / B ^ k) B
   have eb:=Nat.div_add_mod (nv b / B ^ k) B
   rw[Aqd,← Aqj]at ea eb
   rw[h]at ea
   generalize B*(nv b / B ^ (k+1))=q at ea eb
   refine Ad (Aa (Ko a k (by omega)) (Aa (Ko b k (by omega)) ?_))
   simp only[Ah,Ao]
   refine Ae (fun h'=>Ac ?_) (fun h'=>Aa (Ko a k (by omega)) (Aa (Ko b k (by omega)) ?_))
   · have hlt:=Xt (show nv a / B ^ k<nv b / B ^ k by omega)
     simp only[D4];rw[if_pos hlt]
   · simp only[Ah,Ao]
     refine Ae (fun h2=>Ac ?_) (fun h2=> ?_)
     · have hlt:=Xt (show nv b / B ^ k<nv a / B ^ k by omega)
       simp only[D4];rw[if_neg (by omega),if_neg (by omega)]
     · rw[Ax (by omega) (by omega)]
       exact ih () ⟨by omega,by omega⟩)
  (max a.length b.length+1) (max a.length b.length) () (by omega) ⟨by omega,by
   rw[Nat.div_eq_of_lt,Nat.div_eq_of_lt]
   · exact Aqb (Cd b) (Nat.pow_le_pow_right B0 (Nat.le_max_right _ _))
   · exact Aqb (Cd a) (Nat.pow_le_pow_right B0 (Nat.le_max_left _ _))⟩
 rw[Ax (by omega) (by omega)]
 exact key
theorem ZC(a b:List Ar)(ha:a.length≤100000)(hb:b.length≤100000):Sp 268 [dL a,dL b] [dL (lb (nv a+nv b))]:=by
 refine Af (max a.length b.length+3) (Ake _ _ _) ?_
 have hmx:max a.length b.length≤100000:=by omega
 have hlt:nv a+nv b<B ^ (max a.length b.length+1):=by
  have h1:nv a<B ^ max a.length b.length:=Aqb (Cd a) (Nat.pow_le_pow_right B0 (Nat.le_max_left _ _))
  have h2:nv b<B ^ max a.length b.length:=Aqb (Cd b) (Nat.pow_le_pow_right B0 (Nat.le_max_right _ _))
  rw[Aqj,A5];rw[A5]at h1 h2;omega
 have key:=Dl (max a.length b.length+1) (fun m k (s:List Ar×Nat)=>Z0 (max a.length b.length+3) m (dL a) (dL b) (s.1.map dB) (s.2:Int) (k:Int)) (fun _ _=>[dL (lb (nv a+nv b))])
  (fun k s=>s.1.length=k∧nv s.1=(nv a+nv b) % B ^ k∧s.2=(nv a % B ^ k+nv b % B ^ k) / B ^ k)
  (fun m s ⟨h1,h2,h3⟩=>by
   simp only[ZB]
   refine Aa (Tj a b) ?_
   simp only[Ah,Ao]
   refine At (Aa (Of s.1 (by omega)) (Ac ?_))
   rw[h2,Ap6 hlt];rfl)
  (fun m k s hk ⟨h1,h2,h3⟩ ih=>by
   simp only[ZB]
   refine Aa (Tj a b) ?_
   simp only[Ah,Ao]
   refine Ad (Aa (Ko a k (by omega)) (Aa (Ko b k (by omega)) ?_))
   simp only[Ah,Ao]
   have hd:=EH (nv a) (nv b) k
   have hc:=EG (nv a) (nv b) k
   have la:=Ap4 (nv a / B ^ k) B0
   have lb':=Ap4 (nv b / B ^ k) B0
   have lc:s.2≤1:=by
    rw[h3]
    have r1:=Ap4 (nv a) (Bp k)
    have r2:=Ap4 (nv b) (Bp k)
    have:(nv a % B ^ k+nv b % B ^ k) / B ^ k<2:=by rw[Aqk (Bp k)];omega
    omega
   rw[← h3]at hd hc
   generalize nv a / B ^ k % B=x at *
   generalize nv b / B ^ k % B=y at *
   have hB:=A5
   rw[show (x+y+s.2) / B=(x+y+s.2) / 4294967296 from rfl]at hc
   have t1:Aom .u64 (Aom .u64 ((x:Int)+(y:Int))+(s.2:Int))=((x+y+s.2:Nat):Int):=by
    rw[Bt (x:=(x:Int)+y) (by omega) (by omega),Bt (by omega) (by omega)];omega
   rw[t1,Int.tmod_eq_emod_of_nonneg (by omega),Int.tdiv_eq_ediv_of_nonneg (by omega),show (((x+y+s.2:Nat):Int) % 4294967296)=(((x+y+s.2) % B:Nat):Int) by rw[A5];omega,
    show (((x+y+s.2:Nat):Int) / 4294967296)=(((x+y+s.2) / 4294967296:Nat):Int) by omega]
   have hm:=Ap4 (x+y+s.2) B0
   rw[Ft (x:=(((x+y+s.2) % B:Nat):Int)) (by omega) (by generalize (x+y+s.2) % B=z at *; omega),Bt (x:=(((x+y+s.2) / 4294967296:Nat):Int)) (by omega) (by omega),Fh (by omega),Ew hm]
   simp only[Apd,List.length_singleton]
   refine Bo (by decide) (A0 (by unfold Am;omega) (Bo (by decide) ?_))
   have:=ih (s.1++[Apw 32 ((x+y+s.2) % B)],(x+y+s.2) / 4294967296) ⟨by simp[h1],S4 h1 h2 (by rw[ofNat_lt hm,hd]),by rw[hc]⟩
   simpa using this)
  (max a.length b.length+3) 0 ([],0) (by omega) (by omega) ⟨rfl,by simp[Nat.mod_one],by simp[Nat.mod_one]⟩
 exact key
theorem Anh{x y zi c c':Nat}(hx:x<B)(hy:y<B)(hz:zi<B)(hc:c≤1)(hc':c'≤1)(e:x+B*c'=zi+y+c) :
  Aom .u32 (Int.tmod (Aom .u64 (Aom .u64 (Aom .u64 (4294967296+(x:Int))-(y:Int))-(c:Int))) 4294967296)=(zi:Int) ∧
  Aom .u64 (1-Aom .u64 (Int.tdiv (Aom .u64 (Aom .u64 (Aom .u64 (4294967296+(x:Int))-(y:Int))-(c:Int))) 4294967296))=(c':Int):=by
 rw[A5]at hx hy hz e
 have t1:Aom .u64 (Aom .u64 (Aom .u64 (4294967296+(x:Int))-(y:Int))-(c:Int))=(zi:Int)+4294967296*(1-(c':Int)):=by
  rw[Bt (x:=4294967296+(x:Int)) (by omega) (by omega),Bt (x:=4294967296+(x:Int)-y) (by omega) (by omega),Bt (by omega) (by omega)];omega
 rw[t1,Int.tmod_eq_emod_of_nonneg (by omega),Int.tdiv_eq_ediv_of_nonneg (by omega),show ((zi:Int)+4294967296*(1-(c':Int))) % 4294967296=(zi:Int) by omega,show ((zi:Int)+4294967296*(1-(c':Int))) / 4294967296=1-(c':Int) by omega]
 rw[Ft (x:=(zi:Int)) (by omega) (by omega),Bt (x:=1-(c':Int)) (by omega) (by omega),show (1:Int)-(1-(c':Int))=(c':Int) by omega,Bt (x:=(c':Int)) (by omega) (by omega)]
 exact ⟨rfl,rfl⟩
theorem KU(a b:List Ar)(ha:a.length≤100000)(hb:b.length≤100000):Sp 297 [dL a,dL b] [dL (lb (nv a-nv b)),.bool (decide (nv b≤nv a))]:=by
 refine Af (max a.length b.length+3) (Ako _ _ _) (Aa (ZF a b (by omega) (by omega)) ?_)
 have hmx:max a.length b.length≤100000:=by omega
 simp only[Ah,Ao]
 refine Ae (fun h=>Ac ?_) (fun h=> ?_)
 · have hlt:nv a<nv b:=by
    unfold D4 at h
    rcases Aqn (nv a) (nv b) with h1 | h1
    · exact h1
    · rw[if_neg (by omega)]at h;split at h <;> omega
   rw[Nat.sub_eq_zero_of_le (by omega),C9,decide_eq_false (by omega)];rfl
 · have hge:nv b≤nv a:=by
    unfold D4 at h
    rcases Aqn (nv a) (nv b) with h1 | h1
    · rw[if_pos h1]at h;omega
    · exact h1
   rw[decide_eq_true hge]
   have hlt:nv a-nv b<B ^ max a.length b.length:=by
    have h1:nv a<B ^ max a.length b.length:=Aqb (Cd a) (Nat.pow_le_pow_right B0 (Nat.le_max_left _ _))
    omega
   have key:=Dl (max a.length b.length) (fun m k (s:List Ar×Nat)=>AB (max a.length b.length+3) m (dL a) (dL b) (s.1.map dB) (s.2:Int) (k:Int)) (fun _ _=>[dL (lb (nv a-nv b)),.bool true])
    (fun k s=>s.1.length=k∧nv s.1=(nv a-nv b) % B ^ k∧s.2=((nv a-nv b) % B ^ k+nv b % B ^ k) / B ^ k)
    (fun m s ⟨h1,h2,h3⟩=>by
     simp only[ZJ]
     refine Aa (Tj a b) ?_
     simp only[Ah,Ao]
     refine At (Aa (Of s.1 (by omega)) (Ac ?_))
     rw[h2,Ap6 hlt];rfl)
    (fun m k s hk ⟨h1,h2,h3⟩ ih=>by
     simp only[ZJ]
     refine Aa (Tj a b) ?_
     simp only[Ah,Ao]
     refine Ad (Aa (Ko a k (by omega)) (Aa (Ko b k (by omega)) ?_))
     simp only[Ah,Ao]
     obtain ⟨zi,c,c',e1,e2,e3,e4,e5⟩:=AbO hge k
     have la:=Ap4 (nv a / B ^ k) B0
     have lb':=Ap4 (nv b / B ^ k) B0
     have lz:=Ap4 ((nv a-nv b) / B ^ k) B0
     rw[← e1]at lz
     rw[← e2]at h3
     have hB:=A5
     have lc:c≤1:=by
      rw[e2]
      have r1:=Ap4 (nv a-nv b) (Bp k)
      have r2:=Ap4 (nv b) (Bp k)
      have:((nv a-nv b) % B ^ k+nv b % B ^ k) / B ^ k<2:=by rw[Aqk (Bp k)];omega
      omega
     rw[h3]
     generalize nv a / B ^ k % B=x at *
     generalize nv b / B ^ k % B=y at *
     obtain ⟨t1,t2⟩:=Anh la lb' lz lc e4 e5
     rw[t1,t2,Fh (by omega),Ew lz]
     simp only[Apd,List.length_singleton]
     refine Bo (by decide) (A0 (by unfold Am;omega) (Bo (by decide) ?_))
     have:=ih (s.1++[Apw 32 zi],c') ⟨by simp[h1],S4 h1 h2 (by rw[ofNat_lt lz,e1]),e3⟩
     simpa using this)
    (max a.length b.length+3) 0 ([],0) (by omega) (by omega) ⟨rfl,by simp[Nat.mod_one],by simp[Nat.mod_one]⟩
   exact key
theorem KV(a:List Ar)(b:Nat)(hb:b≤1)(ha:a.length≤100000):Sp 295 [dL a,.int b] [dL (lb (2*nv a+b))]:=by
 refine Af (a.length+3) (Akr _ _ _) ?_
 have hlt:2*nv a+b<B ^ (a.length+1):=by
  have:=Cd a
  rw[Aqj,A5];rw[A5]at this;omega
 have key:=Dl (a.length+1) (fun m k (s:List Ar×Nat)=>AD (a.length+3) m (dL a) (s.1.map dB) (s.2:Int) (k:Int)) (fun _ _=>[dL (lb (2*nv a+b))])
  (fun k s=>s.1.length=k∧nv s.1=(2*nv a+b) % B ^ k∧s.2=(2*(nv a % B ^ k)+b) / B ^ k)
  (fun m s ⟨h1,h2,h3⟩=>by
   simp only[ZK,B3,Apd]
   refine At (Aa (Of s.1 (by omega)) (Ac ?_))
   rw[h2,Ap6 hlt];rfl)
  (fun m k s hk ⟨h1,h2,h3⟩ ih=>by
   simp only[ZK,B3,Apd]
   refine Ad (Aa (Ko a k (by omega)) ?_)
   simp only[Ah,Ao]
   have hd:=AnW (nv a) b k
   have hc:=AnV (nv a) b k
   have la:=Ap4 (nv a / B ^ k) B0
   have hB:=A5
   have lc:s.2≤1:=by
    rw[h3]
    have r1:=Ap4 (nv a) (Bp k)
    have:(2*(nv a % B ^ k)+b) / B ^ k<2:=by rw[Aqk (Bp k)];omega
    omega
   rw[← h3]at hd hc
   generalize nv a / B ^ k % B=x at *
   rw[show (2*x+s.2) / B=(2*x+s.2) / 4294967296 from rfl]at hc
   have t1:Aom .u64 (Aom .u64 (2*(x:Int))+(s.2:Int))=((2*x+s.2:Nat):Int):=by
    rw[Bt (x:=2*(x:Int)) (by omega) (by omega),Bt (by omega) (by omega)];omega
   rw[t1,Int.tmod_eq_emod_of_nonneg (by omega),Int.tdiv_eq_ediv_of_nonneg (by omega),show (((2*x+s.2:Nat):Int) % 4294967296)=(((2*x+s.2) % B:Nat):Int) by rw[A5];omega,
    show (((2*x+s.2:Nat):Int) / 4294967296)=(((2*x+s.2) / 4294967296:Nat):Int) by omega]
   have hm:=Ap4 (2*x+s.2) B0
   rw[Ft (x:=(((2*x+s.2) % B:Nat):Int)) (by omega) (by generalize (2*x+s.2) % B=z at *; omega),Bt (x:=(((2*x+s.2) / 4294967296:Nat):Int)) (by omega) (by omega),Fh (by omega),Ew hm]
   simp only[List.length_singleton]
   refine Bo (by decide) (A0 (by unfold Am;omega) (Bo (by decide) ?_))
   have:=ih (s.1++[Apw 32 ((2*x+s.2) % B)],(2*x+s.2) / 4294967296) ⟨by simp[h1],S4 h1 h2 (by rw[ofNat_lt hm,hd]),by rw[hc]⟩
   simpa using this)
  (a.length+3) 0 ([],b) (by omega) (by omega) ⟨rfl,by simp[Nat.mod_one],by simp[Nat.mod_one]⟩
 simp only[Ao]
 rw[Bt (by omega) (by omega)]
 exact key
theorem Akf(a:List Ar)(i:Nat)(hi:i<9223372036854775807):Sp 296 [dL a,.int i] [.int ((nv a / 2 ^ i % 2:Nat):Int)]:=by
 refine Af 40 (Akg _ _ _) (Bo (by decide) ?_)
 simp only[Ao]
 rw[Int.tdiv_eq_ediv_of_nonneg (by omega),show (i:Int) / 32=((i / 32:Nat):Int) by omega,Ax (by omega) (by omega)]
 refine Aa (Ko a (i / 32) (by omega)) ?_
 simp only[Ah,Ao]
 have hm:Int.tmod (i:Int) 32=((i % 32:Nat):Int):=by rw[Int.tmod_eq_emod_of_nonneg (by omega)];omega
 have key:=Dl (i % 32) (fun m k (v:Nat)=>Z2 40 m (i:Int) (v:Int) (k:Int)) (fun k v=>[.int ((v / 2 ^ (i % 32-k) % 2:Nat):Int)]) (fun _ v=>v<4294967296)
  (fun m v hv=>by
   simp only[ZD,hm]
   refine Bo (by decide) (At (Bo (by decide) (Ac ?_)))
   rw[Int.tmod_eq_emod_of_nonneg (by omega),show (v:Int) % 2=((v % 2:Nat):Int) by omega,Ft (by omega) (by omega)]
   simp)
  (fun m k v hk hv ih=>by
   simp only[ZD,hm]
   refine Bo (by decide) (Ad (Bo (by decide) ?_))
   rw[Fh (by omega),Int.tdiv_eq_ediv_of_nonneg (by omega),show (v:Int) / 2=((v / 2:Nat):Int) by omega,Bt (by omega) (by omega)]
   have:=ih (v / 2) (by omega)
   rw[show i % 32-k=(i % 32-(k+1))+1 by omega,Aqj,Ap9,← Aqd]
   exact this)
  40 0 (nv a / B ^ (i / 32) % B) (by omega) (by omega) (Ap4 _ B0)
 rw[Nat.sub_zero,Ad6]at key
 exact key
theorem KR(a b:List Ar)(ha:a.length≤10000)(hb:b.length≤10000):Sp 244 [dL a,dL b] [dL (lb (nv a / nv b)),dL (lb (if nv b=0 then 0 else nv a % nv b)),.bool (decide (nv b≠0))]:=by
 refine Af (32*a.length+1) (Aki _ _ _) (Aa (Of b (by omega)) ?_)
 simp only[Ah,B3,Apd,Cn]
 refine Ae (fun h=>Ac ?_) (fun h=> ?_)
 · have h0:nv b=0:=Hb.1 (by omega)
   simp[h0,C9,dL]
 · have h0:nv b≠0:=fun hh=>h (by rw[hh,C9];rfl)
   rw[decide_eq_true h0,if_neg h0]
   have key:=Ji (P:=Tryz.prog) (md:=md) (fun m k (s:Nat×Nat)=>Ti (32*a.length+1) m (dL a) (dL b) (dL (lb s.1)) (dL (lb s.2)) ((k:Int)-1)) (fun _ _=>[dL (lb (nv a / nv b)),dL (lb (nv a % nv b)),.bool true])
    (fun k s=>k≤320000∧nv a / 2 ^ k=nv b*s.1+s.2∧s.2<nv b)
    (fun m s ⟨_,h1,h2⟩=>by
     simp only[ZG]
     refine At (Ac ?_)
     simp only[Nat.pow_zero,Nat.div_one]at h1
     rw[h1,Nat.mul_add_div (Nat.pos_of_ne_zero h0),Nat.div_eq_of_lt h2,Nat.mul_add_mod,Ap6 h2];simp)
    (fun m k s ⟨hk,h1,h2⟩ ih=>by
     simp only[ZG,show ((k+1:Nat):Int)-1=(k:Int) by omega]
     have hr:(lb s.2).length≤b.length:=Bb.2 (Nat.lt_trans h2 (Cd b))
     have hq:(lb s.1).length≤a.length:=by
       refine Bb.2 (Nat.lt_of_le_of_lt ?_ (Cd a))
       have h3:nv a / 2 ^ (k+1)≤nv a:=Nat.div_le_self _ _
       have h4:=Nat.le_mul_of_pos_left s.1 (Nat.pos_of_ne_zero h0)
       omega
     have hbit:nv a / 2 ^ k % 2≤1:=by omega
     have hdec:nv a / 2 ^ k=2*(nv a / 2 ^ (k+1))+nv a / 2 ^ k % 2:=by
       rw[Aqj,← Aqd];omega
     generalize hbt:nv a / 2 ^ k % 2=bt at *
     have hlen2:(lb (2*s.2+bt)).length≤b.length+1:=by
       refine Bb.2 ?_
       have:=Cd b
       rw[Aqj,A5];rw[A5]at this;omega
     have sp1:=Akf a k (by omega)
     rw[hbt]at sp1
     refine Ad (Aa sp1 ?_)
     simp only[Ah,Ao]
     refine Aa (KV (lb s.2) bt hbit (by omega)) ?_
     simp only[Ah,Bv]
     refine Aa (KU (lb (2*s.2+bt)) b (by omega) (by omega)) ?_
     simp only[Ah,C1,Ba,Bv]
     refine Ae (fun h3=> ?_) (fun h3=> ?_)
     · refine Aa (KV (lb s.1) 1 (by omega) (by omega)) ?_
       simp only[Ah,Bv]
       rw[Ax (by omega) (by omega)]
       refine ih (2*s.1+1,2*s.2+bt-nv b) ⟨by omega,?_,by simp only;omega⟩
       simp only
       rw[hdec,h1,Nat.mul_add,Nat.mul_add,Nat.mul_left_comm];omega
     · refine Aa (KV (lb s.1) 0 (by omega) (by omega)) ?_
       simp only[Ah,Bv]
       rw[Ax (by omega) (by omega)]
       refine ih (2*s.1+0,2*s.2+bt) ⟨by omega,?_,by simp only;omega⟩
       simp only
       rw[hdec,h1,Nat.mul_add,Nat.add_zero,Nat.mul_left_comm];omega)
    (32*a.length+1) (32*a.length) (0,0) (by omega) ⟨by omega,by
     rw[← NG,Nat.div_eq_of_lt (Cd a)];rfl,Nat.pos_of_ne_zero h0⟩
   rw[Ax (x:=32*(a.length:Int)) (by omega) (by omega),Ax (by omega) (by omega)]
   simp only[C9]at key
   exact key
theorem Akj(a b:List Ar)(ha:a.length≤1000)(hb:b.length≤1000):Sp 243 [dL a,dL b] [dL (lb (Nat.gcd (nv a) (nv b)))]:=by
 obtain ⟨K,hK⟩ : ∃ K,K=1000:=⟨_,rfl⟩
 obtain ⟨J,hJ⟩ : ∃ J,J=32000:=⟨_,rfl⟩
 refine Af 100001 (Akk _ _ _) (Aa (Of a (by omega)) (Aa (Of b (by omega)) ?_))
 simp only[Ah]
 have key : ∀ (j k m x y:Nat),(lb x).length≤K→(lb y).length≤K→y<2 ^ j→k+2*j+2≤99000→2*j+1<m→Tw (Oe 100001 m (dL (lb x)) (dL (lb y)) (k:Int)) [dL (lb (Nat.gcd x y))]:=by
  intro j
  induction j with
  | zero =>
   intro k m x y _ _ hy hk hm
   obtain ⟨m,rfl⟩ : ∃ m',m=m'+1:=⟨m-1,by omega⟩
   have:y=0:=by simpa using hy
   subst this
   simp only[KT,B3,Apd,C9,Apv]
   refine Ad (At (Ac ?_))
   rw[Nat.gcd_zero_right]
  | succ j ih =>
   intro k m x y hx hy hlt hk hm
   have stop : ∀ (k m x:Nat),k<100000→0<m→Tw (Oe 100001 m (dL (lb x)) (dL (lb 0)) (k:Int)) [dL (lb (Nat.gcd x 0))]:=by
     intro k m x hk hm
     obtain ⟨m,rfl⟩ : ∃ m',m=m'+1:=⟨m-1,by omega⟩
     simp only[KT,B3,Apd,C9,Apv]
     refine Ad (At (Ac ?_))
     rw[Nat.gcd_zero_right]
   have step : ∀ (k m x y:Nat),k<100000→(lb x).length≤K→(lb y).length≤K→y≠0→Tw (Oe 100001 m (dL (lb y)) (dL (lb (x % y))) ((k+1:Nat):Int)) [dL (lb (Nat.gcd y (x % y)))]→Tw (Oe 100001 (m+1) (dL (lb x)) (dL (lb y)) (k:Int)) [dL (lb (Nat.gcd x y))]:=by
     intro k m x y hk hx hy h0 hw
     simp only[Tw,KT,B3,Apd]
     have hne:(lb y).length≠0:=fun hh=>h0 (Hb.1 hh)
     have sp:=KR (lb x) (lb y) (by omega) (by omega)
     rw[Bv,Bv,if_neg h0]at sp
     refine Ad (Ad (Aa sp ?_))
     simp only[C1]
     rw[Fh (by omega),Nat.gcd_comm x y,Nat.gcd_rec,Nat.gcd_comm]
     exact hw
   by_cases h0:y=0
   · subst h0;exact stop k m x (by omega) (by omega)
   · obtain ⟨m,rfl⟩ : ∃ m',m=m'+2:=⟨m-2,by omega⟩
     have hl1:(lb (x % y)).length≤K:=Bb.2 (Nat.lt_of_le_of_lt (Nat.le_of_lt (Ap4 x (Nat.pos_of_ne_zero h0))) (Bb.1 hy))
     refine step k (m+1) x y (by omega) hx hy h0 ?_
     by_cases h1:x % y=0
     · rw[h1];exact stop (k+1) (m+1) y (by omega) (by omega)
     · refine step (k+1) m y (x % y) (by omega) hy hl1 h1 ?_
       have hh:=AgO h0 h1
       refine ih (k+1+1) m (x % y) (y % (x % y)) hl1 (Bb.2 (Nat.lt_trans (Ap4 y (Nat.pos_of_ne_zero h1)) (Bb.1 hl1))) ?_ (by omega) (by omega)
       rw[Aqj]at hlt;omega
 have h1:(lb (nv a)).length≤K:=Nat.le_trans (Bb.2 (Cd a)) (by omega)
 have h2:(lb (nv b)).length≤K:=Nat.le_trans (Bb.2 (Cd b)) (by omega)
 have hlt:nv b<2 ^ J:=by
  refine Aqb (Cd b) ?_
  rw[NG]
  exact Nat.pow_le_pow_right (by decide) (by omega)
 exact key J 0 100001 _ _ h1 h2 hlt (by omega) (by omega)
theorem Wd{α:Type} [DecidableEq α] {P:Program}{md:Nat→FMode}(f:α→D)(hf : ∀ x y,(f x).toInt=(f y).toInt→x=y)(a b:List α)(hlen:a.length=b.length)(hbig:a.length≤9223372036854775807)(L:Nat→Int→Tree)
  (hL : ∀ m i,L (m+1) i = .br (decide (i<((a.map f).length:Int))) (.br (decide (0≤i)) (.br (decide (i<((a.map f).length:Int))) (.br (decide (0≤i)) (.br (decide (i<((b.map f).length:Int)))
   (.br ((((a.map f).getD (Apa i) D.nil).toInt)!=(((b.map f).getD (Apa i) D.nil).toInt)) (.ret [D.bool false]) (L m (Aom .i64 (i+1)))) .fail) .fail) .fail) .fail) (.ret [D.bool true])) :
  (L (a.length+1) 0).wp P md (fun zs=>zs = [.bool (decide (a=b))]):=by
 have key:=Xs (P:=P) (md:=md) a.length (fun m k (_:Unit)=>L m (k:Int)) (fun _ _=>[.bool (decide (a=b))]) (fun k _=>a.take k=b.take k)
  (fun m s h=>by
   simp only[hL,Apd]
   refine At (Ac ?_)
   rw[Ap_ (Apo _),Ap_ (by omega)]at h
   rw[decide_eq_true h])
  (fun m k s hk h ih=>by
   have ha:a[k]? = some a[k]:=Apb _
   have hb:b[k]? = some (b[k]'(by omega)):=Apb _
   simp only[hL,Apd,Apj,Aw ha,Aw hb,Dg]
   refine Ad (Ad (Ad (Ad (Ad (Ae (fun hne=>Ac ?_) (fun heq=> ?_))))))
   · rw[decide_eq_false]
     rintro rfl
     exact hne rfl
   · rw[Fh (by omega)]
     refine ih () ?_
     have:a[k]=b[k]:=hf _ _ (Apm.1 heq)
     rw[List.take_succ_eq_append_getElem hk,List.take_succ_eq_append_getElem (by omega),h,this])
  (a.length+1) 0 () (by omega) (by omega) (by simp)
 exact key
theorem PY{k:Nat}(x y:BitVec k)(h:(dB x).toInt=(dB y).toInt):x=y:=BitVec.eq_of_toNat_eq (Int.ofNat.inj h)
theorem QH(x y:Int)(h:(D.int x).toInt=(D.int y).toInt):x=y:=h
theorem ZI(a b:List Ar)(ha:a.length≤9223372036854775807):Sp 211 [dL a,dL b] [.bool (decide (a=b))]:=by
 refine Af (a.length+1) (Akn _ _ _) ?_
 simp only[B3,Apd,Dg]
 refine Ae (fun h=>Ac ?_) (fun h=> ?_)
 · rw[decide_eq_false];rintro rfl;exact h rfl
 · exact Wd dB PY a b (by omega) ha (fun m i=>Z_ (a.length+1) m (dL a) (dL b) i) (fun m i=>Akm _ _ _ _ _)
structure Wh where
 neg:Bool
 mag:List Ar
def dW(w:Wh):D:= .agg [.bool w.neg,dL w.mag]
def zv(w:Wh):Int:=if w.neg then -(nv w.mag:Int) else (nv w.mag:Int)
def wz(z:Int):Wh:=⟨decide (z<0),lb z.natAbs⟩
@[simp] theorem Fx (w:Wh):(dW w).fld 0 = .bool w.neg:=rfl
@[simp] theorem Fl (w:Wh):(dW w).fld 1=dL w.mag:=rfl
theorem Aey(b:Bool)(l:List Ar):D.agg [.bool b,dL l]=dW ⟨b,l⟩:=rfl
theorem V6:D.agg [.bool false,.sl []]=dW (wz 0):=by simp[dW,wz,C9,dL]
theorem L7(w:Wh):(zv w).natAbs=nv w.mag:=by unfold zv;split <;> omega
theorem Ia(w:Wh):(lb (zv w).natAbs).length≤w.mag.length:=by rw[L7];exact Bb.2 (Cd _)
theorem De(z:Int):zv (wz z)=z:=by
 unfold zv wz
 simp only[Bv,decide_eq_true_eq]
 split <;> omega
theorem Uy(b:Bool)(n:Nat):zv ⟨b,lb n⟩=if b then -(n:Int) else (n:Int):=by simp only[zv,Bv]
theorem Ao7:wz 0=⟨false,[]⟩:=by simp[wz,C9]
theorem AcD(b:Bool){n:Nat}(h:n≠0):wz (if b then -(n:Int) else (n:Int))=⟨b,lb n⟩:=by
 cases b <;> simp[wz] <;> omega
theorem AcE(w:Wh):wz (zv w)=if nv w.mag=0 then ⟨false,[]⟩ else ⟨w.neg,lb (nv w.mag)⟩:=by
 split
 · rename_i h
   unfold zv;rw[h];simp[Ao7]
 · rename_i h
   unfold zv
   exact AcD _ h
theorem Rp(a b:Bool):(a == b)=decide (a=b):=by cases a <;> cases b <;> rfl
def Bd(z:Int):Prop:= -9223372036854775808≤z∧z≤9223372036854775807
instance (z:Int):Decidable (Bd z):=by unfold Bd;infer_instance
def Gh(z:Int):List D:=if Bd z then [.int z,.bool true] else [.int 0,.bool false]
def E6(z:Int):Int:=if z<0 then -1 else if z=0 then 0 else 1
def Cv(x y:Int):Int:=if x<y then -1 else if x=y then 0 else 1
theorem Gv(w:Wh)(h:w.mag.length≤1000000):Sp 223 [dW w] [dW (wz (zv w))]:=by
 refine Af 0 (Akx _ _) (Aa (Of w.mag h) ?_)
 simp only[Ah,B3,Apd,Cn,Fx,Ba]
 refine Ae (fun h=>Ac ?_) (fun h=>Ac ?_)
 · have h0:nv w.mag=0:=Hb.1 (by omega)
   rw[AcE,if_pos h0];rfl
 · have h0:nv w.mag≠0:=fun hh=>h (by rw[hh,C9];rfl)
   rw[AcE,if_neg h0];rfl
theorem Ul{n:Nat}(h:n<18446744073709551616):nv [Apw 32 (n % 4294967296),Apw 32 (n / 4294967296)]=n:=by
 simp only[nv,JF]
 rw[ofNat_lt (by rw[A5];omega),ofNat_lt (by rw[A5];omega),A5];omega
theorem KW(z:Int)(h:Bd z):Sp 225 [.int z] [dW (wz z)]:=by
 unfold Bd at h
 refine Af 0 (Aky _ _) ?_
 simp only[Ao]
 refine Ae (fun h0=> ?_) (fun h0=> ?_)
 · obtain ⟨n,rfl⟩ : ∃ n:Nat,z=n:=⟨z.toNat,by omega⟩
   have e : [D.int (Aom .u32 (Int.tmod (n:Int) 4294967296)),D.int (Aom .u32 (Aom .i64 (Int.tdiv (n:Int) 4294967296)))] = [Apw 32 (n % 4294967296),Apw 32 (n / 4294967296)].map dB:=by
    rw[Int.tmod_eq_emod_of_nonneg (by omega),Int.tdiv_eq_ediv_of_nonneg (by omega),show (n:Int) % 4294967296=((n % 4294967296:Nat):Int) by omega,show (n:Int) / 4294967296=((n / 4294967296:Nat):Int) by omega,
     Ax (by omega) (by omega),Ft (by omega) (by omega),Ft (by omega) (by omega),Ew (by rw[A5];omega),Ew (by rw[A5];omega)];rfl
   rw[e]
   have hv:=Ul (n:=n) (by omega)
   refine Bo (by decide) (Bo (by decide) (Aa (Gv ⟨false,[Apw 32 (n % 4294967296),Apw 32 (n / 4294967296)]⟩ (by simp)) (Ac ?_)))
   simp only[Ah,zv,hv];rfl
 · obtain ⟨n,rfl⟩ : ∃ n:Nat,z = -1-(n:Int):=⟨(-1-z).toNat,by omega⟩
   have e : [D.int (Aom .u32 (Int.tmod (Aom .i64 (-1-(-1-(n:Int)))) 4294967296)),D.int (Aom .u32 (Aom .i64 (Int.tdiv (Aom .i64 (-1-(-1-(n:Int)))) 4294967296)))] = [Apw 32 (n % 4294967296),Apw 32 (n / 4294967296)].map dB:=by
    rw[show (-1:Int)-(-1-(n:Int))=(n:Int) by omega,Ax (x:=(n:Int)) (by omega) (by omega),Int.tmod_eq_emod_of_nonneg (by omega),Int.tdiv_eq_ediv_of_nonneg (by omega),show (n:Int) % 4294967296=((n % 4294967296:Nat):Int) by omega,show (n:Int) / 4294967296=((n / 4294967296:Nat):Int) by omega,
     Ax (by omega) (by omega),Ft (by omega) (by omega),Ft (by omega) (by omega),Ew (by rw[A5];omega),Ew (by rw[A5];omega)];rfl
   rw[e]
   have hv:=Ul (n:=n) (by omega)
   have sp:=ZC [Apw 32 (n % 4294967296),Apw 32 (n / 4294967296)] [1] (by simp) (by simp)
   rw[hv,show nv [1]=1 from rfl]at sp
   refine Bo (by decide) (Bo (by decide) (Aa sp ?_))
   simp only[Ah]
   have hl:(lb (n+1)).length≤3:=Bb.2 (by show n+1<79228162514264337593543950336;omega)
   refine Aa (Gv ⟨true,lb (n+1)⟩ (by simp only;omega)) (Ac ?_)
   simp only[Ah,Uy,if_true]
   rw[show -((n+1:Nat):Int) = -1-(n:Int) by omega]
theorem Akv(w:Wh)(h:w.mag.length≤1000000):Sp 309 [dW w] [dW (wz (-zv w))]:=by
 refine Af 0 (Akw _ _) ?_
 simp only[Fx,Fl,Ba]
 refine Aa (Gv ⟨!w.neg,w.mag⟩ h) (Ac ?_)
 simp only[Ah]
 rw[show zv ⟨!w.neg,w.mag⟩ = -zv w by unfold zv;cases w.neg <;> simp]
theorem Aks(a b:Wh)(ha:a.mag.length≤10000)(hb:b.mag.length≤10000):Sp 308 [dW a,dW b] [dW (wz (zv a+zv b))]:=by
 refine Af 0 (Akt _ _ _) (Aa (Gv a (by omega)) (Aa (Gv b (by omega)) ?_))
 have la:=Ia a
 have lb':=Ia b
 generalize zv a=x at *
 generalize zv b=y at *
 simp only[Ah,Fx,Fl,Ba,Rp,wz]
 have hadd:(lb (x.natAbs+y.natAbs)).length≤10001:=by
   refine Bb.2 ?_
   have h1:=Bb.1 (Nat.le_trans la ha)
   have h2:=Bb.1 (Nat.le_trans lb' hb)
   obtain ⟨K,hK⟩ : ∃ K,K=10000:=⟨_,rfl⟩
   rw[← hK]at h1 h2
   rw[show 10001=K+1 by omega,Aqj,A5]
   rw[A5]at h1 h2
   omega
 have hsub : ∀ p q:Nat,(lb p).length≤10000→(lb (p-q)).length≤10000:=fun p q hp=>by
   obtain ⟨K,hK⟩ : ∃ K,K=10000:=⟨_,rfl⟩
   rw[← hK]at hp ⊢
   exact Bb.2 (Nat.lt_of_le_of_lt (Nat.sub_le _ _) (Bb.1 hp))
 refine Ae (fun h=> ?_) (fun h=> ?_)
 · have sp:=ZC (lb x.natAbs) (lb y.natAbs) (by omega) (by omega)
   rw[Bv,Bv]at sp
   refine Aa sp ?_
   simp only[Ah]
   refine Aa (Gv ⟨decide (x<0),lb (x.natAbs+y.natAbs)⟩ (by simp only;omega)) (Ac ?_)
   simp only[Ah,Uy]
   have h':x<0↔y<0:=by simpa using h
   congr 2
   rw[show (if decide (x<0)=true then -((x.natAbs+y.natAbs:Nat):Int) else ((x.natAbs+y.natAbs:Nat):Int))=x+y by
     by_cases hx:x<0 <;> simp[hx] <;> omega]
   rfl
 · have h' : ¬ (x<0↔y<0):=by simpa using h
   have sp:=ZF (lb x.natAbs) (lb y.natAbs) (by omega) (by omega)
   rw[Bv,Bv]at sp
   refine Aa sp ?_
   simp only[Ah,Ao,D4]
   refine Ae (fun h2=> ?_) (fun h2=> ?_)
   · have sp:=KU (lb x.natAbs) (lb y.natAbs) (by omega) (by omega)
     rw[Bv,Bv]at sp
     refine Aa sp ?_
     simp only[Ah]
     refine Aa (Gv ⟨decide (x<0),lb (x.natAbs-y.natAbs)⟩ (by simp only;have:=hsub x.natAbs y.natAbs (by omega);omega)) (Ac ?_)
     simp only[Ah,Uy]
     have hge:y.natAbs≤x.natAbs:=by split at h2 <;> omega
     rw[show (if decide (x<0)=true then -((x.natAbs-y.natAbs:Nat):Int) else ((x.natAbs-y.natAbs:Nat):Int))=x+y by
      by_cases hx:x<0 <;> simp[hx] <;> omega]
     rfl
   · have sp:=KU (lb y.natAbs) (lb x.natAbs) (by omega) (by omega)
     rw[Bv,Bv]at sp
     refine Aa sp ?_
     simp only[Ah]
     refine Aa (Gv ⟨decide (y<0),lb (y.natAbs-x.natAbs)⟩ (by simp only;have:=hsub y.natAbs x.natAbs (by omega);omega)) (Ac ?_)
     simp only[Ah,Uy]
     have hge:x.natAbs<y.natAbs:=by
      rcases Aqn x.natAbs y.natAbs with h3 | h3
      · exact h3
      · rw[if_neg (by omega)]at h2;split at h2 <;> omega
     rw[show (if decide (y<0)=true then -((y.natAbs-x.natAbs:Nat):Int) else ((y.natAbs-x.natAbs:Nat):Int))=x+y by
      by_cases hx:y<0 <;> simp[hx] <;> omega]
     rfl
theorem Ak3(a b:Wh)(ha:a.mag.length≤10000)(hb:b.mag.length≤10000):Sp 267 [dW a,dW b] [dW (wz (zv a-zv b))]:=by
 refine Af 0 (Ak4 _ _ _) (Aa (Akv b (by omega)) ?_)
 simp only[Ah]
 have:=Ia b
 refine Aa (Aks a (wz (-zv b)) ha (by simp only[wz,Int.natAbs_neg];omega)) (Ac ?_)
 simp only[Ah,De,← Int.sub_eq_add_neg]
theorem Akz(a:Wh)(ha:a.mag.length≤1000000):Sp 266 [dW a] [.int (E6 (zv a))]:=by
 refine Af 0 (Ak0 _ _) (Aa (Gv a ha) ?_)
 generalize zv a=x
 simp only[Ah,Fx,Fl,B3,Apd,Cn,Ba,wz]
 have h0:((lb x.natAbs).length:Int)=0↔x=0:=by rw[Int.natCast_eq_zero,Hb];omega
 unfold E6
 refine Ae (fun h=>Ac ?_) (fun h=>Ae (fun h2=>Ac ?_) (fun h2=>Ac ?_))
 · rw[if_neg (by have:=h0.1 h;omega),if_pos (h0.1 h)]
 · rw[if_pos h2]
 · rw[if_neg h2,if_neg (fun hh=>h (h0.2 hh))]
theorem Ank{a b:Wh}{k:Nat}(ha:a.mag.length≤k)(hb:b.mag.length≤k):(wz (zv a-zv b)).mag.length≤k+1:=by
 simp only[wz]
 refine Bb.2 ?_
 have h1:=Bb.1 (Nat.le_trans (Ia a) ha)
 have h2:=Bb.1 (Nat.le_trans (Ia b) hb)
 rw[Aqj,A5]
 rw[A5]at h1 h2
 omega
theorem ZL(a b:Wh)(ha:a.mag.length≤10000)(hb:b.mag.length≤10000):Sp 224 [dW a,dW b] [.int (Cv (zv a) (zv b))]:=by
 refine Af 0 (Aku _ _ _) (Aa (Ak3 a b ha hb) ?_)
 simp only[Ah]
 have:=Ank ha hb
 refine Aa (Akz _ (by omega)) (Ac ?_)
 simp only[Ah,Ao,De]
 congr 2
 unfold E6 Cv
 split <;> split <;> first | rfl | omega | (split <;> split <;> first | rfl | omega) | (split <;> first | rfl | omega)
theorem Ak1(a:Wh)(ha:a.mag.length≤10000):Sp 163 [dW a] (Gh (zv a)):=by
 refine Af 10 (Ak2 _ _) (Aa (Gv a (by omega)) ?_)
 generalize zv a=z
 simp only[Ah,Fx,Fl,B3,Apd]
 refine Ae (fun h=>Ac ?_) (fun h=> ?_)
 · have : ¬ (lb z.natAbs).length≤2:=by simp only[wz]at h;omega
   rw[Bb]at this
   have : ¬ Bd z:=by
     intro hr
     apply this
     unfold Bd at hr
     show z.natAbs<18446744073709551616
     omega
   rw[Gh,if_neg this]
 · have hl:(wz z).mag.length≤2:=by omega
   have hof : ∀ y,Bd y→(wz y).mag.length≤2:=fun y hy=>Bb.2 (by unfold Bd at hy;show y.natAbs<18446744073709551616;omega)
   have r1:Bd 9223372036854775807:=by decide
   have r2:Bd (-9223372036854775808):=by decide
   refine Aa (KW _ r1) (Aa (ZL (wz z) (wz 9223372036854775807) (by omega) (by have:=hof _ r1;omega)) ?_)
   simp only[Ah,Ao,De,Cv]
   refine Ae (fun h2=>Ac ?_) (fun h2=> ?_)
   · rw[Gh,if_neg]
     unfold Bd
     split at h2
     · omega
     · split at h2 <;> omega
   · refine Aa (KW _ r2) (Aa (ZL (wz z) (wz (-9223372036854775808)) (by omega) (by have:=hof _ r2;omega)) ?_)
     simp only[Ah,Ao,De,Cv]
     refine Ae (fun h3=>Ac ?_) (fun h3=> ?_)
     · rw[Gh,if_neg]
       unfold Bd
       split at h3
       · omega
       · split at h3 <;> omega
     · have hz:Bd z:=by
        unfold Bd
        constructor
        · split at h3 <;> omega
        · split at h2
          · omega
          · split at h2 <;> omega
       rw[Gh,if_pos hz]
       have key:=Ji (P:=Tryz.prog) (md:=md) (fun m k (x:Int)=>Tk 10 m x ((k:Int)-1) (dW (wz z))) (fun _ _=>[.int z,.bool true])
        (fun k x=>k≤(wz z).mag.length∧x=if z<0 then -((z.natAbs / B ^ k:Nat):Int) else ((z.natAbs / B ^ k:Nat):Int))
        (fun m x ⟨_,hx⟩=>by
          simp only[ZM]
          refine At (Ac ?_)
          rw[hx]
          simp only[Nat.pow_zero,Nat.div_one]
          congr 2
          split <;> omega)
        (fun m k x ⟨hk,hx⟩ ih=>by
          have hk':k<(lb z.natAbs).length:=hk
          have hg:(lb z.natAbs)[k]? = some (lb z.natAbs)[k]:=Apb _
          simp only[ZM,show ((k+1:Nat):Int)-1=(k:Int) by omega,Fx,Fl,B3,Apd,Ba,Apj]
          have e1:(wz z).mag=lb z.natAbs:=rfl
          have e2:(wz z).neg=decide (z<0):=rfl
          rw[e1,e2,Aw hg,En,Eg,Bv]
          have hd:=Nat.mod_add_div (z.natAbs / B ^ k) B
          rw[Aqd,← Aqj]at hd
          have hle:z.natAbs / B ^ k≤z.natAbs:=Nat.div_le_self _ _
          have hm:=Ap4 (z.natAbs / B ^ k) B0
          unfold Bd at hz
          have ih':=ih (if z<0 then -((z.natAbs / B ^ k:Nat):Int) else ((z.natAbs / B ^ k:Nat):Int)) ⟨by omega,rfl⟩
          generalize z.natAbs / B ^ k=p at *
          generalize z.natAbs / B ^ (k+1)=q at *
          generalize p % B=r at *
          rw[A5]at hd hm
          refine Ad (Ae (fun hn=> ?_) (fun hn=> ?_))
          · rw[if_pos hn]at hx ih'
            refine Ad (Ad ?_)
            rw[hx,Ax (x:= -(q:Int)*4294967296) (by omega) (by omega),Ax (x:=(r:Int)) (by omega) (by omega),Ax (x:= -(q:Int)*4294967296-r) (by omega) (by omega),Ax (by omega) (by omega),show -(q:Int)*4294967296-(r:Int) = -(p:Int) by omega]
            exact ih'
          · rw[if_neg hn]at hx ih'
            refine Ad (Ad ?_)
            rw[hx,Ax (x:=(q:Int)*4294967296) (by omega) (by omega),Ax (x:=(r:Int)) (by omega) (by omega),Ax (x:=(q:Int)*4294967296+r) (by omega) (by omega),Ax (by omega) (by omega),show (q:Int)*4294967296+(r:Int)=(p:Int) by omega]
            exact ih')
        10 (wz z).mag.length 0 (by omega) ⟨Apo _,by
          have:z.natAbs / B ^ (wz z).mag.length=0:=Nat.div_eq_of_lt (Bb.1 (Apo _))
          rw[this];simp⟩
       rw[Ax (by omega) (by omega)]
       exact key
theorem F3(l:List Ar)(hl:l.length<9223372036854775807):Sp 321 [dL l] [dL (lb (nv l))]:=by
 refine Af (l.length+1) (Ah9 _ _) ?_
 have:=Ji (P:=Tryz.prog) (md:=md) (fun m k (_:Unit)=>Yo (l.length+1) m (dL l) (k:Int)) (fun _ _=>[dL (lb (nv l))]) (fun k _=>k≤l.length∧∀ i,k≤i→(hi:i<l.length)→l[i]=0)
  (fun m s ⟨h1,h2⟩=>by
   simp only[VN,B3,Apd,Apr]
   refine At (Ad (Ad (Ad (Ac ?_))))
   rw[Xq (k:=0) (by omega) h2 (fun _ h=>by omega),V5];rfl)
  (fun m k s ⟨h1,h2⟩ ih=>by
   have hk:l[k]? = some l[k]:=Apb _
   simp only[VN,B3,Apd,Apr,AcC k (by omega),Apj,Aw hk,En,Cn]
   refine Ad (Ad (Ad (Ae (fun h=> ?_) (fun h=> ?_))))
   · refine ih () ⟨by omega,fun i hi hlt=> ?_⟩
     by_cases he:i=k
     · subst he;exact BitVec.eq_of_toNat_eq (by simp;omega)
     · exact h2 i (by omega) hlt
   · refine Ad (Ad (Ad (Ac ?_)))
     rw[Xq (k:=k+1) (by omega) h2 (fun _ _ hc=>h (by have hc':l[k]=0:=hc;rw[hc'];rfl)),V5])
  (l.length+1) l.length () (by omega) ⟨Apo _,fun i h1 h2=>by omega⟩
 simpa using this
theorem H0(l:List Ar)(hl:l.length≤1000000):Sp 299 [dL l] [dL (lb (nv l))]:=by
 refine Af 0 (Ahw _ _) (Aa (F3 l (by omega)) ?_)
 have h1:(lb (nv l)).length≤l.length:=Bb.2 (Cd l)
 simp only[Ah,B3,Apd,Aqg,Apj]
 refine Ad (Ad (A0 (by unfold Am;omega) (Ac ?_)))
 rw[Ap_ (by simp),List.drop_eq_nil_of_le (by simp),Apx];rfl
theorem L0(b:Bool)(n:Nat):Sp 298 [.bool b,dL (lb n)] [dW (wz (if b then -(n:Int) else (n:Int)))]:=by
 refine Af 0 (Ao3 _ _ _) ?_
 simp only[B3,Apd,Cn,Ba]
 refine Ae (fun h=>Ac ?_) (fun h=>Ac ?_)
 · have:n=0:=Hb.1 (by omega)
   subst this
   simp[V6]
 · have:n≠0:=fun hh=>h (by rw[hh,C9];rfl)
   rw[AcD _ this];rfl
theorem DM(w:Wh)(h:w.mag.length≤1000000):Sp 269 [dW w] [dW (wz (zv w))]:=by
 refine Af 0 (Aov _ _) (Aa (H0 w.mag h) ?_)
 simp only[Ah,Fx,Ba]
 exact Aa (L0 w.neg (nv w.mag)) (Ac rfl)
theorem Pj(x:Nat):Ap3 (x:Int) (2 ^ (min (Apa 32) (Apl .u64)))=((x / 4294967296:Nat):Int):=by
 show Ap3 (x:Int) 4294967296=_
 rw[Int.fdiv_eq_ediv_of_nonneg _ (by omega)];omega
theorem AnX{z:Int}(h:z<0)(h2 : -9223372036854775808≤z):Aom .u64 (0-Aom .u64 z) = -z:=by
 rw[IntKind.wrap_u64,IntKind.wrap_u64];omega
theorem Ut(z:Int)(h:Bd z):Sp 246 [.int z] [dW (wz z)]:=by
 unfold Bd at h
 refine Af 0 (Aow _ _) ?_
 simp only[Ao]
 have main : ∀ n:Nat,n<18446744073709551616→[D.int (Aom .u32 (n:Int)),D.int (Aom .u32 (Ap3 (n:Int) (2 ^ (min (Apa 32) (Apl .u64)))))] = [Apw 32 (n % 4294967296),Apw 32 (n / 4294967296)].map dB:=by
   intro n hn
   rw[Pj,Ft (x:=((n / 4294967296:Nat):Int)) (by omega) (by omega),Ew (t:=n / 4294967296) (by rw[A5];omega),show Aom .u32 (n:Int)=((n % 4294967296:Nat):Int) by rw[IntKind.wrap_u32];omega,Ew (t:=n % 4294967296) (by rw[A5];omega)];rfl
 refine Ae (fun h0=> ?_) (fun h0=> ?_)
 · obtain ⟨n,hn⟩ : ∃ n:Nat,-z=n:=⟨(-z).toNat,by omega⟩
   rw[AnX h0 h.1,hn,main n (by omega)]
   simp only[h0,decide_true]
   have sp:=H0 [Apw 32 (n % 4294967296),Apw 32 (n / 4294967296)] (by simp)
   rw[Ul (by omega)]at sp
   refine Ad (Aa sp ?_)
   simp only[Ah]
   refine Aa (L0 true n) (Ac ?_)
   simp only[Ah,if_true]
   rw[show -(n:Int)=z by omega]
 · obtain ⟨n,rfl⟩ : ∃ n:Nat,z=n:=⟨z.toNat,by omega⟩
   rw[Bt (by omega) (by omega),main n (by omega)]
   simp only[h0,decide_false]
   have sp:=H0 [Apw 32 (n % 4294967296),Apw 32 (n / 4294967296)] (by simp)
   rw[Ul (by omega)]at sp
   refine Ad (Aa sp ?_)
   simp only[Ah]
   exact Aa (L0 false n) (Ac rfl)
theorem JQ{x d:Nat}(hx:x<4294967296)(hd:d<4294967296):Br .or .u64 (x:Int) ((d*4294967296:Nat):Int)=((x+d*4294967296:Nat):Int):=by
 have h:=JP (Apw 64 x) (Apw 64 (d*4294967296))
 rw[BitVec.toNat_or,BitVec.toNat_ofNat,BitVec.toNat_ofNat,Ap6 (a:=x) (by omega),Ap6 (a:=d*4294967296) (by omega)]at h
 rw[h]
 congr 1
 have:=Nat.two_pow_add_eq_or_of_lt (i:=32) (b:=x) (by omega) d
 rw[show 2 ^ 32*d=d*4294967296 by omega]at this
 rw[Nat.or_comm,← this];omega
theorem Aoz(a:Wh)(ha:a.mag.length≤1000000):Sp 228 [dW a] (Gh (zv a)):=by
 refine Af 10 (Ao0 _ _) (Aa (DM a (by omega)) ?_)
 generalize zv a=z
 simp only[Ah,Fx,Fl,B3,Apd]
 refine Ae (fun h=>Ac ?_) (fun h=> ?_)
 · have : ¬ (lb z.natAbs).length≤2:=by simp only[wz]at h;omega
   rw[Bb]at this
   have : ¬ Bd z:=by
    intro hr
    apply this
    unfold Bd at hr
    show z.natAbs<18446744073709551616
    omega
   rw[Gh,if_neg this]
 · have hl:(lb z.natAbs).length≤2:=by simp only[wz]at h;omega
   have hlt:z.natAbs<18446744073709551616:=Bb.1 hl
   have fin : ∀ (m:Nat) (t:D) (k:Int),Tw (Ra 10 (m+1) (z.natAbs:Int) t k k (dW (wz z))) (Gh z):=by
    intro m t k
    simp only[Tw,Ac5,Fx,Ba,wz]
    refine At (Ae (fun hn=>Ae (fun h2=>Ac ?_) (fun h2=>Ac ?_)) (fun hn=>Ae (fun h2=>Ac ?_) (fun h2=>Ac ?_)))
    · rw[Gh,if_neg];unfold Bd;omega
    · rw[Gh,if_pos (by unfold Bd;omega),IntKind.wrap_u64,IntKind.wrap_i64]
      congr 2
      omega
    · rw[Gh,if_neg];unfold Bd;omega
    · rw[Gh,if_pos (by unfold Bd;omega),Ax (by omega) (by omega)]
      congr 2
      omega
   have one : ∀ (m:Nat) (l:List Ar) (t:Int) (k x:Nat) (d:Ar),k≤1→l[k]? = some d→(k:Int)<t→(k=0→x=0)→x<4294967296→Tw (Ra 10 m ((x+d.toNat*4294967296 ^ k:Nat):Int) (dL l) t ((k+1:Nat):Int) (dW (wz z))) (Gh z)→Tw (Ra 10 (m+1) (x:Int) (dL l) t (k:Int) (dW (wz z))) (Gh z):=by
    intro m l t k x d hk hd ht hx hx2 hw
    have hkl:k<l.length:=(Apf.1 hd).1
    have hdl:=Fb d
    rw[A5]at hdl
    simp only[Tw,Ac5,B3,Apd,Apj,Aw hd,En]
    rw[Ax (x:=32*(k:Int)) (by omega) (by omega),Bt (x:=32*(k:Int)) (by omega) (by omega),Bt (x:=(d.toNat:Int)) (by omega) (by omega),Fh (by omega)]
    refine Ad (Ad (Ad (Ad ?_)))
    have e:Br .or .u64 (x:Int) (Aom .u64 ((d.toNat:Int)*2 ^ (min (Apa (32*(k:Int))) (Apl .u64))))=((x+d.toNat*4294967296 ^ k:Nat):Int):=by
      rcases (by omega:k=0∨k=1) with rfl | rfl
      · rw[hx rfl]
        show Br .or .u64 ((0:Nat):Int) (Aom .u64 ((d.toNat:Int)*1))=_
        rw[Int.mul_one,Bt (by omega) (by omega)]
        have:=JP (0:Al) (Apw 64 d.toNat)
        rw[BitVec.toNat_or,BitVec.toNat_ofNat,Ap6 (a:=d.toNat) (by omega)]at this
        simpa using this
      · show Br .or .u64 (x:Int) (Aom .u64 ((d.toNat:Int)*4294967296))=_
        rw[show (d.toNat:Int)*4294967296=((d.toNat*4294967296:Nat):Int) by omega,Bt (by omega) (by omega),JQ hx2 hdl]
        try simp
    rw[e]
    exact hw
   have hz0:z.natAbs=nv (lb z.natAbs):=(Bv _).symm
   simp only[show (wz z).mag=lb z.natAbs from rfl]
   generalize hll:lb z.natAbs=ll at *
   match ll,hl with
   | [],_ =>
    have:z.natAbs=0:=by simpa using hz0
    have hf:=fin 9 (dL []) 0
    rw[this]at hf
    exact hf
   | [d],_ =>
    have:z.natAbs=d.toNat:=by simpa [nv]using hz0
    refine one 9 [d] 1 0 0 d (by omega) rfl (by omega) (fun _=>rfl) (by omega) ?_
    have hf:=fin 8 (dL [d]) 1
    rw[this]at hf
    simpa using hf
   | [d,e],_ =>
    have:z.natAbs=d.toNat+e.toNat*4294967296:=by simp only[nv,JF]at hz0;rw[A5]at hz0;omega
    have hdl:=Fb d
    rw[A5]at hdl
    refine one 9 [d,e] 2 0 0 d (by omega) rfl (by omega) (fun _=>rfl) (by omega) ?_
    have:=one 8 [d,e] 2 1 d.toNat e (by omega) rfl (by omega) (fun h=>by omega) (by omega) (by
      have hf:=fin 7 (dL [d,e]) 2
      rw[this]at hf
      simpa using hf)
    simpa using this
def Bs(n:Num):Int:=zv ⟨n.neg,n.top⟩
def Bq(n:Num):Int:=(nv n.bot:Int)
def Cy(z:Int):Num:=⟨decide (z<0),lb z.natAbs,[1]⟩
def Mr:Option Int→List D
 | some z=>[.int z,.bool true]
 | none=>[.int 0,.bool false]
def Na(z:Int):Option Int:=if Bd z then some z else none
theorem AbF(z:Int):Gh z=Mr (Na z):=by unfold Gh Na;split <;> rfl
def Dw(n:Num):Option Int:=if n.bot = [1] then Na (Bs n) else none
def C_(p q:Int):Num×Int :=
 if q=0 then (.zero,3)
 else if 32<(lb (p.natAbs / Nat.gcd p.natAbs q.natAbs)).length∨32<(lb (q.natAbs / Nat.gcd p.natAbs q.natAbs)).length then (.zero,7)
 else (⟨decide (0<(lb (p.natAbs / Nat.gcd p.natAbs q.natAbs)).length)&& !(decide (p<0)==decide (q<0)),lb (p.natAbs / Nat.gcd p.natAbs q.natAbs),lb (q.natAbs / Nat.gcd p.natAbs q.natAbs)⟩,0)
def Et(n:Num):Bool:=decide (n.top.length≤32∧n.bot.length≤32∧C_ (Bs n) (Bq n)=(n,0))
theorem Jb:D.agg [.bool false,.sl [],.sl []]=dN .zero:=rfl
theorem Aij(l:List Ar):(l = [1])↔(l.length=1∧∀ h:0<l.length,l[0].toNat=1):=by
 constructor
 · rintro rfl;exact ⟨rfl,fun _=>rfl⟩
 · rintro ⟨h1,h2⟩
   match l,h1 with
   | [x],_=>have:=h2 (by simp);simp at this;exact congrArg (· :: []) (BitVec.eq_of_toNat_eq (by simpa using this))
theorem WG{P:Program}{md:Nat→FMode}(l:List Ar):(Tree.br (((l.map dB).length:Int)==1) (.br (decide (0≤(0:Int))) (.br (decide (0<((l.map dB).length:Int))) (.ret [D.bool ((((l.map dB).getD (Apa 0) D.nil).toInt)==1)]) .fail) .fail) (.ret [D.bool false])).wp P md (fun zs=>zs = [.bool (decide (l = [1]))]):=by
 simp only[Apd,Cn]
 refine Ae (fun h=>Ad (Ad (Ac ?_))) (fun h=>Ac ?_)
 · have hg:l[0]? = some (l[0]'(by omega)):=Apb _
   rw[show Apa 0=0 from rfl,Aw hg,En]
   congr 2
   rw[decide_eq_decide,Aij]
   refine ⟨fun hh=>⟨by omega,fun _=>by omega⟩,fun hh=>by have:=hh.2 (by omega);omega⟩
 · rw[decide_eq_false];rintro rfl;exact h rfl
theorem Ak7(n:Num):Sp 162 [dN n] [.bool (decide (n.bot = [1]))]:=by
 refine Af 0 (Ak8 _ _) ?_
 simp only[Nn,B3]
 exact WG n.bot
theorem Lo(l:List Ar):Sp 227 [dL l] [.bool (decide (l = [1]))]:=by
 refine Af 0 (AjO _ _) ?_
 simp only[B3]
 exact WG l
theorem ZN(n:Num)(h:n.top.length≤1000000):Sp 164 [dN n] [dW (wz (Bs n))]:=by
 refine Af 0 (AkH _ _) ?_
 simp only[Nm,Pe,Ba]
 exact Aa (Gv ⟨n.neg,n.top⟩ h) (Ac rfl)
theorem Ak5(n:Num)(h:n.bot.length≤1000000):Sp 210 [dN n] [dW (wz (Bq n))]:=by
 refine Af 0 (Ak6 _ _) ?_
 simp only[Nn]
 exact Aa (Gv ⟨false,n.bot⟩ h) (Ac rfl)
theorem AkI(w:Wh)(h:w.mag.length≤1000000):Sp 226 [dW w] [dN (Cy (zv w))]:=by
 refine Af 0 (AkJ _ _) (Aa (Gv w h) (Ac rfl))
theorem AkA(z:Int)(h:Bd z):Sp 165 [.int z] [dN (Cy z)]:=by
 refine Af 0 (AkB _ _) (Aa (KW z h) ?_)
 have hl:(wz z).mag.length≤2:=Bb.2 (by unfold Bd at h;show z.natAbs<18446744073709551616;omega)
 refine Aa (AkI (wz z) (by omega)) (Ac ?_)
 rw[De];rfl
theorem AkF(n:Num)(h:n.top.length≤10000):Sp 77 [dN n] (Mr (Dw n)):=by
 refine Af 0 (AkG _ _) (Aa (Ak7 n) ?_)
 simp only[Ah,Ba,E0]
 unfold Dw
 refine Ae (fun h=>Ac ?_) (fun h0=> ?_)
 · rw[if_neg h];rfl
 · rw[if_pos (Apm.1 h0)]
   refine Aa (ZN n (by omega)) ?_
   have hl:(wz (Bs n)).mag.length≤n.top.length:=Ia ⟨n.neg,n.top⟩
   refine Aa (Ak1 (wz (Bs n)) (by omega)) ?_
   rw[De,AbF]
   cases Na (Bs n) <;> exact Ac rfl
theorem F4(n:Num):Sp 229 [dN n] [dW ⟨n.neg,n.top⟩]:=Af 0 (AjP _ _) (Ac rfl)
theorem Zu(n:Num)(h:n.top.length≤1000000):Sp 166 [dN n] (Mr (Dw n)):=by
 refine Af 0 (AjJ _ _) (Aa (Lo n.bot) ?_)
 simp only[Ah,Ba,E0]
 unfold Dw
 refine Ae (fun h=>Ac ?_) (fun h0=> ?_)
 · rw[if_neg h];rfl
 · rw[if_pos (Apm.1 h0)]
   refine Aa (F4 n) (Aa (Aoz ⟨n.neg,n.top⟩ h) ?_)
   rw[AbF,show zv ⟨n.neg,n.top⟩=Bs n from rfl]
   cases Na (Bs n) <;> exact Ac rfl
def Nc(z:Int):Num:=if 32<(lb z.natAbs).length then .zero else Cy z
theorem Zv(w:Wh)(h:w.mag.length≤1000000):Sp 245 [dW w] [dN (Nc (zv w))]:=by
 refine Af 0 (AjL _ _) (Aa (DM w h) ?_)
 simp only[Ah,Fx,Fl,B3,Apd,Ba]
 unfold Nc
 refine Ae (fun h=>Ac ?_) (fun h=>Ac ?_)
 · rw[if_pos (by simp only[wz]at h;omega)];rfl
 · rw[if_neg (by simp only[wz]at h;omega)];rfl
theorem Mv(z:Int)(h:Bd z):Sp 212 [.int z] [dN (Cy z)]:=by
 refine Af 0 (AjD _ _) (Aa (Ut z h) ?_)
 have hl:(wz z).mag.length≤2:=Bb.2 (by unfold Bd at h;show z.natAbs<18446744073709551616;omega)
 refine Aa (Zv (wz z) (by omega)) (Ac ?_)
 rw[De,Nc,if_neg (by simp only[wz]at hl;omega)];rfl
theorem JD(a b:Num):(a=b)↔(a.neg=b.neg∧a.top=b.top∧a.bot=b.bot):=by
 cases a;cases b;simp
theorem KX(a b:Num)(h1:a.top.length≤9223372036854775807)(h2:a.bot.length≤9223372036854775807):Sp 137 [dN a,dN b] [.bool (decide (a=b))]:=by
 refine Af 0 (AkE _ _ _) ?_
 simp only[Nm,Pe,Nn,Ba,Rp]
 refine Ae (fun e1=>Aa (ZI a.top b.top h1) ?_) (fun e1=>Ac ?_)
 · simp only[Ah,Ba]
   refine Ae (fun e2=>Aa (ZI a.bot b.bot h2) (Ac ?_)) (fun e2=>Ac ?_)
   · simp only[Ah,Ba]
     congr 2
     rw[decide_eq_decide,JD];simp[e1,e2]
   · rw[decide_eq_false];rintro rfl;exact e2 rfl
 · rw[decide_eq_false];rintro rfl;exact e1 rfl
theorem Ab3(a b:List Ar)(ha:a.length≤9223372036854775807):Sp 312 [dL a,dL b] [.bool (decide (a=b))]:=by
 refine Af (a.length+1) (AmA _ _ _) ?_
 simp only[B3,Apd,Dg]
 refine Ae (fun h=>Ac ?_) (fun h=> ?_)
 · rw[decide_eq_false];rintro rfl;exact h rfl
 · refine Wd dB PY a b (by omega) ha (fun m i=>CG (a.length+1) m (dL a) (dL b) (a.length:Int) i) (fun m i=> ?_)
   rw[Am_]
   simp only[B3,Apd]
theorem Ab2(a b:List Int)(ha:a.length≤9223372036854775807):Sp 234 [dI a,dI b] [.bool (decide (a=b))]:=by
 refine Af (a.length+1) (Am9 _ _ _) ?_
 simp only[Ch,Apd,Dg]
 refine Ae (fun h=>Ac ?_) (fun h=> ?_)
 · rw[decide_eq_false];rintro rfl;exact h rfl
 · refine Wd D.int QH a b (by omega) ha (fun m i=>CE (a.length+1) m (dI a) (dI b) (a.length:Int) i) (fun m i=> ?_)
   rw[Am8]
   simp only[Ch,Apd]
theorem AjG(a b:Num)(h1:a.top.length≤9223372036854775807)(h2:a.bot.length≤9223372036854775807):Sp 274 [dN a,dN b] [.bool (decide (a=b))]:=by
 refine Af 0 (AjH _ _ _) ?_
 simp only[Nm,Pe,Nn,Ba,Rp]
 refine Ae (fun e1=>Aa (Ab3 a.top b.top h1) ?_) (fun e1=>Ac ?_)
 · simp only[Ah,Ba]
   refine Ae (fun e2=>Aa (Ab3 a.bot b.bot h2) (Ac ?_)) (fun e2=>Ac ?_)
   · simp only[Ah,Ba]
     congr 2
     rw[decide_eq_decide,JD];simp[e1,e2]
   · rw[decide_eq_false];rintro rfl;exact e2 rfl
 · rw[decide_eq_false];rintro rfl;exact e1 rfl
theorem Ak9(p q:Wh)(hp:p.mag.length≤1000)(hq:q.mag.length≤1000):Sp 209 [dW p,dW q] [dN (C_ (zv p) (zv q)).1,.int (C_ (zv p) (zv q)).2]:=by
 refine Af 0 (Ak_ _ _ _) (Aa (Gv p (by omega)) (Aa (Gv q (by omega)) ?_))
 have lp:=Ia p
 have lq:=Ia q
 generalize zv p=x at *
 generalize zv q=y at *
 simp only[Ah,Fx,Fl,B3,Apd,Ba,Cn,wz]
 refine Ae (fun h=>Ac ?_) (fun h=> ?_)
 · have:y=0:=by have:=Hb.1 (show (lb y.natAbs).length=0 by omega);omega
   unfold C_;rw[if_pos this];rfl
 · have hy:y≠0:=fun hh=>h (by rw[hh];simp[C9])
   have sp:=Akj (lb x.natAbs) (lb y.natAbs) (by omega) (by omega)
   rw[Bv,Bv]at sp
   refine Aa sp ?_
   simp only[Ah]
   have hg:Nat.gcd x.natAbs y.natAbs≠0:=fun hh=>hy (by have:=(Nat.gcd_eq_zero_iff.1 hh).2;omega)
   have hgl:(lb (Nat.gcd x.natAbs y.natAbs)).length≤1000:=by
    refine Nat.le_trans ?_ (Nat.le_trans lq hq)
    refine Bb.2 (Nat.lt_of_le_of_lt (Nat.gcd_le_right _ (by omega)) (Bb.1 (Apo _)))
   have sp1:=KR (lb x.natAbs) (lb (Nat.gcd x.natAbs y.natAbs)) (by omega) (by omega)
   have sp2:=KR (lb y.natAbs) (lb (Nat.gcd x.natAbs y.natAbs)) (by omega) (by omega)
   rw[Bv,Bv]at sp1 sp2
   refine Aa sp1 (Aa sp2 ?_)
   simp only[Ah,B3,Apd]
   unfold C_
   rw[if_neg hy]
   refine Ae (fun h1=>Ac ?_) (fun h1=>Ae (fun h2=>Ac ?_) (fun h2=>Ae (fun h3=>Ac ?_) (fun h3=>Ac ?_)))
   · rw[if_pos (by omega)];rfl
   · rw[if_pos (by omega)];rfl
   · rw[if_neg (by omega),decide_eq_true (p:=0<(lb (x.natAbs / Nat.gcd x.natAbs y.natAbs)).length) (by omega),Bool.true_and];rfl
   · rw[if_neg (by omega),decide_eq_false (p:=0<(lb (x.natAbs / Nat.gcd x.natAbs y.natAbs)).length) (by omega),Bool.false_and];rfl
theorem AkC(n:Num):Sp 133 [dN n] [.bool (Et n)]:=by
 refine Af 0 (AkD _ _) ?_
 simp only[Pe,Nn,B3,Apd]
 unfold Et
 refine Ae (fun h=>Ac ?_) (fun h=>Ae (fun h'=>Ac ?_) (fun h'=> ?_))
 · rw[decide_eq_false (by omega)]
 · rw[decide_eq_false (by omega)]
 · refine Aa (ZN n (by omega)) (Aa (Ak5 n (by omega)) ?_)
   have l1:(wz (Bs n)).mag.length≤n.top.length:=Ia ⟨n.neg,n.top⟩
   have l2:(wz (Bq n)).mag.length≤n.bot.length:=Ia ⟨false,n.bot⟩
   refine Aa (Ak9 (wz (Bs n)) (wz (Bq n)) (by omega) (by omega)) ?_
   simp only[Ah,C1,Ao,Cn,De]
   generalize C_ (Bs n) (Bq n)=r
   refine Ae (fun h3=>Aa (KX n r.1 (by omega) (by omega)) (Ac ?_)) (fun h3=>Ac ?_)
   · simp only[Ah,Ba]
     congr 2
     rw[decide_eq_decide]
     refine ⟨fun hh=>⟨by omega,by omega,by rw[hh];exact Prod.ext rfl h3⟩,fun hh=>by rw[hh.2.2]⟩
   · rw[decide_eq_false]
     rintro ⟨_,_,hh⟩
     exact h3 (by rw[hh])
theorem AkL(n:Nat)(c0:D):fA [] n 135 [] [c0] =
 bK (0≤c0.toInt) (bK (c0.toInt≤1114111) (bK (c0.toInt<55296) (.ret [D.bool true])
 (.ret [D.bool (decide (57343<c0.toInt))]))
 (.ret [D.bool false]))
 (.ret [D.bool false]):=by kernel_rfl
theorem EV : ∃ N:Nat,9223372036854775808<N:=⟨9223372036854775809,by decide⟩
def A_:List Int→Int→Int
 | [],p=>p
 | x::xs,p=>if 2048<p*x then 0 else A_ xs (p*x)
def A7(l:List Int):Int×Int :=
 if 6<l.length then (0,7) else if l.any (fun x=>decide (x<0)) then (0,3) else if l.any (fun x=>decide (2048<x)) then (0,7)
 else if l.any (fun x=>decide (x=0)) then (0,0) else if A_ l 1=0 then (0,7) else (A_ l 1,0)
theorem KE{x y:Int}(h1:1≤x)(h2:x≤2048)(h3:1≤y)(h4:y≤2048):1≤x*y∧x*y≤4194304:=by
 constructor
 · have:=Int.mul_le_mul h1 h3 (by omega) (by omega);omega
 · have:=Int.mul_le_mul h2 h4 (by omega) (by omega);omega
theorem YB : ∀ (l:List Int) (p:Int),1≤p→p≤2048→(∀ x∈l,1≤x∧x≤2048)→0≤A_ l p∧A_ l p≤2048
 | [],p,h1,h2,_=>by simp only[A_];omega
 | x::xs,p,h1,h2,h=>by
  simp only[A_]
  have hx:=h x (by simp)
  have:=KE h1 h2 hx.1 hx.2
  split
  · omega
  · exact YB xs (p*x) this.1 (by omega) (fun y hy=>h y (by simp[hy]))
theorem Rj{l:List Int}{p:Int→Bool}(h : ¬ l.any p=true) : ∀ x∈l,p x=false:=fun x hx=>by
 cases hp:p x with
 | false=>rfl
 | true=>exact absurd (List.any_eq_true.2 ⟨x,hx,hp⟩) h
theorem Vw{l:List Int}(h1 : ¬ l.any (fun x=>decide (x<0))=true)(h2 : ¬ l.any (fun x=>decide (2048<x))=true)(h3 : ¬ l.any (fun x=>decide (x=0))=true) : ∀ x∈l,1≤x∧x≤2048:=fun x hx=>by
 have a:=of_decide_eq_false (Rj h1 x hx)
 have b:=of_decide_eq_false (Rj h2 x hx)
 have c:=of_decide_eq_false (Rj h3 x hx)
 omega
theorem Fw(l:List Int):0≤(A7 l).1∧(A7 l).1≤2048:=by
 unfold A7
 split
 · decide
 split
 · decide
 split
 · decide
 split
 · decide
 split
 · decide
 · rename_i h1 h2 h3 h4 _;exact YB l 1 (by decide) (by decide) (Vw h2 h3 h4)
theorem Gm{l:List Int}(h:(A7 l).2=0):l.length≤6∧∀ x∈l,0≤x∧x≤2048:=by
 unfold A7 at h
 split at h
 · cases h
 split at h
 · cases h
 split at h
 · cases h
 · rename_i h1 h2 h3
   refine ⟨by omega,fun x hx=> ?_⟩
   have a:=of_decide_eq_false (Rj h2 x hx)
   have b:=of_decide_eq_false (Rj h3 x hx)
   omega
def Ee(p:Int→Bool):Nat→List Int→Int
 | _,[]=> -1
 | k,x::xs=>if p x then (k:Int) else Ee p (k+1) xs
def Lc(p:Int):List D:=if p=0 then [.int 0,.int 7] else [.int p,.int 0]
theorem Ob(x:Int)(xs:List Int)(p:Int):A_ (x::xs) p=if 2048<p*x then 0 else A_ xs (p*x):=rfl
theorem AfA(p:Int→Bool)(k:Nat)(x:Int)(xs:List Int):Ee p k (x::xs)=if p x then (k:Int) else Ee p (k+1) xs:=rfl
theorem AkM(N:Nat)(l:List Int)(hl:l.length<N)(hb:l.length≤6)(hx : ∀ x∈l,1≤x∧x≤2048):Tw (Tl N N (dI l) 1 0) (Lc (A_ l 1)):=by
 have key:=Ca l (fun m k (p:Int)=>Tl N m (dI l) p (k:Int)) (fun rest p=>Lc (A_ rest p)) (fun _ p=>1≤p∧p≤2048)
  (fun m k p hk hI=>by
   simp only[ZO,Ch,Apd]
   refine At (Ac ?_)
   show _=Lc p
   rw[Lc,if_neg (by omega)])
  (fun m k p x rest hd hI ih=>by
   obtain ⟨h1,h2,h3⟩:=B6 hd
   have hxx:=hx x (Aph h2)
   have hp:=KE hI.1 hI.2 hxx.1 hxx.2
   simp only[ZO,Ch,Apd,Apj,Aw h2,Ao,Bh k,Ax (x:=p*x) (by omega) (by omega)]
   repeat (refine Ad ?_)
   rw[Ob]
   refine Ae (fun h=>Ac ?_) (fun h=> ?_)
   · rw[if_pos h];rfl
   · rw[if_neg h];exact ih _ ⟨hp.1,by omega⟩)
  N 0 1 (by omega) (by omega) (by decide)
 exact key
theorem AkN(l:List Int):Sp 52 [dI l] [.int (A7 l).1,.int (A7 l).2]:=by
  refine Af (l.length+1) (AkO _ _) ?_
  simp only[Ch,Apd]
  unfold A7
  refine Ae (fun h=>Ac ?_) (fun h=> ?_)
  · rw[if_pos (by omega)]
  · rw[if_neg (by omega)]
    have key:=Ca l (fun m k (s:Bool×Bool)=>My (l.length+1) m (dI l) s.1 s.2 (k:Int))
      (fun rest s=>if rest.any (fun x=>decide (x<0)) then [.int 0,.int 3] else if s.1||rest.any (fun x=>decide (2048<x)) then [.int 0,.int 7] else if s.2||rest.any (fun x=>decide (x=0)) then [.int 0,.int 0] else Lc (A_ l 1))
      (fun rest s=>(∀ x∈l,(0≤x∧(s.1=true∨x≤2048)∧(s.2=true∨x≠0))∨x∈rest))
      (fun m k s hk hI=>by
        simp only[ZP,Ch,Apd]
        refine At (B7 (fun h1=>Ac ?_) (fun h1=>B7 (fun h2=>Ac ?_) (fun h2=> ?_)))
        · simp[h1]
        · simp[h1,h2]
        · simp only[h1,h2,List.any_nil,Bool.or_self,Bool.false_eq_true,if_false]
          refine AkM (l.length+1) l (by omega) (by omega) (fun x hx=> ?_)
          rcases hI x hx with ⟨a,b,c⟩ | b
          · rw[h1]at b;rw[h2]at c
            simp at b c
            omega
          · cases b)
      (fun m k s x rest hd hI ih=>by
        obtain ⟨h1,h2,h3⟩:=B6 hd
        simp only[ZP,Ch,Apd,Apj,Aw h2,Ao,Bh k,Cn]
        repeat (refine Ad ?_)
        refine Ae (fun h=>Ac ?_) (fun h=> ?_)
        · simp[h]
        · have hih : ∀ s':Bool×Bool,s'=(s.1||decide (2048<x),s.2||decide (x=0))→Tw (My (l.length+1) m (dI l) s'.1 s'.2 ((k+1:Nat):Int)) (if (x::rest).any (fun x=>decide (x<0)) then [.int 0,.int 3] else if s.1||(x::rest).any (fun x=>decide (2048<x)) then [.int 0,.int 7] else if s.2||(x::rest).any (fun x=>decide (x=0)) then [.int 0,.int 0] else Lc (A_ l 1)):=fun s' hs'=>by
            have:=ih s' (fun y hy=>by
              subst hs'
              rcases hI y hy with ⟨a,b,c⟩ | b
              · refine .inl ⟨a,?_,?_⟩
                · rcases b with b | b
                  · left;simp[b]
                  · right;exact b
                · rcases c with b | b
                  · left;simp[b]
                  · right;exact b
              · rcases Apt.1 b with rfl | b
                · left
                  refine ⟨by omega,?_,?_⟩
                  · by_cases hh:2048<y
                    · left;simp[hh]
                    · right;omega
                  · by_cases hh:y=0
                    · left;simp[hh]
                    · right;exact hh
                · exact .inr b)
            subst hs'
            rw[List.any_cons,List.any_cons,List.any_cons,decide_eq_false h,Bool.false_or,← Bool.or_assoc,← Bool.or_assoc]
            exact this
          refine B7 (fun b1=>B7 (fun b2=> ?_) (fun b2=> ?_)) (fun b1=> ?_)
          · exact hih (true,true) (by simp[b1,b2])
          · repeat (refine Ad ?_)
            exact hih (true,decide (x=0)) (by simp[b1,b2])
          · repeat (refine Ad ?_)
            refine B7 (fun b2=> ?_) (fun b2=> ?_)
            · exact hih (decide (2048<x),true) (by simp[b1,b2])
            · repeat (refine Ad ?_)
              exact hih (decide (2048<x),decide (x=0)) (by simp[b1,b2]))
      (l.length+1) 0 (false,false) (by omega) (by omega) (fun x hx=> .inr hx)
    have e:(fun (c:Int×Int)=>[D.int c.1,D.int c.2]) (if l.any (fun x=>decide (x<0)) then (0,3) else if l.any (fun x=>decide (2048<x)) then (0,7)
      else if l.any (fun x=>decide (x=0)) then (0,0) else if A_ l 1=0 then (0,7) else (A_ l 1,0))=(if l.any (fun x=>decide (x<0)) then [.int 0,.int 3] else if false||l.any (fun x=>decide (2048<x)) then [.int 0,.int 7] else if false||l.any (fun x=>decide (x=0)) then [.int 0,.int 0] else Lc (A_ l 1)):=by
      simp only[Bool.false_or]
      split
      · rfl
      split
      · rfl
      split
      · rfl
      show _=Lc _
      unfold Lc
      split <;> rfl
    show Tw _ ((fun (c:Int×Int)=>[D.int c.1,D.int c.2]) _)
    rw[e]
    exact key
theorem Xd(p:Int→Bool) : ∀ (l:List Int) (k:Nat),decide (0≤Ee p k l)=l.any p
 | [],k=>by simp[Ee]
 | x::xs,k=>by
  rw[AfA,List.any_cons]
  by_cases hp:p x=true
  · rw[if_pos hp];simp[hp]
  · rw[if_neg hp,Xd p xs (k+1)];simp[hp]
theorem LZ(l:List Int)(v:Int)(hb:l.length≤9223372036854775807):Sp 74 [dI l,.int v] [.bool (l.any (fun x=>decide (x=v)))]:=by
 refine Af 0 (Am5 _ _ _) (Aa (ys:=[.int (Ee (fun x=>decide (x=v)) 0 l)]) ?_ (Ac ?_))
 · refine Af (l.length+1) (AmE _ _ _) ?_
   have key:=Ca l (fun m k (_:Unit)=>CI (l.length+1) m (dI l) v (l.length:Int) (k:Int)) (fun rest _=>[.int (Ee (fun x=>decide (x=v)) (l.length-rest.length) rest)]) (fun _ _=>True)
    (fun m k p hk hI=>by
     simp only[Ab7]
     refine At (Ac ?_)
     simp[Ee])
    (fun m k p x rest hd hI ih=>by
     obtain ⟨h1,h2,h3⟩:=B6 hd
     have hle:=congrArg Aql hd;rw[App,Apg]at hle;have hk:l.length-(x::rest).length=k:=by rw[Apg];omega
     have hk':l.length-rest.length=k+1:=by omega
     simp only[Ab7,Ch,Apd,Apj,Aw h2,Ao,Bh k,Cn]
     repeat (refine Ad ?_)
     simp only[Ee,hk]
     refine Ae (fun h=>Ac ?_) (fun h=> ?_)
     · simp[h]
     · have:=ih () trivial
       rw[hk']at this
       simpa [show ¬ x=v from fun e=>h e.symm]using this)
    (l.length+1) 0 () (by omega) (by omega) trivial
   simpa using key
 · exact congrArg (fun b=>[D.bool b]) (Xd _ l 0)
theorem AcJ(x:Int):Sp 168 [.int x] [.bool (decide (x<0))]:=Af 0 (Aml _ _) (Ac rfl)
theorem AcK(x:Int):Sp 169 [.int x] [.bool (decide (2048<x))]:=Af 0 (Amm _ _) (Ac rfl)
theorem AcH(l:List Int)(hb:l.length≤6):Sp 167 [dI l,D.fn 168 [] []] [.bool (l.any (fun x=>decide (x<0)))]:=by
 refine Af 0 (Am3 _ _) (Aa (ys:=[.int (Ee (fun x=>decide (x<0)) 0 l)]) ?_ (Ac ?_))
 · refine Af (l.length+1) (AmC _ _) ?_
   have key:=Ca l (fun m k (_:Unit)=>I1 (l.length+1) m (dI l) (D.fn 168 [] []) (l.length:Int) (k:Int)) (fun rest _=>[.int (Ee (fun x=>decide (x<0)) (l.length-rest.length) rest)]) (fun _ _=>True)
    (fun m k p hk hI=>by
     simp only[Ab5]
     refine At (Ac ?_)
     simp[Ee])
    (fun m k p x rest hd hI ih=>by
     obtain ⟨h1,h2,h3⟩:=B6 hd
     have hle:=congrArg Aql hd;rw[App,Apg]at hle;have hk:l.length-(x::rest).length=k:=by rw[Apg];omega
     have hk':l.length-rest.length=k+1:=by omega
     simp only[Ab5,Ch,Apd,Apj,Aw h2,Ao,Bh k,Hu,Hs,Ht,Apx]
     repeat (refine Ad ?_)
     refine Aa (AcJ x) ?_
     simp only[Ah,Ba,Ee,hk]
     refine Ae (fun h=>Ac ?_) (fun h=> ?_)
     · simp[h]
     · have:=ih () trivial
       rw[hk']at this
       simpa [h]using this)
    (l.length+1) 0 () (by omega) (by omega) trivial
   simpa using key
 · exact congrArg (fun b=>[D.bool b]) (Xd _ l 0)
theorem AcI(l:List Int)(hb:l.length≤6):Sp 167 [dI l,D.fn 169 [] []] [.bool (l.any (fun x=>decide (2048<x)))]:=by
 refine Af 0 (Am4 _ _) (Aa (ys:=[.int (Ee (fun x=>decide (2048<x)) 0 l)]) ?_ (Ac ?_))
 · refine Af (l.length+1) (AmD _ _) ?_
   have key:=Ca l (fun m k (_:Unit)=>I1 (l.length+1) m (dI l) (D.fn 169 [] []) (l.length:Int) (k:Int)) (fun rest _=>[.int (Ee (fun x=>decide (2048<x)) (l.length-rest.length) rest)]) (fun _ _=>True)
    (fun m k p hk hI=>by
     simp only[Ab6]
     refine At (Ac ?_)
     simp[Ee])
    (fun m k p x rest hd hI ih=>by
     obtain ⟨h1,h2,h3⟩:=B6 hd
     have hle:=congrArg Aql hd;rw[App,Apg]at hle;have hk:l.length-(x::rest).length=k:=by rw[Apg];omega
     have hk':l.length-rest.length=k+1:=by omega
     simp only[Ab6,Ch,Apd,Apj,Aw h2,Ao,Bh k,Hu,Hs,Ht,Apx]
     repeat (refine Ad ?_)
     refine Aa (AcK x) ?_
     simp only[Ah,Ba,Ee,hk]
     refine Ae (fun h=>Ac ?_) (fun h=> ?_)
     · simp[h]
     · have:=ih () trivial
       rw[hk']at this
       simpa [h]using this)
    (l.length+1) 0 () (by omega) (by omega) trivial
   simpa using key
 · exact congrArg (fun b=>[D.bool b]) (Xd _ l 0)
theorem Amr(l:List Int)(hb:l.length≤6)(hx : ∀ x∈l,1≤x∧x≤2048):Sp 170 [dI l] [.int (A_ l 1)]:=by
 refine Af (l.length+1) (Abv _ _) ?_
 have key:=Ca l (fun m k (p:Int)=>T_ (l.length+1) m p (dI l) (l.length:Int) (k:Int)) (fun rest p=>[.int (A_ rest p)]) (fun _ p=>1≤p∧p≤2048)
  (fun m k p hk hI=>by
   simp only[BV]
   exact At (Ac rfl))
  (fun m k p x rest hd hI ih=>by
   obtain ⟨h1,h2,h3⟩:=B6 hd
   have hxx:=hx x (Aph h2)
   have hp:=KE hI.1 hI.2 hxx.1 hxx.2
   simp only[BV,Ch,Apd,Apj,Aw h2,Ao,Bh k,Ax (x:=p*x) (by omega) (by omega)]
   repeat (refine Ad ?_)
   simp only[A_]
   refine Ae (fun h=>Ac ?_) (fun h=> ?_)
   · rw[if_pos h]
   · rw[if_neg h];exact ih _ ⟨hp.1,by omega⟩)
  (l.length+1) 0 1 (by omega) (by omega) (by decide)
 simpa using key
theorem Ol(l:List Int):Sp 81 [dI l] [.int (A7 l).1,.int (A7 l).2]:=by
 refine Af 0 (Amn _ _) ?_
 simp only[Ch,Apd]
 unfold A7
 refine Ae (fun h=>Ac ?_) (fun h=> ?_)
 · rw[if_pos (by omega)]
 · rw[if_neg (by omega)]
   refine Aa (AcH l (by omega)) ?_
   simp only[Ah,Ba]
   refine B7 (fun h1=>Ac (by rw[if_pos h1])) (fun h1=> ?_)
   rw[if_neg (by simp[h1])]
   refine Aa (AcI l (by omega)) ?_
   simp only[Ah,Ba]
   refine B7 (fun h2=>Ac (by rw[if_pos h2])) (fun h2=> ?_)
   rw[if_neg (by simp[h2])]
   refine Aa (LZ l 0 (by omega)) ?_
   simp only[Ah,Ba]
   refine B7 (fun h3=>Ac (by rw[if_pos h3])) (fun h3=> ?_)
   rw[if_neg (by simp[h3])]
   refine Aa (Amr l (by omega) (Vw (by simp[h1]) (by simp[h2]) (by simp[h3]))) ?_
   simp only[Ah,Ao,Cn]
   refine Ae (fun h4=>Ac (by rw[if_pos h4])) (fun h4=>Ac (by rw[if_neg h4]))
theorem ZQ(a b:List Int)(ha:a.length≤9223372036854775807):Sp 54 [dI a,dI b] [.bool (decide (a=b))]:=by
 refine Af (a.length+1) (AkQ _ _ _) ?_
 simp only[Ch,Apd,Dg]
 refine Ae (fun h=>Ac ?_) (fun h=> ?_)
 · rw[decide_eq_false];rintro rfl;exact h rfl
 · exact Wd D.int QH a b (by omega) ha (fun m i=>AG (a.length+1) m (dI a) (dI b) i) (fun m i=>AkP _ _ _ _ _)
def Xx(c:Int):Bool:=decide (0≤c∧c≤1114111∧(c<55296∨57343<c))
theorem AgD(c:Int):Tw (.br (decide (0≤c)) (.br (decide (c≤1114111)) (.br (decide (c<55296)) (.ret [D.bool true]) (.ret [D.bool (decide (57343<c))])) (.ret [D.bool false])) (.ret [D.bool false])) [.bool (Xx c)]:=by
 unfold Xx
 refine Ae (fun h1=>Ae (fun h2=>Ae (fun h3=>Ac ?_) (fun h3=>Ac ?_)) (fun h2=>Ac ?_)) (fun h1=>Ac ?_)
 · rw[decide_eq_true (by omega)]
 · congr 2;rw[decide_eq_decide];omega
 · rw[decide_eq_false (by omega)]
 · rw[decide_eq_false (by omega)]
theorem AkK(c:Int):Sp 135 [.int c] [.bool (Xx c)]:=Af 0 (AkL _ _) (AgD c)
open Go.ChangeShapes Go.WideShapes Go.ChangeAt Go.RowKit
section
variable {P:Program} {md:Nat→FMode}
theorem Agl{F:Nat}{fn:Func}{xs:List D}{vs:List Value}{W:World}{tb:Nat}(hs:D_ P md F [] xs [.bool true])(hfn:P.funcs[F]? = some fn)(hm:md F = {})(hrt:fn.resultTypes = #[tb])(htb:P.underlying tb=some .bool)
   (hlx:xs.length=fn.params.size) (hlv:vs.length=fn.params.size) (hrd : ∀ (i t:Nat) (x:D) (v:Value),fn.params.toList[i]? = some t→xs[i]? = some x→vs[i]? = some v→Rd P md W (fun _=>False) (.ty t) x v) :
   Calls P F vs.toArray W (fun e w'=>e = .returned (.bool true)∧Ext W w'):=by
 obtain ⟨fn',h1,_,_,h⟩:=hs
 rw[hfn]at h1
 injection h1 with h1
 subst h1
 refine (h W (fun _=>False) vs 0 1 (fun k hk=>by rw[hm]at hk;cases hk) ⟨by simp[hlx],by simp[hlv],fun b hb=>hb.elim,?_,fun p hp=>by rw[hm]at hp;cases hp⟩).mono ?_
 · intro i ct x v hc hx hv _
   simp only[Apx,Aps,Apq]at hc
   obtain ⟨t,ht,rfl⟩:=hc
   have:=hrd i t x v ht hx hv
   exact ⟨this.rd.mono (Apo _) (fun _ _ _=>rfl) (fun b hb _=>by
    rcases hb with hb | ⟨p,u,hp,_⟩
    · exact hb
    · rw[hm]at hp;cases hp),this.size,this.agg⟩
 · rintro e w' ⟨us,β',hp⟩
   have hl:=hp.len
   rw[hrt]at hl
   have : ∃ u,us = [u]:=by
    match us,hl with
    | [u],_=>exact ⟨u,rfl⟩
   obtain ⟨u,rfl⟩:=this
   have hv:=hp.vl [.b true] (by rw[hrt,hm];simp[Es,Gg,Bz,htb,D.toBool,List.getD]) 0 (.b true) u rfl rfl
   have hu:=Ly hv
   subst hu
   refine ⟨hp.ending,?_⟩
   have:=hp.stp
   refine Stp.ext (this.weak fun b ⟨p,v,h1,_⟩=> ?_)
   rw[hm]at h1;cases h1
theorem Qq{t:Nat}{k:IntKind}{w:World}{M:Nat→Prop}{y:D}{c:Nat→Option Value}(h:RdC P md w M (.ty t) y c)(ht:P.underlying t=some (.int k)) : ∃ n,y = .int n∧k.min≤n∧n≤k.max:=by
 cases h <;> simp_all [CT.desc]
 all_goals (rename_i hf _;obtain ⟨⟨a,ha,_⟩,_⟩:=Cx hf;rw[ht]at ha;cases ha)
theorem AjS{t:Nat}{w:World}{M:Nat→Prop}{y:D}{c:Nat→Option Value}(h:RdC P md w M (.ty t) y c)(ht:P.underlying t=some .bool) : ∃ b,y = .bool b:=by
 cases h <;> simp_all [CT.desc]
 all_goals (rename_i hf _;obtain ⟨⟨a,ha,_⟩,_⟩:=Cx hf;rw[ht]at ha;cases ha)
theorem Zw{t e:Nat}{w:World}{M:Nat→Prop}{y:D}{c:Nat→Option Value}(h:RdC P md w M (.ty t) y c)(ht:P.underlying t=some (.slice e)) : ∃ es,y = .sl es∧es.length≤maxLen∧∀ x∈es,∃ c',RdC P md w M (.ty e) x c':=by
 cases h with
 | sl ht' hc h1 h2 hA hh =>
  have:P.underlying t=some (.slice _):=ht'
  rw[ht]at this
  injection this with this
  injection this with this
  subst this
  refine ⟨_,rfl,Nat.le_trans h1 h2,fun x hx=> ?_⟩
  obtain ⟨i,hi,rfl⟩:=List.getElem_of_mem hx
  exact ⟨_,hh i _ (Apb hi)⟩
 | struct hf _ _=>obtain ⟨⟨a,ha,_⟩,_⟩:=Cx hf;rw[ht]at ha;cases ha
 | int ht'=>have:P.underlying t=_:=ht';rw[ht]at this;cases this
 | bool ht'=>have:P.underlying t=_:=ht';rw[ht]at this;cases this
 | str ht'=>have:P.underlying t=_:=ht';rw[ht]at this;cases this
 | fn ht'=>have:P.underlying t=_:=ht';rw[ht]at this;cases this
 | mp ht'=>have:P.underlying t=_:=ht';rw[ht]at this;cases this
 | ref ht'=>have:P.underlying t=_:=ht';rw[ht]at this;cases this
theorem KN{t:Nat}{fs:List Field}{w:World}{M:Nat→Prop}{y:D}{c:Nat→Option Value}(h:RdC P md w M (.ty t) y c)(ht:Df P t=some fs) : ∃ ds,y = .agg ds∧ds.length=fs.length∧∀ (i:Nat) (f:Field) (d:D),fs[i]? = some f→ds[i]? = some d→∃ c',RdC P md w M (.ty f.type) d c':=by
 obtain ⟨⟨a,ha,_⟩,_⟩:=Cx ht
 cases h with
 | struct hf hl hh =>
  rw[ht]at hf
  injection hf with hf
  subst hf
  exact ⟨_,rfl,hl,fun i f d h1 h2=>⟨_,hh i f d h1 h2⟩⟩
 | sl ht'=>have:P.underlying t=_:=ht';rw[ha]at this;cases this
 | int ht'=>have:P.underlying t=_:=ht';rw[ha]at this;cases this
 | bool ht'=>have:P.underlying t=_:=ht';rw[ha]at this;cases this
 | str ht'=>have:P.underlying t=_:=ht';rw[ha]at this;cases this
 | fn ht'=>have:P.underlying t=_:=ht';rw[ha]at this;cases this
 | mp ht'=>have:P.underlying t=_:=ht';rw[ha]at this;cases this
 | ref ht'=>have:P.underlying t=_:=ht';rw[ha]at this;cases this
theorem AjT{t e:Nat}{w:World}{M:Nat→Prop}{y:D}{c:Nat→Option Value}(h:RdC P md w M (.ty t) y c)(ht:P.underlying t=some (.slice e))(he:P.underlying e=some (.int .i64)) : ∃ l,y=dI l∧l.length≤maxLen∧∀ x∈l,-9223372036854775808≤x∧x≤9223372036854775807:=by
 obtain ⟨es,rfl,hl,hh⟩:=Zw h ht
 have : ∃ l:List Int,es=l.map .int∧∀ x∈l,-9223372036854775808≤x∧x≤9223372036854775807:=by
  clear hl h
  induction es with
  | nil=>exact ⟨[],rfl,fun _ h=>by cases h⟩
  | cons x es ih =>
   obtain ⟨l,rfl,hl⟩:=ih (fun y hy=>hh y (by simp[hy]))
   obtain ⟨c',hc⟩:=hh x (by simp)
   obtain ⟨n,rfl,h1,h2⟩:=Qq hc he
   exact ⟨n::l,rfl,fun y hy=>by rcases Apt.1 hy with rfl | hy;exact ⟨h1,h2⟩;exact hl y hy⟩
 obtain ⟨l,rfl,h2⟩:=this
 exact ⟨l,rfl,by simpa using hl,h2⟩
theorem YR{t e:Nat}{w:World}{M:Nat→Prop}{y:D}{c:Nat→Option Value}(h:RdC P md w M (.ty t) y c)(ht:P.underlying t=some (.slice e))(he:P.underlying e=some (.int .u32)) : ∃ l:List Ar,y=dL l∧l.length≤maxLen:=by
 obtain ⟨es,rfl,hl,hh⟩:=Zw h ht
 have : ∃ l:List Ar,es=l.map dB:=by
  clear hl h
  induction es with
  | nil=>exact ⟨[],rfl⟩
  | cons x es ih =>
   obtain ⟨l,rfl⟩:=ih (fun y hy=>hh y (by simp[hy]))
   obtain ⟨c',hc⟩:=hh x (by simp)
   obtain ⟨n,rfl,h1,h2⟩:=Qq hc he
   have h1:0≤n:=h1
   have h2:n≤4294967295:=h2
   refine ⟨Apw 32 n.toNat::l,?_⟩
   simp only[Ap7,dB,BitVec.toNat_ofNat]
   rw[Ap6 (by omega),Int.toNat_of_nonneg h1]
 obtain ⟨l,rfl⟩:=this
 exact ⟨l,rfl,by simpa using hl⟩
theorem KM{t:Nat}{w:World}{M:Nat→Prop}{y:D}{c:Nat→Option Value}(h:RdC P md w M (.ty t) y c)(ht:P.underlying t=some (.int .u64)) : ∃ l:Al,y=dB l:=by
 obtain ⟨n,rfl,h1,h2⟩:=Qq h ht
 have h1:0≤n:=h1
 have h2:n≤18446744073709551615:=h2
 refine ⟨Apw 64 n.toNat,?_⟩
 simp only[dB,BitVec.toNat_ofNat]
 rw[Ap6 (by omega),Int.toNat_of_nonneg h1]
end
end Go.Proofs.YtokkbgpgaheakaaGreat
namespace Go.Proofs.YtokkbgpgaheakaaGreat
open Go.ChangeShapes Go.WideShapes Go.ChangeAt Go.RowKit
theorem TT{α:Type}{l:List α}(h:l.length=3) : ∃ a b c,l = [a,b,c]:=by
 match l,h with
 | [a,b,c],_=>exact ⟨a,b,c,rfl⟩
theorem Agr{α:Type}{l:List α}(h:l.length=5) : ∃ a b c d e,l = [a,b,c,d,e]:=by
 match l,h with
 | [a,b,c,d,e],_=>exact ⟨a,b,c,d,e,rfl⟩
inductive Fits:Arr→Prop where
 | mk {s:Al} {sh:List Int} {cs:List Cell} (h1:sh.length≤maxLen) (h2:cs.length≤maxLen) (h3 : ∀ c∈cs,c.n.top.length≤maxLen∧c.n.bot.length≤maxLen∧c.inn.length≤maxLen) (h5 : ∀ x∈sh,-9223372036854775808≤x∧x≤9223372036854775807)
  (h4 : ∀ c∈cs,∀ x∈c.inn,Fits x):Fits (.mk s sh cs)
theorem AeV:(Df Tryz.prog 64).map (fun fs=>fs.map (·.type))=some [4,62,62]:=by kernel_rfl
theorem AeU:(Df Tryz.prog 67).map (fun fs=>fs.map (·.type))=some [22,3,64,3,65]:=by kernel_rfl
theorem AeT:(Df Tryz.prog 26).map (fun fs=>fs.map (·.type))=some [22,23,24]:=by kernel_rfl
theorem Jv{fs:List Field}{ts:List Nat}(h:fs.map (·.type)=ts){i t:Nat}(ht:ts[i]? = some t) : ∃ f,fs[i]? = some f∧f.type=t:=by
 subst h
 simpa [Aps,Apq]using ht
theorem AjU{w:World}{M:Nat→Prop}{y:D}{c:Nat→Option Value}(h:RdC Tryz.prog md w M (.ty 64) y c) : ∃ n,y=dN n∧n.top.length≤maxLen∧n.bot.length≤maxLen:=by
 obtain ⟨fs,hf,ht⟩:=Apq.1 AeV
 obtain ⟨ds,rfl,hl,hh⟩:=KN h hf
 have:fs.length=3:=by rw[← Apd (f:=(·.type)),ht];rfl
 obtain ⟨a,b,c,rfl⟩:=TT (by rw[hl,this])
 obtain ⟨f0,hf0,e0⟩:=Jv ht (i:=0) rfl
 obtain ⟨f1,hf1,e1⟩:=Jv ht (i:=1) rfl
 obtain ⟨f2,hf2,e2⟩:=Jv ht (i:=2) rfl
 obtain ⟨_,h0⟩:=hh 0 f0 a hf0 rfl
 obtain ⟨_,h1⟩:=hh 1 f1 b hf1 rfl
 obtain ⟨_,h2⟩:=hh 2 f2 c hf2 rfl
 rw[e0]at h0;rw[e1]at h1;rw[e2]at h2
 obtain ⟨n,rfl⟩:=AjS h0 (by kernel_rfl)
 obtain ⟨t,rfl,l1⟩:=YR h1 (e:=180) (by kernel_rfl) (by kernel_rfl)
 obtain ⟨t',rfl,l2⟩:=YR h2 (e:=180) (by kernel_rfl) (by kernel_rfl)
 exact ⟨⟨n,t,t'⟩,rfl,l1,l2⟩
mutual
def D.sz:D→Nat
 | .agg fs=>1+D.szL fs | .sl es=>1+D.szL es | _=>0
def D.szL:List D→Nat
 | []=>0 | x::xs=>1+x.sz+D.szL xs
end
theorem YO : ∀ (k:Nat) {w:World} {M:Nat→Prop} {y:D} {c:Nat→Option Value},y.sz<k→RdC Tryz.prog md w M (.ty 26) y c→∃ a,y=dA a∧Fits a
 | 0,_,_,_,_,hk,_=>by omega
 | k+1,w,M,y,c,hk,h=>by
  obtain ⟨fs,hf,ht⟩:=Apq.1 AeT
  obtain ⟨ds,rfl,hl,hh⟩:=KN h hf
  have:fs.length=3:=by rw[← Apd (f:=(·.type)),ht];rfl
  obtain ⟨a,b,c,rfl⟩:=TT (by rw[hl,this])
  obtain ⟨f0,hf0,e0⟩:=Jv ht (i:=0) rfl
  obtain ⟨f1,hf1,e1⟩:=Jv ht (i:=1) rfl
  obtain ⟨f2,hf2,e2⟩:=Jv ht (i:=2) rfl
  obtain ⟨_,h0⟩:=hh 0 f0 a hf0 rfl
  obtain ⟨_,h1⟩:=hh 1 f1 b hf1 rfl
  obtain ⟨_,h2⟩:=hh 2 f2 c hf2 rfl
  rw[e0]at h0;rw[e1]at h1;rw[e2]at h2
  obtain ⟨s,rfl⟩:=KM h0 (by kernel_rfl)
  obtain ⟨sh,rfl,l1,l1'⟩:=AjT h1 (e:=3) (by kernel_rfl) (by kernel_rfl)
  obtain ⟨es,rfl,l2,hes⟩:=Zw h2 (e:=67) (by kernel_rfl)
  have hsz:D.szL es<k:=by simp only[D.sz,D.szL]at hk;omega
  have key : ∃ cs:List Cell,es=cs.map dC∧(∀ c∈cs,c.n.top.length≤maxLen∧c.n.bot.length≤maxLen∧c.inn.length≤maxLen)∧∀ c∈cs,∀ x∈c.inn,Fits x:=by
   clear l2 h2 h hh h0 h1 hf0 hf1 hf2 e0 e1 e2 hl hk
   induction es with
   | nil=>exact ⟨[],rfl,(fun _ h=>by cases h),(fun _ h=>by cases h)⟩
   | cons x es ih =>
    simp only[D.szL]at hsz
    obtain ⟨cs,rfl,g1,g2⟩:=ih (fun y hy=>hes y (by simp[hy])) (by omega)
    obtain ⟨_,hx⟩:=hes x (by simp)
    obtain ⟨fs,hf,ht⟩:=Apq.1 AeU
    obtain ⟨ds,rfl,hl,hh⟩:=KN hx hf
    have:fs.length=5:=by rw[← Apd (f:=(·.type)),ht];rfl
    obtain ⟨a,b,c,d,e,rfl⟩:=Agr (by rw[hl,this])
    obtain ⟨f0,hf0,e0⟩:=Jv ht (i:=0) rfl
    obtain ⟨f1,hf1,e1⟩:=Jv ht (i:=1) rfl
    obtain ⟨f2,hf2,e2⟩:=Jv ht (i:=2) rfl
    obtain ⟨f3,hf3,e3⟩:=Jv ht (i:=3) rfl
    obtain ⟨f4,hf4,e4⟩:=Jv ht (i:=4) rfl
    obtain ⟨_,h0⟩:=hh 0 f0 a hf0 rfl
    obtain ⟨_,h1⟩:=hh 1 f1 b hf1 rfl
    obtain ⟨_,h2⟩:=hh 2 f2 c hf2 rfl
    obtain ⟨_,h3⟩:=hh 3 f3 d hf3 rfl
    obtain ⟨_,h4⟩:=hh 4 f4 e hf4 rfl
    rw[e0]at h0;rw[e1]at h1;rw[e2]at h2;rw[e3]at h3;rw[e4]at h4
    obtain ⟨l,rfl⟩:=KM h0 (by kernel_rfl)
    obtain ⟨kd,rfl,_⟩:=Qq h1 (k:= .i64) (by kernel_rfl)
    obtain ⟨n,rfl,n1,n2⟩:=AjU h2
    obtain ⟨ch,rfl,_⟩:=Qq h3 (k:= .i64) (by kernel_rfl)
    obtain ⟨as_,rfl,l4,has⟩:=Zw h4 (e:=26) (by kernel_rfl)
    have hsz4:D.szL as_<k:=by simp only[D.sz,D.szL]at hsz;omega
    have key2 : ∃ bs:List Arr,as_=bs.map dA∧∀ x∈bs,Fits x:=by
      clear h4 hh hx hes ih l4 hsz hl
      induction as_ with
      | nil=>exact ⟨[],rfl,fun _ h=>by cases h⟩
      | cons z zs ihz =>
       simp only[D.szL]at hsz4
       obtain ⟨bs,rfl,hb⟩:=ihz (fun y hy=>has y (by simp[hy])) (by omega)
       obtain ⟨_,hz⟩:=has z (by simp)
       obtain ⟨a,rfl,ha⟩:=YO k (by omega) hz
       exact ⟨a::bs,rfl,fun y hy=>by rcases Apt.1 hy with rfl | hy;exact ha;exact hb y hy⟩
    obtain ⟨bs,rfl,hb⟩:=key2
    refine ⟨⟨l,kd,n,ch,bs⟩::cs,by simp[Ec],fun c hc=> ?_,fun c hc=> ?_⟩
    · rcases Apt.1 hc with rfl | hc
      · exact ⟨n1,n2,by simpa using l4⟩
      · exact g1 c hc
    · rcases Apt.1 hc with rfl | hc
      · exact hb
      · exact g2 c hc
  obtain ⟨cs,rfl,g1,g2⟩:=key
  exact ⟨.mk s sh cs,(Aer s sh cs),.mk l1 (by simpa using l2) g1 l1' g2⟩
def Agk:List Nat:=[4,3,22,180,62,23,64,67,26,65,24]
theorem IJ:JX Tryz.prog Agk=true:=by kernel_rfl
section
variable {H:Type} {enc:TypeId×Value→H} {W:World} {sp:Nat→Bool} {held:Bool} {r:Reach} {b0:Nat} {v:Value} {d:DataW H} {ps:List MemPlace}
theorem U8(hval:Value.okWide Tryz.prog W r b0 26 v)(h:DataW.Trod enc Tryz.prog W 0 sp held 26 v d ps) : ∃ a,Fits a∧Rd Tryz.prog md W (fun _=>False) (.ty 26) (dA a) v:=by
 obtain ⟨y,hy,hyw⟩:=EM (md:=md) Lz IJ (by decide) hval h
 obtain ⟨a,rfl,ha⟩:=YO _ (Nat.lt_succ_self _) hy.rd
 exact ⟨a,ha,hy⟩
theorem Ade(hval:Value.okWide Tryz.prog W r b0 22 v)(h:DataW.Trod enc Tryz.prog W 0 sp held 22 v d ps) : ∃ a:Al,Rd Tryz.prog md W (fun _=>False) (.ty 22) (dB a) v:=by
 obtain ⟨y,hy,hyw⟩:=EM (md:=md) Lz IJ (by decide) hval h
 obtain ⟨a,rfl⟩:=KM hy.rd (by kernel_rfl)
 exact ⟨a,hy⟩
theorem Add(hval:Value.okWide Tryz.prog W r b0 3 v)(h:DataW.Trod enc Tryz.prog W 0 sp held 3 v d ps) : ∃ a:Int,(-9223372036854775808≤a∧a≤9223372036854775807)∧Rd Tryz.prog md W (fun _=>False) (.ty 3) (.int a) v:=by
 obtain ⟨y,hy,hyw⟩:=EM (md:=md) Lz IJ (by decide) hval h
 obtain ⟨a,rfl,h1,h2⟩:=Qq hy.rd (k:= .i64) (by kernel_rfl)
 exact ⟨a,⟨h1,h2⟩,hy⟩
end
end Go.Proofs.YtokkbgpgaheakaaGreat
namespace Go.Proofs.YtokkbgpgaheakaaGreat
theorem Fits.len {a:Arr} (h:Fits a):a.cells.length≤9223372036854775807:=by cases h;assumption
theorem Fits.sh {a:Arr} (h:Fits a):a.shape.length≤9223372036854775807:=by cases h;assumption
def K4(c:Cell):Prop:=c.n.top.length≤9223372036854775807∧c.n.bot.length≤9223372036854775807∧c.inn.length≤9223372036854775807∧∀ x∈c.inn,Fits x
theorem Fits.cell {a:Arr} (h:Fits a) : ∀ c∈a.cells,K4 c:=by
 cases h with
 | mk h1 h2 h3 h5 h4=>exact fun c hc=>⟨(h3 c hc).1,(h3 c hc).2.1,(h3 c hc).2.2,h4 c hc⟩
theorem Fits.of {s:Al} {sh:List Int} {cs:List Cell} (h1:sh.length≤9223372036854775807) (h2:cs.length≤9223372036854775807) (h3 : ∀ x∈sh,Bd x) (h4 : ∀ c∈cs,K4 c):Fits (.mk s sh cs) :=
 .mk h1 h2 (fun c hc=>⟨(h4 c hc).1,(h4 c hc).2.1,(h4 c hc).2.2.1⟩) h3 (fun c hc=>(h4 c hc).2.2.2)
mutual
def Au:Arr→Al
 | .mk s _ cs=>Uk s cs
def Uk:Al→List (CellF Arr)→Al
 | l,[]=>l
 | l,c::cs=>Uk (Lw l c) cs
def Lw:Al→CellF Arr→Al
 | l,⟨cl,_,_,_,inn⟩=>Uj (l|||cl) inn
def Uj:Al→List Arr→Al
 | l,[]=>l
 | l,a::as_=>Uj (l|||Au a) as_
end
theorem AbY : ∀ (as_:List Arr) (l:Al),Uj l as_=as_.foldl (fun l x=>l|||Au x) l
 | [],l=>by simp[Uj]
 | a::as_,l=>by simp[Uj,AbY as_]
theorem MN(l:Al)(c:Cell):Lw l c=c.inn.foldl (fun l x=>l|||Au x) (l|||c.l):=by cases c;rw[Lw,AbY]
theorem AbZ : ∀ (cs:List Cell) (l:Al),Uk l cs=cs.foldl Lw l
 | [],l=>by simp[Uk]
 | c::cs,l=>by simp[Uk,AbZ cs]
theorem MM(a:Arr):Au a=a.cells.foldl Lw a.s:=by cases a;rw[Au,AbZ];rfl
def B9(a:Arr):Bool:=match a.shape,a.cells with
 | [],[c]=>decide (¬ c.kind=2)
 | _,_=>false
def I_(c:Cell)(r:Arr→Bool):Bool:=match c.inn with
 | [x]=> !B9 x&&r x
 | _=>false
def C7(k:Bool)(r:Arr→Bool)(c:Cell):Bool :=
 if c.kind=0 then decide (c.c=0∧c.inn.length=0)&&Et c.n
 else if c.kind=1 then decide (c.n = .zero∧c.inn.length=0)&&Xx c.c
 else decide (c.kind=2∧c.n = .zero∧c.c=0)&&(k&&I_ c r)
def Aj:Nat→Arr→Bool
 | 0,a=>decide (A7 a.shape=((a.cells.length:Int),0))&&a.cells.all (C7 false (fun _=>false))
 | d+1,a=>decide (A7 a.shape=((a.cells.length:Int),0))&&a.cells.all (C7 true (Aj d))
def Bi:Nat→Cell→Bool
 | 0=>C7 false (fun _=>false)
 | d+1=>C7 true (Aj d)
theorem BB(d:Nat)(a:Arr):Aj d a=(decide (A7 a.shape=((a.cells.length:Int),0))&&a.cells.all (Bi d)):=by cases d <;> rfl
theorem Amv{Q:List D→Prop}(a:Arr)(hq:Q [.bool (B9 a)]):(Tree.br (decide ((a.shape.length:Int)=0)) (.br (decide ((a.cells.length:Int)=1)) (.br (decide (0≤(0:Int))) (.br (decide (0<(a.cells.length:Int))) (.ret [D.bool (decide (¬ (((((a.cells.map dC).getD (Apa 0) D.nil).fld 1).toInt)=2)))]) .fail) .fail) (.ret [D.bool false])) (.ret [D.bool false])).wp Tryz.prog md Q:=by
 unfold B9 at hq
 refine Ae (fun h1=>Ae (fun h2=> ?_) (fun h2=>Ac ?_)) (fun h1=>Ac ?_)
 · match hs:a.shape,hc:a.cells with
   | [],[c] =>
    rw[hs,hc]at hq
    exact Ad (A0 (by simp) (Ac (by simpa [Apa]using hq)))
   | x::xs,_=>rw[hs]at h1;simp at h1;omega
   | _,[]=>rw[hc]at h2;simp at h2
   | _,x::y::xs=>rw[hc]at h2;simp at h2;omega
 · match hs:a.shape,hc:a.cells with
   | [],[c]=>rw[hc]at h2;simp at h2
   | x::xs,_=>rw[hs]at hq;exact hq
   | [],[]=>rw[hs,hc]at hq;exact hq
   | [],x::y::xs=>rw[hs,hc]at hq;exact hq
 · match hs:a.shape,hc:a.cells with
   | [],_=>rw[hs]at h1;simp at h1
   | x::xs,_=>rw[hs]at hq;exact hq
theorem Alc(a:Arr):Sp 136 [dA a] [.bool (B9 a)]:=by
 refine Af 0 (Ald _ _) ?_
 simp only[Ai]
 exact Amv a rfl
theorem Aag(n:Num):Sp 134 [dN n] [.bool (decide (n = .zero))]:=by
 refine Af 0 (Alg _ _) ?_
 simp only[Nm,Pe,Nn,B3,Apd,Ba,Cn]
 have e:(n=Num.zero)↔(n.neg=false∧n.top.length=0∧n.bot.length=0):=by
  rw[JD,Ap2,Ap2];rfl
 refine B7 (fun h1=>Ae (fun h2=>Ac ?_) (fun h2=>Ac ?_)) (fun h1=>Ac ?_)
 · congr 2;rw[decide_eq_decide,e];exact ⟨fun h=>⟨by simpa using h1,by omega,by omega⟩,fun h=>by omega⟩
 · rw[decide_eq_false];rw[e];omega
 · rw[decide_eq_false];rw[e];simp at h1;simp[h1]
theorem ZR(d:Nat)(c:Cell)(hc:K4 c)(hd:d≤100)(ih : ∀ e,e+1=d→∀ a,Fits a→Sp 13 [dA a,.int (e:Int)] [.bool (Aj e a)]):Sp 53 [dC c,.int (d:Int)] [.bool (Bi d c)]:=by
 suffices key : ∀ (k:Bool) (r:Arr→Bool),(k=true↔0<d)→(∀ a,k=true→Fits a→Sp 13 [dA a,.int ((d:Int)-1)] [.bool (r a)])→Sp 53 [dC c,.int (d:Int)] [.bool (C7 k r c)] by
   cases d with
   | zero=>exact key false (fun _=>false) (by simp) (by simp)
   | succ e=>exact key true (Aj e) (by simp) (fun a _ ha=>by have:=ih e rfl a ha;simpa using this)
 intro k r hk hr
 refine Af 0 (AkR _ _ _) ?_
 simp only[Ai]
 unfold C7
 refine Ae (fun h0=> ?_) (fun h0=> ?_)
 · rw[if_pos h0]
   refine Ae (fun h1=>Ae (fun h2=>Aa (AkC c.n) (Ac ?_)) (fun h2=>Ac ?_)) (fun h1=>Ac ?_)
   · rw[decide_eq_true ⟨h1,by omega⟩];rfl
   · rw[decide_eq_false (by omega)];rfl
   · rw[decide_eq_false (by omega)];rfl
 rw[if_neg h0]
 refine Ae (fun h0=>Aa (Aag c.n) ?_) (fun h0=> ?_)
 · rw[if_pos h0]
   simp only[Ah,Ba]
   refine Ae (fun h1=>Ae (fun h2=>Aa (AkK c.c) (Ac ?_)) (fun h2=>Ac ?_)) (fun h1=>Ac ?_)
   · rw[decide_eq_true ⟨h1,by omega⟩];rfl
   · rw[decide_eq_false (fun hh=>h2 (by omega))];rfl
   · rw[decide_eq_false (fun hh=>h1 hh.1)];rfl
 rw[if_neg h0]
 refine Ae (fun h0=>Aa (Aag c.n) ?_) (fun h0=>Ac (by rw[decide_eq_false (fun hh=>h0 hh.1)];rfl))
 simp only[Ah,Ba]
 refine Ae (fun h1=>Ae (fun h2=>Ae (fun h3=>Ae (fun h4=> ?_) (fun h4=>Ac ?_)) (fun h3=>Ac ?_)) (fun h2=>Ac ?_)) (fun h1=>Ac ?_)
 · have hkt:=hk.2 (by omega)
   rw[show decide (c.kind=2∧c.n = .zero∧c.c=0)=true from decide_eq_true ⟨h0,h1,h2⟩,hkt,Bool.true_and,Bool.true_and]
   unfold I_
   match hi:c.inn with
   | []=>rw[hi]at h3;simp at h3
   | x::y::xs=>rw[hi]at h3;simp at h3;omega
   | [x] =>
    simp only[Ap7,List.map_nil,Int.toNat_zero,Ah,Apg,Apv]
    refine Ad (Ad (Aa (Alc x) ?_))
    simp only[Ah,Ba]
    refine B7 (fun h5=>Ad (Ad ?_)) (fun h5=>Ac (by rw[h5];rfl))
    rw[Ax (by omega) (by omega)]
    refine Aa (hr x hkt (hc.2.2.2 x (by rw[hi];simp))) (Ac ?_)
    rw[h5];rfl
 · have:k=false:=by cases k with
    | false=>rfl
    | true=>exact absurd (hk.1 rfl) (by omega)
   rw[this,Bool.false_and,Bool.and_false]
 · have:I_ c r=false:=by
    unfold I_
    match hi:c.inn with
    | []=>rfl
    | x::y::xs=>rfl
    | [x]=>rw[hi]at h3;simp at h3
   rw[this,Bool.and_false,Bool.and_false]
 · rw[decide_eq_false (fun hh=>h2 hh.2.2)];rfl
 · rw[decide_eq_false (fun hh=>h1 hh.2.1)];rfl
theorem ZW(d:Nat)(a:Arr)(ha:Fits a)(ih : ∀ c,K4 c→Sp 53 [dC c,.int (d:Int)] [.bool (Bi d c)]):Sp 13 [dA a,.int (d:Int)] [.bool (Aj d a)]:=by
 have hl:=ha.len
 refine Af (a.cells.length+1) (AkX _ _ _) ?_
 simp only[Ai]
 refine Aa (AkN a.shape) ?_
 rw[BB]
 simp only[Ah,C1,Ao]
 refine Ae (fun h=>Ac ?_) (fun h=>Ae (fun h'=>Ac ?_) (fun h'=> ?_))
 · rw[decide_eq_false];rfl
   intro hh;rw[hh]at h;exact h rfl
 · rw[decide_eq_false];rfl
   intro hh;rw[hh]at h';exact h' rfl
 · have hc:A7 a.shape=((a.cells.length:Int),0):=Prod.ext (by simpa using h') (by simpa using h)
   rw[hc,decide_eq_true rfl,Bool.true_and]
   have key:=Ca a.cells (fun m k (_:Unit)=>AI (a.cells.length+1) m (d:Int) (a.cells.length:Int) (k:Int) (dA a)) (fun rest _=>[.bool (rest.all (Bi d))]) (fun _ _=>True)
    (fun m k s hk _=>by
     simp only[ZV]
     exact At (Ac rfl))
    (fun m k s x rest hd _ ih'=>by
     obtain ⟨h1,h2,h3⟩:=B6 hd
     simp only[ZV,Ai,Aw h2,Bh k]
     repeat (refine Ad ?_)
     refine Aa (ih x (ha.cell x (Aph h2))) ?_
     simp only[Ah,Ba,List.all_cons]
     refine B7 (fun h4=>Ac ?_) (fun h4=> ?_)
     · simp at h4;rw[h4];rfl
     · simp at h4;rw[h4,Bool.true_and];exact ih' () trivial)
    (a.cells.length+1) 0 () (by omega) (by omega) trivial
   exact key
theorem ZU : ∀ d:Nat,d≤100→(∀ c,K4 c→Sp 53 [dC c,.int (d:Int)] [.bool (Bi d c)])∧∀ a,Fits a→Sp 13 [dA a,.int (d:Int)] [.bool (Aj d a)]
 | 0,hd=>by
  have hc : ∀ c,K4 c→Sp 53 [dC c,.int ((0:Nat):Int)] [.bool (Bi 0 c)]:=fun c hc=>ZR 0 c hc hd (fun e he=>by omega)
  exact ⟨hc,fun a ha=>ZW 0 a ha hc⟩
 | d+1,hd=>by
  have ih:=ZU d (by omega)
  have hc : ∀ c,K4 c→Sp 53 [dC c,.int ((d+1:Nat):Int)] [.bool (Bi (d+1) c)]:=fun c hc=>ZR (d+1) c hc hd (fun e he=>by
   have:e=d:=by omega
   subst this;exact ih.2)
  exact ⟨hc,fun a ha=>ZW (d+1) a ha hc⟩
theorem AkW(a:Arr)(ha:Fits a):Sp 13 [dA a,.int 8] [.bool (Aj 8 a)]:=(ZU 8 (by decide)).2 a ha
def Jy(x:Int):Int:=Aom .i64 x
def So(r:Arr→Int→Int):List Arr→Int→Int
 | [],n=>n
 | a::as_,n=>if 0≤n then So r as_ (r a n) else n
def Sq(r:Arr→Int→Int):List Cell→Int→Int
 | [],n=>n
 | c::cs,n=>if 0≤n then Sq r cs (So r c.inn (Jy (Jy (Jy (n-1)-(c.n.top.length:Int))-(c.n.bot.length:Int)))) else n
def P1:Nat→Arr→Int→Int
 | 0,_,_=> -1
 | d+1,a,n=>Sq (P1 d) a.cells (Jy (Jy (n-1)-(a.shape.length:Int)))
def QU(a:Arr):Bool:=decide (0≤P1 12 a 4000)
theorem Aab : ∀ (d:Nat),d≤100→∀ (a:Arr),Fits a→∀ n:Int,Sp 161 [dA a,.int (d:Int),.int n] [.int (P1 d a n)]
 | 0,_,a,ha,n=>Af 0 (Aac _ _ _ _) (Bo rfl (Ac rfl))
 | d+1,hd,a,ha,n=>by
  obtain ⟨N,hN⟩:=EV
  have hl:=ha.len
  refine Af N (Aac _ _ _ _) ?_
  simp only[Ai]
  refine At ?_
  have key:=Ca a.cells (fun m k (n:Int)=>Tm N m ((d+1:Nat):Int) n (k:Int) (dA a)) (fun rest n=>[.int (Sq (P1 d) rest n)]) (fun _ _=>True)
   (fun m k n hk _=>by
    simp only[ZZ,Ai]
    exact At (Ac rfl))
   (fun m k n c rest hdr _ ih=>by
    obtain ⟨h1,h2,h3⟩:=B6 hdr
    have hc:=ha.cell c (Aph h2)
    have hlc:=hc.2.2.1
    simp only[ZZ,Ai,Aw h2,Sq]
    refine Ad (Ae (fun hn=> ?_) (fun hn=>Ac (by rw[if_neg hn])))
    rw[if_pos hn]
    repeat (refine Ad ?_)
    have key:=Ca c.inn (fun m' j (n:Int)=>AO N m m' ((d+1:Nat):Int) n (k:Int) (j:Int) (dA a)) (fun rest' n=>[.int (Sq (P1 d) rest (So (P1 d) rest' n))]) (fun _ _=>True)
     (fun m' j n hj _=>by
      simp only[Aaa,Ai,Aw h2,Bh k,So]
      repeat (refine Ad ?_)
      exact At (ih _ trivial))
     (fun m' j n x rest' hdr' _ ih'=>by
      obtain ⟨g1,g2,g3⟩:=B6 hdr'
      simp only[Aaa,Ai,Aw h2,Aw g2,Bh k,Bh j,So]
      refine Ad (Ad (Ad (Ae (fun hn=> ?_) (fun hn=>by rw[if_neg hn];exact ih _ trivial))))
      rw[if_pos hn]
      repeat (refine Ad ?_)
      rw[Ax (by omega) (by omega),show ((d+1:Nat):Int)-1=(d:Int) by omega]
      exact Aa (Aab d (by omega) x (hc.2.2.2 x (Aph g2)) n) (ih' _ trivial))
     N 0 (Jy (Jy (Jy (n-1)-(c.n.top.length:Int))-(c.n.bot.length:Int))) (by omega) (by omega) trivial
    exact key)
   N 0 (Jy (Jy (n-1)-(a.shape.length:Int))) (by omega) (by omega) trivial
  exact key
theorem AkS(a:Arr)(ha:Fits a):Sp 75 [dA a] [.bool (QU a)]:=Af 0 (AkT _ _) (Aa (Aab 12 (by decide) a ha 4000) (Ac rfl))
def Ui:List Int→Int→Int
 | [],n=>n
 | x::xs,n=>if n≤100000 then Ui xs (if 0<x then Jy (n*x) else n) else n
def S6(n:Int):Bool:=decide (¬ 100000<n)
mutual
def Q6:Arr→Bool
 | .mk _ sh cs=>S6 (Ui sh 1)&&Ky cs
def Ky:List (CellF Arr)→Bool
 | []=>true
 | c::cs=>MK c&&Ky cs
def MK:CellF Arr→Bool
 | ⟨_,_,_,_,inn⟩=>Q7 inn
def Q7:List Arr→Bool
 | []=>true
 | a::as_=>Q6 a&&Q7 as_
end
theorem Anu(a:Arr):Q6 a=(S6 (Ui a.shape 1)&&Ky a.cells):=by cases a;rw[Q6];rfl
theorem Anv(c:Cell):MK c=Q7 c.inn:=by cases c;rw[MK]
theorem Ale(a:Arr):Fits a→Sp 76 [dA a] [.bool (Q6 a)]:=by
 induction a using Arr.ind with
 | h s sh cs IH =>
  intro ha
  have hl:=ha.len
  have hs:=ha.sh
  have IH' : ∀ c∈(Arr.mk s sh cs).cells,∀ x∈c.inn,Fits x→Sp 76 [dA x] [.bool (Q6 x)]:=IH
  generalize Arr.mk s sh cs=a at *
  obtain ⟨N,hN⟩:=EV
  refine Af N (Alf _ _) ?_
  rw[Anu]
  have inner:Tw (Oh N N 0 (dA a)) [.bool (Ky a.cells)]:=by
   have key:=Ca a.cells (fun m k (_:Unit)=>Oh N m (k:Int) (dA a)) (fun rest _=>[.bool (Ky rest)]) (fun _ _=>True)
    (fun m k n hk _=>by
     simp only[Aad,Ai]
     exact At (Ac (by rw[Ky])))
    (fun m k n c rest hdr _ ih=>by
     obtain ⟨h1,h2,h3⟩:=B6 hdr
     have hc:=ha.cell c (Aph h2)
     have hlc:=hc.2.2.1
     simp only[Aad,Ai,Aw h2]
     repeat (refine Ad ?_)
     rw[Ky,Anv]
     have key:=Ca c.inn (fun m' j (_:Unit)=>AP N m m' (k:Int) (j:Int) (dA a)) (fun rest' _=>[.bool (Q7 rest'&&Ky rest)]) (fun _ _=>True)
      (fun m' j n hj _=>by
       simp only[Aae,Ai,Aw h2,Bh k]
       repeat (refine Ad ?_)
       rw[Q7,Bool.true_and]
       exact At (ih () trivial))
      (fun m' j n x rest' hdr' _ ih'=>by
       obtain ⟨g1,g2,g3⟩:=B6 hdr'
       simp only[Aae,Ai,Aw h2,Aw g2,Bh j]
       repeat (refine Ad ?_)
       refine Aa (IH' c (Aph h2) x (Aph g2) (hc.2.2.2 x (Aph g2))) ?_
       simp only[Ah,Ba]
       rw[Q7]
       refine B7 (fun e=>Ac ?_) (fun e=> ?_)
       · simp at e;rw[e];rfl
       · simp at e;rw[e,Bool.true_and];exact ih' () trivial)
      N 0 () (by omega) (by omega) trivial
     exact key)
    N 0 () (by omega) (by omega) trivial
   exact key
  have fin : ∀ n:Int,Tw (.br (decide (100000<n)) (.ret [D.bool false]) (Oh N N 0 (dA a))) [.bool (S6 n&&Ky a.cells)]:=fun n=>by
   unfold S6
   refine Ae (fun h=>Ac ?_) (fun h=> ?_)
   · rw[decide_eq_false (fun hh=>hh h)];rfl
   · rw[decide_eq_true h,Bool.true_and];exact inner
  have key:=Ca a.shape (fun m k (n:Int)=>Tn N m n (k:Int) (dA a)) (fun rest n=>[.bool (S6 (Ui rest n)&&Ky a.cells)]) (fun _ _=>True)
   (fun m k n hk _=>by
    simp only[Aaf,Ai]
    exact At (fin n))
   (fun m k n x rest hdr _ ih=>by
    obtain ⟨h1,h2,h3⟩:=B6 hdr
    simp only[Aaf,Ai,Aw h2,Bh k,Ui]
    refine Ad (Ae (fun hn=>Ad (Ad (Ae (fun hx=>Ad (Ad ?_)) (fun hx=> ?_)))) (fun hn=> ?_))
    · rw[if_pos hn,if_pos hx];exact ih _ trivial
    · rw[if_pos hn,if_neg hx];exact ih _ trivial
    · rw[if_neg hn];exact fin n)
   N 0 1 (by omega) (by omega) trivial
  exact key
def W4(a:Arr):Bool:=QU a&&Aj 8 a&&Q6 a
theorem ZS(a:Arr)(ha:Fits a):Sp 30 [dA a] [.bool (W4 a)]:=by
 refine Af 0 (AkU _ _) (Aa (AkS a ha) ?_)
 unfold W4
 simp only[Ah,Ba]
 refine B7 (fun e1=>Aa (AkW a ha) ?_) (fun e1=>Ac (by rw[e1];rfl))
 simp only[Ah,Ba]
 refine B7 (fun e2=>Aa (Ale a ha) (Ac ?_)) (fun e2=>Ac (by rw[e2,Bool.and_false];rfl))
 rw[e1,e2];rfl
noncomputable def Ik(a b:Arr):Bool:= @decide (a=b) (Classical.propDecidable _)
noncomputable def Jd(a b:Cell):Bool:= @decide (a=b) (Classical.propDecidable _)
theorem Mf{a b:Arr} : Ik a b=true↔a=b:=by unfold Ik;exact @decide_eq_true_iff _ (Classical.propDecidable _)
theorem GJ{a b:Arr}(h:a≠b):Ik a b=false:=by cases e:Ik a b with
 | false=>rfl
 | true=>exact absurd (Mf.1 e) h
theorem Nq{a b:Cell} : Jd a b=true↔a=b:=by unfold Jd;exact @decide_eq_true_iff _ (Classical.propDecidable _)
theorem R1{a b:Cell}(h:a≠b):Jd a b=false:=by cases e:Jd a b with
 | false=>rfl
 | true=>exact absurd (Nq.1 e) h
theorem AeI(a:Cell):Jd a a=true:=Nq.2 rfl
theorem FJ(a b:Cell):(a=b)↔(a.l=b.l∧a.kind=b.kind∧a.c=b.c∧a.n=b.n∧a.inn=b.inn):=by
 cases a;cases b
 constructor
 · rintro ⟨⟩;exact ⟨rfl,rfl,rfl,rfl,rfl⟩
 · rintro ⟨h1,h2,h3,h4,h5⟩;dsimp only at h1 h2 h3 h4 h5;subst h1;subst h2;subst h3;subst h4;subst h5;rfl
theorem U9(a b:Arr):(a=b)↔(a.s=b.s∧a.shape=b.shape∧a.cells=b.cells):=by
 cases a;cases b;simp
theorem AaX{α:Type}{P:Program}{md:Nat→FMode}(a b:List α)(e:α→α→Bool)(he : ∀ x∈a,∀ y,e x y=true↔x=y)(hlen:a.length=b.length)(r:Bool)(hr:r=true↔a=b)(L:Nat→Nat→Tree)
  (hend : ∀ m,∀ Q:List D→Prop,Q [.bool true]→(L (m+1) a.length).wp P md Q)
  (hstep : ∀ m k x y,∀ Q:List D→Prop,a[k]? = some x→b[k]? = some y→(e x y=false→Q [.bool false])→(e x y=true→(L m (k+1)).wp P md Q)→(L (m+1) k).wp P md Q) (N:Nat) (hN:a.length<N):(L N 0).wp P md (fun zs=>zs = [.bool r]):=by
 have key:=Xs (P:=P) (md:=md) a.length (fun m k (_:Unit)=>L m k) (fun _ _=>[.bool r]) (fun k _=>a.take k=b.take k)
  (fun m s h=>by
   refine hend m _ ?_
   rw[Ap_ (Apo _),Ap_ (by omega)]at h
   rw[hr.2 h])
  (fun m k s hk h ih=>by
   have ha:a[k]? = some a[k]:=Apb _
   have hb:b[k]? = some (b[k]'(by omega)):=Apb _
   refine hstep m k _ _ _ ha hb (fun hf=> ?_) (fun ht=>ih () ?_)
   · have:r=false:=by
      cases hrr:r with
      | false=>rfl
      | true =>
       have:=hr.1 hrr
       subst this
       rw[(he a[k] (Aqc _) a[k]).2 rfl]at hf;cases hf
     rw[this]
   · have:a[k]=b[k]:=(he a[k] (Aqc _) _).1 ht
     rw[List.take_succ_eq_append_getElem hk,List.take_succ_eq_append_getElem (by omega),h,this])
  N 0 () (by omega) (by omega) (by simp)
 exact key
theorem AkY(a:Cell)(hf:K4 a)(ih : ∀ x∈a.inn,Fits x→∀ y,Sp 34 [dA x,dA y] [.bool (Ik x y)])(b:Cell):Sp 79 [dC a,dC b] [.bool (Jd a b)]:=by
 refine Af (a.inn.length+1) (AkZ _ _ _) ?_
 have hl:=hf.2.2.1
 simp only[Ai]
 refine Ae (fun h=>Ac ?_) (fun h1=>Ae (fun h=>Ac ?_) (fun h2=>Ae (fun h=>Ac ?_) (fun h3=>Aa (KX a.n b.n hf.1 hf.2.1) ?_)))
 · rw[R1];rintro rfl;exact h rfl
 · rw[R1];rintro rfl;exact h rfl
 · rw[R1];rintro rfl;exact h rfl
 simp only[Ah,Ba,E0]
 refine Ae (fun h=>Ac ?_) (fun h4=>Ae (fun h=>Ac ?_) (fun h5=> ?_))
 · rw[R1];rintro rfl;exact h rfl
 · rw[R1];rintro rfl;exact h rfl
 have e1:a.l=b.l:=BitVec.eq_of_toNat_eq (by omega)
 refine AaX (P:=Tryz.prog) (md:=md) a.inn b.inn Ik (fun x _ y=>Mf) (by omega) (Jd a b) ?_ (fun m k=>AK (a.inn.length+1) m (k:Int) (dC a) (dC b)) ?_ ?_ (a.inn.length+1) (by omega)
 · rw[Nq,FJ]
   have h2':=Apm.1 h2
   have h3':=Apm.1 h3
   have h4':=Apm.1 h4
   simp[e1,h2',h3',h4']
 · intro m Q hQ
   simp only[ZX,Ai]
   exact At (Ac hQ)
 · intro m k x y Q hx hy hF hT
   have hk:k<a.inn.length:=(Apf.1 hx).1
   simp only[ZX,Ai,Aw hx,Aw hy,Bh k]
   repeat (refine Ad ?_)
   refine Aa (ih x (Aph hx) (hf.2.2.2 x (Aph hx)) y) ?_
   simp only[Ah,Ba]
   refine B7 (fun h=>Ac (hF (by simpa using h))) (fun h=>hT (by simpa using h))
theorem Ala(a:Arr):Fits a→∀ b,Sp 34 [dA a,dA b] [.bool (Ik a b)]:=by
 induction a using Arr.ind with
 | h s sh cs IH =>
  intro ha b
  have hl:=ha.len
  have IH' : ∀ c∈(Arr.mk s sh cs).cells,∀ x∈c.inn,Fits x→∀ y,Sp 34 [dA x,dA y] [.bool (Ik x y)]:=IH
  generalize Arr.mk s sh cs=a at *
  refine Af (a.cells.length+1) (Alb _ _ _) ?_
  simp only[Ai]
  refine Ae (fun h=>Ac ?_) (fun h1=>Aa (ZQ a.shape b.shape ha.sh) ?_)
  · rw[GJ];rintro rfl;exact h rfl
  simp only[Ah,Ba,E0]
  refine Ae (fun h=>Ac ?_) (fun h4=>Ae (fun h=>Ac ?_) (fun h5=> ?_))
  · rw[GJ];rintro rfl;exact h rfl
  · rw[GJ];rintro rfl;exact h rfl
  have e1:a.s=b.s:=BitVec.eq_of_toNat_eq (by omega)
  refine AaX (P:=Tryz.prog) (md:=md) a.cells b.cells Jd (fun x _ y=>Nq) (by omega) (Ik a b) ?_ (fun m k=>AM (a.cells.length+1) m (k:Int) (dA a) (dA b)) ?_ ?_ (a.cells.length+1) (by omega)
  · rw[Mf,U9]
    have h4':=Apm.1 h4
    simp[e1,h4']
  · intro m Q hQ
    simp only[ZY,Ai]
    exact At (Ac hQ)
  · intro m k x y Q hx hy hF hT
    have hk:k<a.cells.length:=(Apf.1 hx).1
    simp only[ZY,Ai,Aw hx,Aw hy,Bh k]
    repeat (refine Ad ?_)
    refine Aa (AkY x (ha.cell x (Aph hx)) (IH' x (Aph hx)) y) ?_
    simp only[Ah,Ba]
    refine B7 (fun h=>Ac (hF (by simpa using h))) (fun h=>hT (by simpa using h))
def G9:List Cell→Option (List Int)
 | []=>some []
 | c::cs=>if c.kind=0 then (Dw c.n).bind (fun z=>(G9 cs).map (z:: ·)) else none
def A9(a:Arr):List Int×Int:=if 1<a.shape.length then ([],5) else match G9 a.cells with
 | some l=>(l,0)
 | none=>([],3)
def Bf(z:Int):Cell:=⟨0,0,Cy z,0,[]⟩
def Cl(a:Arr):Cell:=match a.cells with
 | []=>Bf 0
 | c::_=>if c.kind=1 then ⟨c.l,1,.zero,32,[]⟩ else ⟨c.l,0,Cy 0,0,[]⟩
theorem AmU{n:Num}{z:Int}(h:Dw n=some z):Bd z:=by
 unfold Dw Na at h
 split at h
 · split at h
   · injection h with h;subst h;assumption
   · cases h
 · cases h
theorem Sl : ∀ {cs:List Cell} {l:List Int},G9 cs=some l→l.length=cs.length∧∀ x∈l,Bd x
 | [],l,h=>by simp[G9]at h;subst h;simp
 | c::cs,l,h=>by
  simp only[G9]at h
  split at h
  · cases hn:Dw c.n with
    | none=>rw[hn]at h;cases h
    | some z =>
     rw[hn]at h
     cases hc:G9 cs with
     | none=>rw[hc]at h;cases h
     | some l' =>
      rw[hc]at h
      injection h with h;subst h
      have:=Sl hc
      exact ⟨by simp[this.1],fun x hx=>by rcases Apt.1 hx with rfl | hx;exact AmU hn;exact this.2 x hx⟩
  · cases h
def Xe(out:List Int):Option (List Int)→List D
 | some l=>[dI (out++l),.int 0]
 | none=>[.sl [],.int 3]
theorem AfH{a:Arr}(h : ¬ 1<a.shape.length):Xe [] (G9 a.cells) = [dI (A9 a).1,.int (A9 a).2]:=by
 unfold A9;rw[if_neg h];cases G9 a.cells <;> rfl
theorem ZT(z:Int)(hz:Bd z):Sp 78 [.int z] [dC (Bf z)]:=by
 refine Af 0 (AkV _ _) (Aa (AkA z hz) (Ac ?_))
 rw[Ec];rfl
end Go.Proofs.YtokkbgpgaheakaaGreat
