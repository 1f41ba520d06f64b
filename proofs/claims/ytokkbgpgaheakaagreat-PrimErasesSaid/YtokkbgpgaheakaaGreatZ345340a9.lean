/- Proved: lemmas for the law of this folder, part 4. No condition. -/
import Derived.Test.YtokkbgpgaheakaaGreatRows
import Derived.WalkKit
import Derived.WalkSpells
import Derived.WalkLawsBesides
import Derived.Lib.Hide
import Derived.Laws.CopyOwn
import Derived.Deep.QuietTactic
import Derived.BigQuiet
import Derived.Orders
import Derived.Defers
import Derived.Recover
import Derived.Test.YtokkbgpgaheakaaGreatProg
import Derived.KernelRfl
import Derived.ProofKit
import Derived.OpenShut
import Derived.Maps.OwnRows
import Derived.Maps.Views
import Derived.Deep.RegionHeld3
import Derived.Deep.AppendLies
import Derived.Test.YtokkbgpgaheakaaGreatZ3495287e
set_option linter.unusedSimpArgs false
set_option linter.unusedVariables false
set_option maxRecDepth 100000
open Array renaming getElem?_eq_getElem → Ap7, getElem?_eq_some_iff → Aqi, getD_eq_getD_getElem? → Aqo
open BitVec renaming ofNat → Ap5
open Bool renaming and_eq_true → Apt
open Classical renaming not_not → Apw
open Int renaming toNat → Apj, toNat_natCast → Apr, fdiv → Aqd
open Go.IntKind renaming wrap → Api, bits → Apv
open List renaming getElem?_eq_getElem → Apk, replicate → Apl, length_map → Apm, getD_eq_getElem?_getD → Apn, getElem?_eq_some_iff → Apo, length_cons → App, mem_of_getElem? → Apq, length_append → Apu, length_drop → Apy, length_take → Ap0, length_nil → Ap1, getElem?_map → Ap2, mem_cons → Ap4, append_nil → Ap6, append_assoc → Ap8, map_cons → Ap9, getElem?_append_left → Ap_, drop_eq_getElem_cons → Aqa, length_eq_zero_iff → Aqb, take_append_drop → Aqf, take_of_length_le → Aqh, range → Aqj, getElem_mem → Aql, getElem?_append_right → Aqn, length_replicate → Aqp, mem_cons_of_mem → Aqq, mem_append → Aqs, mem_map → Aqw, nil_append → Aqx
open Nat renaming le_refl → Apx, mul_le_mul_right → Ap3, mod_eq_of_lt → Aqc, mod_lt → Aqe, mul_comm → Aqg, lt_of_lt_of_le → Aqk, div_div_eq_div_mul → Aqm, pow_succ → Aqr, div_lt_iff_lt_mul → Aqu, zero_add → Aqv
open Option renaming map_eq_some_iff → Apz, bind_eq_some_iff → Aqt
open Option.some renaming injEq → Aps
namespace Go.Proofs.YtokkbgpgaheakaaGreat
def UE:List (Nat×FMode):=[(299,{ own:=[(0,[])] }),(96,{ own:=[(0,[])] }),(139,{ own:=[(0,[])] }),(247,{ own:=[(0,[])] }),(248,{ own:=[(0,[])] }),(175,{ own:=[(0,[])] }),(331,{ arg:=some 0,back:=true }),(144,{ arg:=some 0,back:=true }),(97,{ noop:=true }),(103,{ noop:=true }),(180,{ noop:=true }),(183,{ noop:=true }),(184,{ noop:=true }),(186,{ noop:=true }),(151,{ noop:=true }),(154,{ noop:=true }),(187,{ noop:=true }),(191,{ noop:=true }),(89,{ noop:=true }),(94,{ noop:=true }),(141,{ noop:=true }),(143,{ noop:=true }),(85,{ noop:=true }),(99,{ own:=[(0,[0]),(0,[1])] }),(150,{ own:=[(0,[])],arg:=some 0 }),(250,{ arg:=some 0,back:=true }),(251,{ arg:=some 0,back:=true }),(300,{ arg:=some 0,back:=true }),(322,{ arg:=some 0,back:=true }),(217,{ arg:=some 0,back:=true }),(155,{ arg:=some 0,back:=true }),(336,{ own:=[(0,[])] }),(174,{ own:=[(0,[])],arg:=some 1 }),(93,{ arg:=some 0,back:=true }),(95,{ arg:=some 0,back:=true }),(142,{ arg:=some 0,back:=true }),(145,{ arg:=some 0,back:=true }),(1000000+94,{ arg:=some 0,back:=true })]
def md(f:Nat):FMode:=S0 UE f
theorem Nk:WfP Tryz.prog:=AoF (by kernel_rfl)
theorem AgW:Tryz.prog.follows .mixedOrders=true:=by kernel_rfl
theorem AhP:Fx Tryz.prog 97:=Gz (by kernel_rfl)
theorem AhQ:Fx Tryz.prog 103:=Gz (by kernel_rfl)
theorem AhW:Fx Tryz.prog 180:=Gz (by kernel_rfl)
theorem AhX:Fx Tryz.prog 183:=Gz (by kernel_rfl)
theorem AhY:Fx Tryz.prog 184:=Gz (by kernel_rfl)
theorem AhZ:Fx Tryz.prog 186:=Gz (by kernel_rfl)
theorem Aia:Fx Tryz.prog 151:=Gz (by kernel_rfl)
theorem Aib:Fx Tryz.prog 154:=Gz (by kernel_rfl)
theorem Aic:Fx Tryz.prog 187:=Gz (by kernel_rfl)
theorem Aid:Fx Tryz.prog 191:=Gz (by kernel_rfl)
theorem AhR:Fx Tryz.prog 89:=Gz (by kernel_rfl)
theorem AhS:Fx Tryz.prog 94:=Gz (by kernel_rfl)
theorem AhT:Fx Tryz.prog 141:=Gz (by kernel_rfl)
theorem AhU:Fx Tryz.prog 143:=Gz (by kernel_rfl)
theorem AhV:Fx Tryz.prog 85:=Gz (by kernel_rfl)
theorem AhO:U5 Tryz.prog md:=Aie (by
 intro p hp hn
 simp only[UE,Ap4,List.not_mem_nil,or_false]at hp
 rcases hp with rfl | rfl | rfl | rfl | rfl | rfl | rfl | rfl | rfl | rfl | rfl | rfl | rfl | rfl | rfl | rfl | rfl | rfl | rfl | rfl | rfl | rfl | rfl | rfl | rfl | rfl | rfl | rfl | rfl | rfl | rfl | rfl | rfl | rfl | rfl | rfl | rfl | rfl
 all_goals first | exact absurd hn (by decide) | skip
 · exact AhP
 · exact AhQ
 · exact AhW
 · exact AhX
 · exact AhY
 · exact AhZ
 · exact Aia
 · exact Aib
 · exact Aic
 · exact Aid
 · exact AhR
 · exact AhS
 · exact AhT
 · exact AhU
 · exact AhV
 )
theorem Af{f:Nat}{cts:List CT}{xs ys:List D}{orc:List (Nat×Orc)}{t:Tree}(n:Nat)(h:Wk Tryz.prog md orc n f cts xs=t)(ht:t.wp Tryz.prog md (fun zs=>zs=ys)):Ec Tryz.prog md f cts xs ys :=
 Af6 Nk AgW AhO (orc:=orc) (n:=n) (by rw[h];exact ht)
def K3:ByteArray:=(⟨#[0,1,2,2,3,3,3,3,4,4,4,4,4,4,4,4,5,5,5,5,5,5,5,5,5,5,5,5,5,5,5,5,6,6,6,6,6,6,6,6,6,6,6,6,6,6,6,6,6,6,6,6,6,6,6,6,6,6,6,6,6,6,6,6,7,7,7,7,7,7,7,7,7,7,7,7,7,7,7,7,7,7,7,7,7,7,7,7,7,7,7,7,7,7,7,7,7,7,7,7,7,7,7,7,7,7,7,7,7,7,7,7,7,7,7,7,7,7,7,7,7,7,7,7,7,7,7,7,8,8,8,8,8,8,8,8,8,8,8,8,8,8,8,8,8,8,8,8,8,8,8,8,8,8,8,8,8,8,8,8,8,8,8,8,8,8,8,8,8,8,8,8,8,8,8,8,8,8,8,8,8,8,8,8,8,8,8,8,8,8,8,8,8,8,8,8,8,8,8,8,8,8,8,8,8,8,8,8,8,8,8,8,8,8,8,8,8,8,8,8,8,8,8,8,8,8,8,8,8,8,8,8,8,8,8,8,8,8,8,8,8,8,8,8,8,8,8,8,8,8,8,8,8,8,8,8]⟩:ByteArray)
noncomputable def eA(O:List (Nat×Orc))(n F:Nat)(p:List Nat):=ev Tryz.prog md n O (Ld (ER Tryz.prog F) p)
noncomputable def jA(O:List (Nat×Orc))(n F:Nat)(p:List Nat):=Xk Tryz.prog md (Xj O (Ld (ER Tryz.prog F) p)) (ev Tryz.prog md n O (Ld (ER Tryz.prog F) p))
noncomputable def rA(F:Nat)(a:List Nat)(b:List ResultVar)(c:List Nat):=KP Tryz.prog md (md F) a b c
noncomputable def lA:=Wl Tryz.prog md
noncomputable abbrev fA:=Wk Tryz.prog md
noncomputable abbrev kK (c:Prop) [Decidable c] (t:Tree):Tree:= .br (decide c) t .fail
noncomputable abbrev bK (c:Prop) [Decidable c] (t e:Tree):Tree:= .br (decide c) t e
noncomputable abbrev cK (f:Nat) (x:List D) (k:List D→Tree):Tree:= .call f [] x k
def uA(n:Nat):List L:=Apl n .undef
def Vd:List (Nat×Orc):=[(5,⟨[(4,none),(18,some 24),(19,none),(20,none)],[],[(.slot 4,1050,3)]⟩)]
noncomputable def Vc(n m5:Nat)(out4:List D)(t18:D)(t19 t20:Int):Tree :=
 lA (eA Vd n 80 [1,1,1,0,1,0,0]) (Al Vd 5) m5 ⟨(uA 4++(.row 1050::uA 13++(.d 24 t18:: .i .i64 t19:: .i .i64 t20::uA 22))),[(1050,.row 3 out4 true)],[1050],[],[]⟩
  (Aj 0 (An (jA Vd n 80 [1,1,1,1]) (rA 80 [26] [.tmp 2,.tmp 3] [23,29])))
theorem NR(n m5:Nat)(out4:List D)(t18:D)(t19 t20:Int):Vc n (m5+1) out4 t18 t19 t20 =
 bK (t20<t19) (kK (0≤t20) (kK (t20<(t18.els.length:Int)) (cK 166 [(t18.els.getD (Apj t20) D.nil).fld 2] fun Y1 =>
 .br ((((t18.els.getD (Apj t20) D.nil).fld 1).toInt)!=0) (.ret [D.sl [],D.int 3])
 (.br (!((qB Y1).toBool)) (.ret [D.sl [],D.int 3])
 (kK (out4.length + [D.int ((qA Y1).toInt)].length≤Ak) (Vc n m5 (out4++[D.int ((qA Y1).toInt)]) t18 t19 (Api .i64 (t20+1))))))))
 (.ret [D.sl out4,D.int 0]):=by kernel_rfl
theorem Adj(n:Nat)(a0:D):fA Vd n 80 [] [a0] =
 bK (1<(((a0.fld 1).els).length:Int)) (.ret [D.sl [],D.int 5])
 (kK (0≤0) (kK (0≤(((a0.fld 2).els).length:Int)) (kK ((((a0.fld 2).els).length:Int)≤Ak) (Vc n n (Apl (Apj 0) (D.int 0)) (a0.fld 2) (((a0.fld 2).els).length:Int) 0)))):=by kernel_rfl
theorem Adh(n:Nat)(a0:D):fA [] n 82 [] [a0] =
 .br ((((a0.fld 2).els).length:Int)==0) (cK 138 [D.int 0] fun Y1 =>
 .ret [qA Y1])
 (cK 138 [D.int 0] fun Y2 =>
 kK (0≤0) (kK (0<(((a0.fld 2).els).length:Int)) (.br ((((((a0.fld 2).els).getD (Apj 0) D.nil).fld 1).toInt)==1) (cK 171 [D.int 32] fun Y3 =>
 kK (0≤0) (kK (0<(((a0.fld 2).els).length:Int)) (.ret [D.agg [D.int (((((a0.fld 2).els).getD (Apj 0) D.nil).fld 0).toInt),D.int (((qA Y3).fld 1).toInt),(qA Y3).fld 2,D.int (((qA Y3).fld 3).toInt),(qA Y3).fld 4]])))
 (kK (0≤0) (kK (0<(((a0.fld 2).els).length:Int)) (.ret [D.agg [D.int (((((a0.fld 2).els).getD (Apj 0) D.nil).fld 0).toInt),D.int (((qA Y2).fld 1).toInt),(qA Y2).fld 2,D.int (((qA Y2).fld 3).toInt),(qA Y2).fld 4]])))))):=by kernel_rfl
def Iy:List (Nat×Orc):=[(3,⟨[(3,none),(11,some 24),(12,none),(13,none)],[],[]⟩),(7,⟨[(3,none),(11,some 24),(12,none),(13,none),(22,some 65),(23,none),(24,none)],[],[]⟩)]
noncomputable def Vf(n m3 m7:Nat)(out3:Int)(t11:D)(t12 t13:Int)(t22:D)(t23 t24:Int):Tree :=
 lA (eA Iy n 84 [1,1,0,1,0,0,1,1,0,0,1,1,1,0,0]) (Al Iy 7) m7 ⟨(uA 3++(.i .u64 out3::uA 7++(.d 24 t11:: .i .i64 t12:: .i .i64 t13::uA 8++(.d 65 t22:: .i .i64 t23:: .i .i64 t24::uA 10)))),[],[],[],[]⟩
  (Aj 2 (Aj 1 (An (jA Iy n 84 [1,1,0,1,0,0,1,1,1]) (Fs Tryz.prog md (Al Iy 3) (fun s1=>lA (eA Iy n 84 [1,1,0,1,0,0]) (Al Iy 3) m3 s1 (Aj 0 (An (jA Iy n 84 [1,1,1]) (rA 84 [26] [.tmp 2] [22])))) (Aj 0 (An (jA Iy n 84 [1,1,1]) (rA 84 [26] [.tmp 2] [22])))))))
noncomputable def Ve(n m3:Nat)(out3:Int)(t11:D)(t12 t13:Int):Tree :=
 lA (eA Iy n 84 [1,1,0,1,0,0]) (Al Iy 3) m3 ⟨(uA 3++(.i .u64 out3::uA 7++(.d 24 t11:: .i .i64 t12:: .i .i64 t13::uA 21))),[],[],[],[]⟩
  (Aj 0 (An (jA Iy n 84 [1,1,1]) (rA 84 [26] [.tmp 2] [22])))
theorem NV(n m3 m7:Nat)(out3:Int)(t11:D)(t12 t13:Int)(t22:D)(t23 t24:Int):Vf n m3 (m7+1) out3 t11 t12 t13 t22 t23 t24 =
 bK (t24<t23) (kK (0≤t24) (kK (t24<(t22.els.length:Int)) (cK 84 [t22.els.getD (Apj t24) D.nil] fun Y2 =>
 cK 83 [D.int out3,D.int ((qA Y2).toInt)] fun Y3 =>
 Vf n m3 m7 ((qA Y3).toInt) t11 t12 t13 t22 t23 (Api .i64 (t24+1)))))
 (Ve n m3 out3 t11 t12 (Api .i64 (t13+1))):=by kernel_rfl
theorem NU(n m3:Nat)(out3:Int)(t11:D)(t12 t13:Int):Ve n (m3+1) out3 t11 t12 t13 =
 bK (t13<t12) (kK (0≤t13) (kK (t13<(t11.els.length:Int)) (cK 83 [D.int out3,D.int (((t11.els.getD (Apj t13) D.nil).fld 0).toInt)] fun Y1 =>
 Vf n m3 n ((qA Y1).toInt) t11 t12 t13 ((t11.els.getD (Apj t13) D.nil).fld 4) ((((t11.els.getD (Apj t13) D.nil).fld 4).els).length:Int) 0)))
 (.ret [D.int out3]):=by kernel_rfl
theorem Adp(n:Nat)(a0:D):fA Iy n 84 [] [a0] =
 Ve n n ((a0.fld 0).toInt) (a0.fld 2) (((a0.fld 2).els).length:Int) 0:=by kernel_rfl
theorem Adm(n:Nat)(a0 l1:D):fA [] n 90 [] [a0,l1] =
 cK 83 [D.int ((a0.fld 0).toInt),D.int l1.toInt] fun Y1 =>
 .ret [D.agg [D.int ((qA Y1).toInt),a0.fld 1,a0.fld 2]]:=by kernel_rfl
theorem Adq(n:Nat)(c0:D):fA [] n 104 [] [c0] =
 .br (((c0.fld 1).toInt)==2) (.br ((((c0.fld 4).els).length:Int)==1) (kK (0≤0) (kK (0<(((c0.fld 4).els).length:Int)) (cK 90 [((c0.fld 4).els).getD (Apj 0) D.nil,D.int ((c0.fld 0).toInt)] fun Y1 =>
 .ret [qA Y1])))
 (cK 178 [c0] fun Y2 =>
 cK 90 [qA Y2,D.int ((c0.fld 0).toInt)] fun Y3 =>
 .ret [qA Y3]))
 (cK 178 [c0] fun Y4 =>
 cK 90 [qA Y4,D.int ((c0.fld 0).toInt)] fun Y5 =>
 .ret [qA Y5]):=by kernel_rfl
theorem Adi(n:Nat)(nn0:D):fA [] n 138 [] [nn0] =
 cK 212 [D.int nn0.toInt] fun Y1 =>
 .ret [D.agg [D.int 0,D.int 0,qA Y1,D.int 0,D.sl []]]:=by kernel_rfl
theorem Ado(n:Nat)(a0:D):fA [] n 146 [] [a0] =
 cK 213 [a0] fun Y1 =>
 .br ((qA Y1).toBool) (kK (0≤0) (kK (0<(((a0.fld 2).els).length:Int)) (.ret [D.bool ((((((a0.fld 2).els).getD (Apj 0) D.nil).fld 1).toInt)!=2)])))
 (.ret [D.bool false]):=by kernel_rfl
def Ix:List (Nat×Orc):=[(5,⟨[(3,none),(11,some 24),(12,none),(13,none)],[],[]⟩),(8,⟨[(3,none),(11,some 24),(12,none),(13,none),(18,some 65),(19,none),(20,none)],[],[]⟩)]
noncomputable def Va(n m5 m8:Nat)(out3:Int)(t11:D)(t12 t13:Int)(t18:D)(t19 t20:Int):Tree :=
 lA (eA Ix n 147 [1,1,1,0,1,0,0,1,1,0,0,1,1,0,0]) (Al Ix 8) m8 ⟨(uA 3++(.i .i64 out3::uA 7++(.d 24 t11:: .i .i64 t12:: .i .i64 t13::uA 4++(.d 65 t18:: .i .i64 t19:: .i .i64 t20::uA 11)))),[],[],[],[]⟩
  (Aj 2 (Aj 1 (An (jA Ix n 147 [1,1,1,0,1,0,0,1,1,1]) (Fs Tryz.prog md (Al Ix 5) (fun s1=>lA (eA Ix n 147 [1,1,1,0,1,0,0]) (Al Ix 5) m5 s1 (Aj 0 (An (jA Ix n 147 [1,1,1,1]) (rA 147 [26] [.tmp 2] [3])))) (Aj 0 (An (jA Ix n 147 [1,1,1,1]) (rA 147 [26] [.tmp 2] [3])))))))
noncomputable def U_(n m5:Nat)(out3:Int)(t11:D)(t12 t13:Int):Tree :=
 lA (eA Ix n 147 [1,1,1,0,1,0,0]) (Al Ix 5) m5 ⟨(uA 3++(.i .i64 out3::uA 7++(.d 24 t11:: .i .i64 t12:: .i .i64 t13::uA 18))),[],[],[],[]⟩
  (Aj 0 (An (jA Ix n 147 [1,1,1,1]) (rA 147 [26] [.tmp 2] [3])))
theorem NQ(n m5 m8:Nat)(out3:Int)(t11:D)(t12 t13:Int)(t18:D)(t19 t20:Int):Va n m5 (m8+1) out3 t11 t12 t13 t18 t19 t20 =
 bK (t20<t19) (kK (0≤t20) (kK (t20<(t18.els.length:Int)) (cK 147 [t18.els.getD (Apj t20) D.nil] fun Y2 =>
 Va n m5 m8 (if out3<((qA Y2).toInt) then ((qA Y2).toInt) else out3) t11 t12 t13 t18 t19 (Api .i64 (t20+1)))))
 (U_ n m5 out3 t11 t12 (Api .i64 (t13+1))):=by kernel_rfl
theorem NP(n m5:Nat)(out3:Int)(t11:D)(t12 t13:Int):U_ n (m5+1) out3 t11 t12 t13 =
 bK (t13<t12) (kK (0≤t13) (kK (t13<(t11.els.length:Int)) (Va n m5 n out3 t11 t12 t13 ((t11.els.getD (Apj t13) D.nil).fld 4) ((((t11.els.getD (Apj t13) D.nil).fld 4).els).length:Int) 0)))
 (.ret [D.int (Api .i64 (out3+1))]):=by kernel_rfl
theorem Adg(n:Nat)(a0:D):fA Ix n 147 [] [a0] =
 cK 146 [a0] fun Y1 =>
 .br ((qA Y1).toBool) (.ret [D.int 0])
 (U_ n n 0 (a0.fld 2) (((a0.fld 2).els).length:Int) 0):=by kernel_rfl
def Vh:List (Nat×Orc):=[(3,⟨[(0,some 24),(2,none),(3,none),(9,some 24),(10,none),(11,none)],[(2,false)],[(.slot 3,1030,67)]⟩)]
noncomputable def Vg(n m3:Nat)(l0:D)(cells3:List D)(t9:D)(t10 t11 t2_0:Int):Tree :=
 lA (eA Vh n 149 [1,1,0,1,0,0]) (Al Vh 3) m3 ⟨(.d 24 l0:: .undef:: .ptr 2 []:: .row 1030::uA 5++(.d 24 t9:: .i .i64 t10:: .i .i64 t11::uA 15)),[(2,.var 26 (.agg 26 [.i .u64 t2_0,.mt,.mt]) true),(1030,.row 67 cells3 true)],[2,1030],[],[]⟩
  (Aj 0 (An (jA Vh n 149 [1,1,1]) (rA 149 [24] [.cell 2 26] [26])))
theorem NW(n m3:Nat)(l0:D)(cells3:List D)(t9:D)(t10 t11 t2_0:Int):Vg n (m3+1) l0 cells3 t9 t10 t11 t2_0 =
 bK (t11<t10) (kK (0≤t11) (kK (t11<(t9.els.length:Int)) (cK 214 [t9.els.getD (Apj t11) D.nil] fun Y1 =>
 kK (0≤t11) (kK (t11<(cells3.length:Int)) (Vg n m3 l0 (cells3.set (Apj t11) (qA Y1)) t9 t10 (Api .i64 (t11+1)) t2_0)))))
 (.ret [D.agg [D.int 0,D.sl [D.int (l0.els.length:Int)],D.sl cells3]]):=by kernel_rfl
theorem Adr(n:Nat)(l0:D):fA Vh n 149 [] [l0] =
 kK (0≤(l0.els.length:Int)) (kK ((l0.els.length:Int)≤(l0.els.length:Int)) (kK ((l0.els.length:Int)≤Ak) (Vg n n l0 (Apl (Apj (l0.els.length:Int)) (D.agg [D.int 0,D.int 0,D.agg [D.bool false,D.sl [],D.sl []],D.int 0,D.sl []])) l0 (l0.els.length:Int) 0 0))):=by kernel_rfl
theorem Adf(n:Nat)(c0:D):fA [] n 171 [] [c0] =
 .ret [D.agg [D.int 0,D.int 1,D.agg [D.bool false,D.sl [],D.sl []],D.int c0.toInt,D.sl []]]:=by kernel_rfl
theorem Adn(n:Nat)(c0:D):fA [] n 178 [] [c0] =
 cK 214 [c0] fun Y1 =>
 .ret [D.agg [D.int 0,D.sl [],D.sl [qA Y1]]]:=by kernel_rfl
theorem Adk(n:Nat)(a0 b1:D):fA [] n 179 [] [a0,b1] =
 cK 232 [a0,b1,D.bool false] fun Y1 =>
 .ret [D.bool ((qA Y1).toBool)]:=by kernel_rfl
theorem Adt(n:Nat)(a0:D):fA [] n 213 [] [a0] =
 .br ((((a0.fld 1).els).length:Int)==0) (.ret [D.bool ((((a0.fld 2).els).length:Int)==1)])
 (.ret [D.bool false]):=by kernel_rfl
theorem Adx(n:Nat)(c0:D):fA [] n 214 [] [c0] =
 cK 247 [(c0.fld 2).fld 1] fun Y1 =>
 cK 247 [(c0.fld 2).fld 2] fun Y2 =>
 cK 248 [c0.fld 4] fun Y3 =>
 .ret [D.agg [D.int ((c0.fld 0).toInt),D.int ((c0.fld 1).toInt),D.agg [D.bool (((c0.fld 2).fld 0).toBool),D.sl ((qA Y1).els),D.sl ((qA Y2).els)],D.int ((c0.fld 3).toInt),D.sl ((qA Y3).els)]]:=by kernel_rfl
theorem Adw(n:Nat)(a0 b1 labels2:D):fA [] n 232 [] [a0,b1,labels2] =
 .br labels2.toBool (.br (((a0.fld 0).toInt)!=((b1.fld 0).toInt)) (.ret [D.bool false])
 (cK 234 [a0.fld 1,b1.fld 1] fun Y1 =>
 .br (!((qA Y1).toBool)) (.ret [D.bool false])
 (cK 272 [a0.fld 2,b1.fld 2,D.fn 273 [.ref 4] [D.ref (D.bool labels2.toBool)]] fun Y2 =>
 .ret [D.bool ((qA Y2).toBool)])))
 (cK 234 [a0.fld 1,b1.fld 1] fun Y3 =>
 .br (!((qA Y3).toBool)) (.ret [D.bool false])
 (cK 272 [a0.fld 2,b1.fld 2,D.fn 273 [.ref 4] [D.ref (D.bool labels2.toBool)]] fun Y4 =>
 .ret [D.bool ((qA Y4).toBool)])):=by kernel_rfl
theorem Adl(n:Nat)(nn0:D):fA [] n 257 [] [nn0] =
 cK 214 [D.agg [D.int 0,D.int 0,nn0,D.int 0,D.sl []]] fun Y1 =>
 .ret [qA Y1]:=by kernel_rfl
theorem Adv(n:Nat)(x0 y1 c2:D):fA [] n 273 [.ref 4] [x0,y1,c2] =
 .br c2.unref.toBool (.br (((x0.fld 0).toInt)!=((y1.fld 0).toInt)) (.ret [D.bool false])
 (.br (((x0.fld 1).toInt)!=((y1.fld 1).toInt)) (.ret [D.bool false])
 (.br (((x0.fld 3).toInt)!=((y1.fld 3).toInt)) (.ret [D.bool false])
 (cK 274 [x0.fld 2,y1.fld 2] fun Y1 =>
 .br (!((qA Y1).toBool)) (.ret [D.bool false])
 (cK 275 [x0.fld 4,y1.fld 4,D.fn 276 [.ref 4] [D.ref c2.unref]] fun Y2 =>
 .ret [D.bool ((qA Y2).toBool)])))))
 (.br (((x0.fld 1).toInt)!=((y1.fld 1).toInt)) (.ret [D.bool false])
 (.br (((x0.fld 3).toInt)!=((y1.fld 3).toInt)) (.ret [D.bool false])
 (cK 274 [x0.fld 2,y1.fld 2] fun Y3 =>
 .br (!((qA Y3).toBool)) (.ret [D.bool false])
 (cK 275 [x0.fld 4,y1.fld 4,D.fn 276 [.ref 4] [D.ref c2.unref]] fun Y4 =>
 .ret [D.bool ((qA Y4).toBool)])))):=by kernel_rfl
theorem Adu(n:Nat)(p0 q1 c2:D):fA [] n 276 [.ref 4] [p0,q1,c2] =
 cK 232 [p0,q1,D.bool c2.unref.toBool] fun Y1 =>
 .ret [D.bool ((qA Y1).toBool)]:=by kernel_rfl
def AK:List (Nat×Orc):=[(5,⟨[(1,none),(2,none),(5,none),(7,none)],[(2,true)],[]⟩)]
noncomputable def AJ(n m5:Nat)(deep1 nn5 i7:Int)(a2:D):Tree :=
 lA (eA AK n 13 [1,1,1,0,1,0,0]) (Al AK 5) m5 ⟨(.undef:: .i .i64 deep1:: .ptr 2 []:: .undef:: .undef:: .i .i64 nn5:: .undef:: .i .i64 i7::uA 28),[(2,.var 26 (.d 26 a2) true)],[2],[],[]⟩
  (Aj 0 (An (jA AK n 13 [1,1,1,1]) (rA 13 [26,3] [.tmp 4] [4])))
theorem ZS(n m5:Nat)(deep1 nn5 i7:Int)(a2:D):AJ n (m5+1) deep1 nn5 i7 a2 =
 bK (i7<nn5) (kK (0≤i7) (kK (i7<(((a2.fld 2).els).length:Int)) (cK 53 [((a2.fld 2).els).getD (Apj i7) D.nil,D.int deep1] fun Y2 =>
 .br (!((qA Y2).toBool)) (.ret [D.bool false])
 (AJ n m5 deep1 nn5 (Api .i64 (i7+1)) a2))))
 (.ret [D.bool true]):=by kernel_rfl
theorem Als(n:Nat)(a0 deep1:D):fA AK n 13 [] [a0,deep1] =
 cK 52 [a0.fld 1] fun Y1 =>
 .br (((qB Y1).toInt)!=0) (.ret [D.bool false])
 (.br (((qA Y1).toInt)!=(((a0.fld 2).els).length:Int)) (.ret [D.bool false])
 (AJ n n deep1.toInt ((qA Y1).toInt) 0 a0)):=by kernel_rfl
def Jc:List (Nat×Orc):=[(3,⟨[(1,none),(3,none),(4,none)],[(1,true)],[]⟩),(7,⟨[(1,none),(3,none),(4,none),(5,none)],[(1,true)],[]⟩)]
noncomputable def AQ(n m3 m7:Nat)(l3 i4 k5:Int)(a1:D):Tree :=
 lA (eA Jc n 17 [1,1,0,1,0,0,1,0,0,1,1,0,0]) (Al Jc 7) m7 ⟨(.undef:: .ptr 1 []:: .undef:: .i .u64 l3:: .i .i64 i4:: .i .i64 k5::uA 41),[(1,.var 26 (.d 26 a1) true)],[1],[],[]⟩
  (Aj 2 (Aj 1 (An (jA Jc n 17 [1,1,0,1,0,0,1,1]) (Fs Tryz.prog md (Al Jc 3) (fun s1=>lA (eA Jc n 17 [1,1,0,1,0,0]) (Al Jc 3) m3 s1 (Aj 0 (An (jA Jc n 17 [1,1,1]) (rA 17 [26] [.tmp 2] [22])))) (Aj 0 (An (jA Jc n 17 [1,1,1]) (rA 17 [26] [.tmp 2] [22])))))))
noncomputable def AP(n m3:Nat)(l3 i4:Int)(a1:D):Tree :=
 lA (eA Jc n 17 [1,1,0,1,0,0]) (Al Jc 3) m3 ⟨(.undef:: .ptr 1 []:: .undef:: .i .u64 l3:: .i .i64 i4::uA 42),[(1,.var 26 (.d 26 a1) true)],[1],[],[]⟩
  (Aj 0 (An (jA Jc n 17 [1,1,1]) (rA 17 [26] [.tmp 2] [22])))
theorem ZY(n m3 m7:Nat)(l3 i4 k5:Int)(a1:D):AQ n m3 (m7+1) l3 i4 k5 a1 =
 kK (0≤i4) (kK (i4<(((a1.fld 2).els).length:Int)) (bK (k5<((((((a1.fld 2).els).getD (Apj i4) D.nil).fld 4).els).length:Int)) (kK (0≤i4) (kK (i4<(((a1.fld 2).els).length:Int)) (kK (0≤k5) (kK (k5<((((((a1.fld 2).els).getD (Apj i4) D.nil).fld 4).els).length:Int)) (cK 17 [(((((a1.fld 2).els).getD (Apj i4) D.nil).fld 4).els).getD (Apj k5) D.nil] fun Y2 =>
 cK 18 [D.int l3,D.int ((qA Y2).toInt)] fun Y3 =>
 AQ n m3 m7 ((qA Y3).toInt) i4 (Api .i64 (k5+1)) a1)))))
 (AP n m3 l3 (Api .i64 (i4+1)) a1))):=by kernel_rfl
theorem ZX(n m3:Nat)(l3 i4:Int)(a1:D):AP n (m3+1) l3 i4 a1 =
 bK (i4<(((a1.fld 2).els).length:Int)) (kK (0≤i4) (kK (i4<(((a1.fld 2).els).length:Int)) (cK 18 [D.int l3,D.int (((((a1.fld 2).els).getD (Apj i4) D.nil).fld 0).toInt)] fun Y1 =>
 AQ n m3 n ((qA Y1).toInt) i4 0 a1)))
 (.ret [D.int l3]):=by kernel_rfl
theorem Aly(n:Nat)(a0:D):fA Jc n 17 [] [a0] =
 AP n n ((a0.fld 0).toInt) 0 a0:=by kernel_rfl
theorem All(n:Nat)(a0:D):fA [] n 19 [] [a0] =
 cK 73 [a0,D.int 0,D.bool true] fun Y1 =>
 .ret [qA Y1]:=by kernel_rfl
theorem Alq(n:Nat)(a0 b1:D):fA [] n 20 [] [a0,b1] =
 cK 19 [a0] fun Y1 =>
 cK 19 [b1] fun Y2 =>
 cK 34 [qA Y1,qA Y2] fun Y3 =>
 .ret [D.bool ((qA Y3).toBool)]:=by kernel_rfl
theorem Alo(n:Nat)(a0:D):fA [] n 30 [] [a0] =
 cK 75 [a0] fun Y1 =>
 .br ((qA Y1).toBool) (cK 13 [a0,D.int 8] fun Y2 =>
 .br ((qA Y2).toBool) (cK 76 [a0] fun Y3 =>
 .ret [D.bool ((qA Y3).toBool)])
 (.ret [D.bool false]))
 (.ret [D.bool false]):=by kernel_rfl
def AO:List (Nat×Orc):=[(4,⟨[(2,none),(3,none),(5,none)],[(2,true),(3,true)],[]⟩)]
noncomputable def AN(n m4:Nat)(i5:Int)(a2 b3:D):Tree :=
 lA (eA AO n 34 [1,1,0,1,0,0]) (Al AO 4) m4 ⟨(.undef:: .undef:: .ptr 2 []:: .ptr 3 []:: .undef:: .i .i64 i5::uA 41),[(2,.var 26 (.d 26 a2) true),(3,.var 26 (.d 26 b3) true)],[2,3],[],[]⟩
  (Aj 0 (An (jA AO n 34 [1,1,1]) (rA 34 [26,26] [.tmp 4] [4])))
theorem ZV(n m4:Nat)(i5:Int)(a2 b3:D):AN n (m4+1) i5 a2 b3 =
 bK (i5<(((a2.fld 2).els).length:Int)) (kK (0≤i5) (kK (i5<(((a2.fld 2).els).length:Int)) (kK (0≤i5) (kK (i5<(((b3.fld 2).els).length:Int)) (cK 79 [((a2.fld 2).els).getD (Apj i5) D.nil,((b3.fld 2).els).getD (Apj i5) D.nil] fun Y2 =>
 .br (!((qA Y2).toBool)) (.ret [D.bool false])
 (AN n m4 (Api .i64 (i5+1)) a2 b3))))))
 (.ret [D.bool true]):=by kernel_rfl
theorem Alv(n:Nat)(a0 b1:D):fA AO n 34 [] [a0,b1] =
 .br (((a0.fld 0).toInt)!=((b1.fld 0).toInt)) (.ret [D.bool false])
 (cK 54 [a0.fld 1,b1.fld 1] fun Y1 =>
 .br (!((qA Y1).toBool)) (.ret [D.bool false])
 (.br ((((a0.fld 2).els).length:Int)!=(((b1.fld 2).els).length:Int)) (.ret [D.bool false])
 (AN n n 0 a0 b1))):=by kernel_rfl
theorem Alj(n:Nat)(c0 deep1:D):fA [] n 53 [] [c0,deep1] =
 .br (((c0.fld 1).toInt)==0) (.br (((c0.fld 3).toInt)==0) (.br ((((c0.fld 4).els).length:Int)==0) (cK 133 [c0.fld 2] fun Y1 =>
 .ret [D.bool ((qA Y1).toBool)])
 (.ret [D.bool false]))
 (.ret [D.bool false]))
 (.br (((c0.fld 1).toInt)==1) (cK 134 [c0.fld 2] fun Y2 =>
 .br ((qA Y2).toBool) (.br ((((c0.fld 4).els).length:Int)==0) (cK 135 [D.int ((c0.fld 3).toInt)] fun Y3 =>
 .ret [D.bool ((qA Y3).toBool)])
 (.ret [D.bool false]))
 (.ret [D.bool false]))
 (.br (((c0.fld 1).toInt)==2) (cK 134 [c0.fld 2] fun Y4 =>
 .br ((qA Y4).toBool) (.br (((c0.fld 3).toInt)==0) (.br ((((c0.fld 4).els).length:Int)==1) (bK (0<deep1.toInt) (kK (0≤0) (kK (0<(((c0.fld 4).els).length:Int)) (cK 136 [((c0.fld 4).els).getD (Apj 0) D.nil] fun Y5 =>
 .br (!((qA Y5).toBool)) (kK (0≤0) (kK (0<(((c0.fld 4).els).length:Int)) (cK 13 [((c0.fld 4).els).getD (Apj 0) D.nil,D.int (Api .i64 (deep1.toInt-1))] fun Y6 =>
 .ret [D.bool ((qA Y6).toBool)])))
 (.ret [D.bool false]))))
 (.ret [D.bool false]))
 (.ret [D.bool false]))
 (.ret [D.bool false]))
 (.ret [D.bool false]))
 (.ret [D.bool false]))):=by kernel_rfl
def Ik:List (Nat×Orc):=[(5,⟨[(1,none),(2,none),(3,none),(6,none),(7,none),(8,none)],[(3,true),(6,false),(7,false)],[(.fld 7 [2],1050,67)]⟩),(13,⟨[(1,none),(2,none),(3,none),(6,none),(7,none),(8,none),(9,none),(10,none),(11,none)],[(3,true),(6,false),(7,false),(9,false)],[(.slot 10,1130,26),(.fld 7 [2],1131,67)]⟩)]
noncomputable def Qu(n m5 m13:Nat)(l1:Int)(erased2:Bool)(i8:Int)(in10:List D)(k11:Int)(a3:D)(t6_0 out7_0:Int)(out7_1:D)(out7_2:List D)(c9_0 c9_1:Int)(c9_2:D)(c9_3:Int)(c9_4:D):Tree :=
 lA (eA Ik n 73 [1,1,1,0,1,0,0,1,0,0,1,1,1,0,1,0,0]) (Al Ik 13) m13 ⟨(.undef:: .i .u64 l1:: .b erased2:: .ptr 3 []:: .undef:: .undef:: .ptr 6 []:: .ptr 7 []:: .i .i64 i8:: .ptr 9 []:: .row 1130:: .i .i64 k11::uA 58),[(3,.var 26 (.d 26 a3) true),(6,.var 26 (.agg 26 [.i .u64 t6_0,.mt,.mt]) true),(7,.var 26 (.agg 26 [.i .u64 out7_0,.d 23 out7_1,.row 1131]) true),(9,.var 67 (.agg 67 [.i .u64 c9_0,.i .i64 c9_1,.d 64 c9_2,.i .i64 c9_3,.d 65 c9_4]) true),(1130,.row 26 in10 true),(1131,.row 67 out7_2 true)],[3,6,7,9,1130,1131],[],[]⟩
  (Aj 2 (An (jA Ik n 73 [1,1,1,0,1,0,0,1,0,0,1,1,1,1]) (Aj 1 (An (jA Ik n 73 [1,1,1,0,1,0,0,1,1]) (Fs Tryz.prog md (Al Ik 5) (fun s1=>lA (eA Ik n 73 [1,1,1,0,1,0,0]) (Al Ik 5) m5 s1 (Aj 0 (An (jA Ik n 73 [1,1,1,1]) (rA 73 [26,22,4] [.cell 6 26] [26])))) (Aj 0 (An (jA Ik n 73 [1,1,1,1]) (rA 73 [26,22,4] [.cell 6 26] [26]))))))))
noncomputable def Qv(n m5:Nat)(l1:Int)(erased2:Bool)(i8:Int)(a3:D)(t6_0 out7_0:Int)(out7_1:D)(out7_2:List D):Tree :=
 lA (eA Ik n 73 [1,1,1,0,1,0,0]) (Al Ik 5) m5 ⟨(.undef:: .i .u64 l1:: .b erased2:: .ptr 3 []:: .undef:: .undef:: .ptr 6 []:: .ptr 7 []:: .i .i64 i8::uA 61),[(3,.var 26 (.d 26 a3) true),(6,.var 26 (.agg 26 [.i .u64 t6_0,.mt,.mt]) true),(7,.var 26 (.agg 26 [.i .u64 out7_0,.d 23 out7_1,.row 1050]) true),(1050,.row 67 out7_2 true)],[3,6,7,1050],[],[]⟩
  (Aj 0 (An (jA Ik n 73 [1,1,1,1]) (rA 73 [26,22,4] [.cell 6 26] [26])))
theorem ZL(n m5 m13:Nat)(l1:Int)(erased2:Bool)(i8:Int)(in10:List D)(k11:Int)(a3:D)(t6_0 out7_0:Int)(out7_1:D)(out7_2:List D)(c9_0 c9_1:Int)(c9_2:D)(c9_3:Int)(c9_4:D):Qu n m5 (m13+1) l1 erased2 i8 in10 k11 a3 t6_0 out7_0 out7_1 out7_2 c9_0 c9_1 c9_2 c9_3 c9_4 =
 bK (k11<(c9_4.els.length:Int)) (kK (0≤k11) (kK (k11<(c9_4.els.length:Int)) (cK 73 [c9_4.els.getD (Apj k11) D.nil,D.int l1,D.bool erased2] fun Y2 =>
 kK (in10.length + [qA Y2].length≤Ak) (Qu n m5 m13 l1 erased2 i8 (in10++[qA Y2]) (Api .i64 (k11+1)) a3 t6_0 out7_0 out7_1 out7_2 c9_0 c9_1 c9_2 c9_3 c9_4))))
 (kK (out7_2.length + [D.agg [D.int c9_0,D.int c9_1,c9_2,D.int c9_3,D.sl in10]].length≤Ak) (Qv n m5 l1 erased2 (Api .i64 (i8+1)) a3 t6_0 out7_0 out7_1 (out7_2++[D.agg [D.int c9_0,D.int c9_1,c9_2,D.int c9_3,D.sl in10]]))):=by kernel_rfl
theorem ZM(n m5:Nat)(l1:Int)(erased2:Bool)(i8:Int)(a3:D)(t6_0 out7_0:Int)(out7_1:D)(out7_2:List D):Qv n (m5+1) l1 erased2 i8 a3 t6_0 out7_0 out7_1 out7_2 =
 bK (i8<(((a3.fld 2).els).length:Int)) (kK (0≤i8) (kK (i8<(((a3.fld 2).els).length:Int)) (.br erased2 (Qu n m5 n l1 erased2 i8 [] 0 a3 t6_0 out7_0 out7_1 out7_2 l1 (((((a3.fld 2).els).getD (Apj i8) D.nil).fld 1).toInt) ((((a3.fld 2).els).getD (Apj i8) D.nil).fld 2) (((((a3.fld 2).els).getD (Apj i8) D.nil).fld 3).toInt) ((((a3.fld 2).els).getD (Apj i8) D.nil).fld 4))
 (cK 18 [D.int (((((a3.fld 2).els).getD (Apj i8) D.nil).fld 0).toInt),D.int l1] fun Y3 =>
 Qu n m5 n l1 erased2 i8 [] 0 a3 t6_0 out7_0 out7_1 out7_2 ((qA Y3).toInt) (((((a3.fld 2).els).getD (Apj i8) D.nil).fld 1).toInt) ((((a3.fld 2).els).getD (Apj i8) D.nil).fld 2) (((((a3.fld 2).els).getD (Apj i8) D.nil).fld 3).toInt) ((((a3.fld 2).els).getD (Apj i8) D.nil).fld 4)))))
 (.ret [D.agg [D.int out7_0,out7_1,D.sl out7_2]]):=by kernel_rfl
theorem Alk(n:Nat)(a0 l1 erased2:D):fA Ik n 73 [] [a0,l1,erased2] =
 .br (!erased2.toBool) (cK 18 [D.int ((a0.fld 0).toInt),D.int l1.toInt] fun Y1 =>
 Qv n n l1.toInt erased2.toBool 0 a0 0 ((qA Y1).toInt) (a0.fld 1) [])
 (Qv n n l1.toInt erased2.toBool 0 a0 0 l1.toInt (a0.fld 1) []):=by kernel_rfl
theorem Aln(n:Nat)(a0:D):fA [] n 75 [] [a0] =
 cK 161 [a0,D.int 12,D.int 4000] fun Y1 =>
 .ret [D.bool (decide (0≤((qA Y1).toInt)))]:=by kernel_rfl
def G7:List (Nat×Orc):=[(3,⟨[(1,none),(3,none),(4,none)],[(1,true)],[]⟩),(10,⟨[(1,none),(5,none)],[(1,true)],[]⟩),(13,⟨[(1,none),(5,none),(6,none)],[(1,true)],[]⟩)]
noncomputable def AS(n m10 m13:Nat)(i5 k6:Int)(a1:D):Tree :=
 lA (eA G7 n 76 [1,1,1,1,0,1,0,0,1,0,0,1,0,0]) (Al G7 13) m13 ⟨(.undef:: .ptr 1 []::uA 3++(.i .i64 i5:: .i .i64 k6::uA 55)),[(1,.var 26 (.d 26 a1) true)],[1],[],[]⟩
  (Aj 4 (Aj 3 (An (jA G7 n 76 [1,1,1,1,0,1,0,0,1,1]) (Fs Tryz.prog md (Al G7 10) (fun s1=>lA (eA G7 n 76 [1,1,1,1,0,1,0,0]) (Al G7 10) m10 s1 (Aj 2 (An (jA G7 n 76 [1,1,1,1,1]) (rA 76 [26] [.tmp 2] [4])))) (Aj 2 (An (jA G7 n 76 [1,1,1,1,1]) (rA 76 [26] [.tmp 2] [4])))))))
noncomputable def On(n m10:Nat)(i5:Int)(a1:D):Tree :=
 lA (eA G7 n 76 [1,1,1,1,0,1,0,0]) (Al G7 10) m10 ⟨(.undef:: .ptr 1 []::uA 3++(.i .i64 i5::uA 56)),[(1,.var 26 (.d 26 a1) true)],[1],[],[]⟩
  (Aj 2 (An (jA G7 n 76 [1,1,1,1,1]) (rA 76 [26] [.tmp 2] [4])))
noncomputable def Tt(n m3:Nat)(nn3 i4:Int)(a1:D):Tree :=
 lA (eA G7 n 76 [1,1,0,1,0,0]) (Al G7 3) m3 ⟨(.undef:: .ptr 1 []:: .undef:: .i .i64 nn3:: .i .i64 i4::uA 57),[(1,.var 26 (.d 26 a1) true)],[1],[],[]⟩
  (Aj 0 (An (jA G7 n 76 [1,1,1]) (rA 76 [26] [.tmp 2] [4])))
theorem Aaf(n m10 m13:Nat)(i5 k6:Int)(a1:D):AS n m10 (m13+1) i5 k6 a1 =
 kK (0≤i5) (kK (i5<(((a1.fld 2).els).length:Int)) (bK (k6<((((((a1.fld 2).els).getD (Apj i5) D.nil).fld 4).els).length:Int)) (kK (0≤i5) (kK (i5<(((a1.fld 2).els).length:Int)) (kK (0≤k6) (kK (k6<((((((a1.fld 2).els).getD (Apj i5) D.nil).fld 4).els).length:Int)) (cK 76 [(((((a1.fld 2).els).getD (Apj i5) D.nil).fld 4).els).getD (Apj k6) D.nil] fun Y1 =>
 .br (!((qA Y1).toBool)) (.ret [D.bool false])
 (AS n m10 m13 i5 (Api .i64 (k6+1)) a1))))))
 (On n m10 (Api .i64 (i5+1)) a1))):=by kernel_rfl
theorem Aae(n m10:Nat)(i5:Int)(a1:D):On n (m10+1) i5 a1 =
 bK (i5<(((a1.fld 2).els).length:Int)) (AS n m10 n i5 0 a1)
 (.ret [D.bool true]):=by kernel_rfl
theorem Aag(n m3:Nat)(nn3 i4:Int)(a1:D):Tt n (m3+1) nn3 i4 a1 =
 bK (i4<(((a1.fld 1).els).length:Int)) (bK (nn3≤100000) (kK (0≤i4) (kK (i4<(((a1.fld 1).els).length:Int)) (bK (0<((((a1.fld 1).els).getD (Apj i4) D.nil).toInt)) (kK (0≤i4) (kK (i4<(((a1.fld 1).els).length:Int)) (Tt n m3 (Api .i64 (nn3*((((a1.fld 1).els).getD (Apj i4) D.nil).toInt))) (Api .i64 (i4+1)) a1)))
 (Tt n m3 nn3 (Api .i64 (i4+1)) a1))))
 (bK (100000<nn3) (.ret [D.bool false])
 (On n n 0 a1)))
 (bK (100000<nn3) (.ret [D.bool false])
 (On n n 0 a1)):=by kernel_rfl
theorem Al0(n:Nat)(a0:D):fA G7 n 76 [] [a0] =
 Tt n n 1 0 a0:=by kernel_rfl
theorem Alp(n:Nat)(nn0:D):fA [] n 78 [] [nn0] =
 cK 165 [D.int nn0.toInt] fun Y1 =>
 .ret [D.agg [D.int 0,D.int 0,qA Y1,D.int 0,D.sl []]]:=by kernel_rfl
def AM:List (Nat×Orc):=[(4,⟨[(2,none),(3,none),(5,none)],[(2,true),(3,true)],[]⟩)]
noncomputable def AL(n m4:Nat)(i5:Int)(a2 b3:D):Tree :=
 lA (eA AM n 79 [1,1,0,1,0,0]) (Al AM 4) m4 ⟨(.undef:: .undef:: .ptr 2 []:: .ptr 3 []:: .undef:: .i .i64 i5::uA 55),[(2,.var 67 (.d 67 a2) true),(3,.var 67 (.d 67 b3) true)],[2,3],[],[]⟩
  (Aj 0 (An (jA AM n 79 [1,1,1]) (rA 79 [67,67] [.tmp 4] [4])))
theorem ZU(n m4:Nat)(i5:Int)(a2 b3:D):AL n (m4+1) i5 a2 b3 =
 bK (i5<(((a2.fld 4).els).length:Int)) (kK (0≤i5) (kK (i5<(((a2.fld 4).els).length:Int)) (kK (0≤i5) (kK (i5<(((b3.fld 4).els).length:Int)) (cK 34 [((a2.fld 4).els).getD (Apj i5) D.nil,((b3.fld 4).els).getD (Apj i5) D.nil] fun Y2 =>
 .br (!((qA Y2).toBool)) (.ret [D.bool false])
 (AL n m4 (Api .i64 (i5+1)) a2 b3))))))
 (.ret [D.bool true]):=by kernel_rfl
theorem Alu(n:Nat)(a0 b1:D):fA AM n 79 [] [a0,b1] =
 .br (((a0.fld 0).toInt)!=((b1.fld 0).toInt)) (.ret [D.bool false])
 (.br (((a0.fld 1).toInt)!=((b1.fld 1).toInt)) (.ret [D.bool false])
 (.br (((a0.fld 3).toInt)!=((b1.fld 3).toInt)) (.ret [D.bool false])
 (cK 137 [a0.fld 2,b1.fld 2] fun Y1 =>
 .br (!((qA Y1).toBool)) (.ret [D.bool false])
 (.br ((((a0.fld 4).els).length:Int)!=(((b1.fld 4).els).length:Int)) (.ret [D.bool false])
 (AL n n 0 a0 b1))))):=by kernel_rfl
theorem Al1(n:Nat)(nn0:D):fA [] n 134 [] [nn0] =
 .br (!((nn0.fld 0).toBool)) (.br ((((nn0.fld 1).els).length:Int)==0) (.ret [D.bool ((((nn0.fld 2).els).length:Int)==0)])
 (.ret [D.bool false]))
 (.ret [D.bool false]):=by kernel_rfl
theorem Alx(n:Nat)(a0:D):fA [] n 136 [] [a0] =
 .br ((((a0.fld 1).els).length:Int)==0) (.br ((((a0.fld 2).els).length:Int)==1) (kK (0≤0) (kK (0<(((a0.fld 2).els).length:Int)) (.ret [D.bool ((((((a0.fld 2).els).getD (Apj 0) D.nil).fld 1).toInt)!=2)])))
 (.ret [D.bool false]))
 (.ret [D.bool false]):=by kernel_rfl
def Jd:List (Nat×Orc):=[(5,⟨[(1,none),(2,none),(3,none),(7,none)],[(3,true)],[]⟩),(9,⟨[(1,none),(2,none),(3,none),(7,none),(8,none)],[(3,true)],[]⟩)]
noncomputable def AR(n m5 m9:Nat)(deep1 nn2:Int)(i7 k8:Int)(a3:D):Tree :=
 lA (eA Jd n 161 [1,1,1,0,1,0,0,1,0,0,1,1,0,0]) (Al Jd 9) m9 ⟨(.undef:: .i .i64 deep1:: .i .i64 nn2:: .ptr 3 []::uA 3++(.i .i64 i7:: .i .i64 k8::uA 68)),[(3,.var 26 (.d 26 a3) true)],[3],[],[]⟩
  (Aj 2 (Aj 1 (An (jA Jd n 161 [1,1,1,0,1,0,0,1,1]) (Fs Tryz.prog md (Al Jd 5) (fun s1=>lA (eA Jd n 161 [1,1,1,0,1,0,0]) (Al Jd 5) m5 s1 (Aj 0 (An (jA Jd n 161 [1,1,1,1]) (rA 161 [26,3,3] [.tmp 6] [3])))) (Aj 0 (An (jA Jd n 161 [1,1,1,1]) (rA 161 [26,3,3] [.tmp 6] [3])))))))
noncomputable def Tq(n m5:Nat)(deep1 nn2 i7:Int)(a3:D):Tree :=
 lA (eA Jd n 161 [1,1,1,0,1,0,0]) (Al Jd 5) m5 ⟨(.undef:: .i .i64 deep1:: .i .i64 nn2:: .ptr 3 []::uA 3++(.i .i64 i7::uA 69)),[(3,.var 26 (.d 26 a3) true)],[3],[],[]⟩
  (Aj 0 (An (jA Jd n 161 [1,1,1,1]) (rA 161 [26,3,3] [.tmp 6] [3])))
theorem Aab(n m5 m9:Nat)(deep1 nn2:Int)(i7 k8:Int)(a3:D):AR n m5 (m9+1) deep1 nn2 i7 k8 a3 =
 kK (0≤i7) (kK (i7<(((a3.fld 2).els).length:Int)) (bK (k8<((((((a3.fld 2).els).getD (Apj i7) D.nil).fld 4).els).length:Int)) (bK (0≤nn2) (kK (0≤i7) (kK (i7<(((a3.fld 2).els).length:Int)) (kK (0≤k8) (kK (k8<((((((a3.fld 2).els).getD (Apj i7) D.nil).fld 4).els).length:Int)) (cK 161 [(((((a3.fld 2).els).getD (Apj i7) D.nil).fld 4).els).getD (Apj k8) D.nil,D.int (Api .i64 (deep1-1)),D.int nn2] fun Y1 =>
 AR n m5 m9 deep1 ((qA Y1).toInt) i7 (Api .i64 (k8+1)) a3)))))
 (Tq n m5 deep1 nn2 (Api .i64 (i7+1)) a3))
 (Tq n m5 deep1 nn2 (Api .i64 (i7+1)) a3))):=by kernel_rfl
theorem Aaa(n m5:Nat)(deep1 nn2 i7:Int)(a3:D):Tq n (m5+1) deep1 nn2 i7 a3 =
 bK (i7<(((a3.fld 2).els).length:Int)) (bK (0≤nn2) (kK (0≤i7) (kK (i7<(((a3.fld 2).els).length:Int)) (kK (0≤i7) (kK (i7<(((a3.fld 2).els).length:Int)) (AR n m5 n deep1 (Api .i64 ((Api .i64 ((Api .i64 (nn2-1))-(((((((a3.fld 2).els).getD (Apj i7) D.nil).fld 2).fld 1).els).length:Int)))-(((((((a3.fld 2).els).getD (Apj i7) D.nil).fld 2).fld 2).els).length:Int))) i7 0 a3)))))
 (.ret [D.int nn2]))
 (.ret [D.int nn2]):=by kernel_rfl
theorem Aad(n:Nat)(a0 deep1 nn2:D):fA Jd n 161 [] [a0,deep1,nn2] =
 .br (deep1.toInt == 0) (.ret [D.int (-1)])
 (Tq n n deep1.toInt (Api .i64 ((Api .i64 (nn2.toInt-1))-(((a0.fld 1).els).length:Int))) 0 a0):=by kernel_rfl
def Zy:List (Nat×Orc):=[(3,⟨[(0,none),(1,none),(5,none),(6,none)],[],[]⟩)]
noncomputable def Qt(n m3:Nat)(a0 b1:Int)(out5 t6:Int):Tree :=
 lA (eA Zy n 18 [1,1,0,1,0,0]) (Al Zy 3) m3 ⟨(.i .u64 a0:: .i .u64 b1::uA 3++(.i .u64 out5:: .i .i64 t6::uA 17)),[],[],[],[]⟩
  (Aj 0 (An (jA Zy n 18 [1,1,1]) (rA 18 [22,22] [.tmp 4] [22])))
theorem YT(n m3:Nat)(a0 b1:Int)(out5 t6:Int):Qt n (m3+1) a0 b1 out5 t6 =
 bK (t6<64) (cK 71 [D.int a0,D.int t6] fun Y1 =>
 .br ((qA Y1).toBool) (cK 72 [D.int t6] fun Y2 =>
 Qt n m3 a0 b1 (Api .u64 (out5+((qA Y2).toInt))) (Api .i64 (t6+1)))
 (cK 71 [D.int b1,D.int t6] fun Y3 =>
 .br ((qA Y3).toBool) (cK 72 [D.int t6] fun Y4 =>
 Qt n m3 a0 b1 (Api .u64 (out5+((qA Y4).toInt))) (Api .i64 (t6+1)))
 (Qt n m3 a0 b1 out5 (Api .i64 (t6+1)))))
 (.ret [D.int out5]):=by kernel_rfl
theorem Aku(n:Nat)(a0 b1:D):fA Zy n 18 [] [a0,b1] =
 Qt n n a0.toInt b1.toInt 0 0:=by kernel_rfl
def Zx:List (Nat×Orc):=[(2,⟨[(0,none),(1,none),(5,none)],[],[]⟩)]
noncomputable def Zw(n m2:Nat)(l0 t1 i5:Int):Tree :=
 lA (eA Zx n 71 [1,0,1,0,0]) (Al Zx 2) m2 ⟨(.i .u64 l0:: .i .i64 t1::uA 3++(.i .i64 i5::uA 10)),[],[],[],[]⟩
  (Aj 0 (An (jA Zx n 71 [1,1]) (rA 71 [22,3] [.tmp 4] [4])))
theorem YR(n m2:Nat)(l0 t1 i5:Int):Zw n (m2+1) l0 t1 i5 =
 bK (i5<t1) (.br (!(2 == (0:Int))) (Zw n m2 (Api .u64 (Int.tdiv l0 2)) t1 (Api .i64 (i5+1))) .fail)
 (.br (!(2 == (0:Int))) (.ret [D.bool ((Int.tmod l0 2)==1)]) .fail):=by kernel_rfl
theorem Akt(n:Nat)(l0 t1:D):fA Zx n 71 [] [l0,t1] =
 Zw n n l0.toInt t1.toInt 0:=by kernel_rfl
def Zv:List (Nat×Orc):=[(3,⟨[(0,none),(3,none),(4,none)],[],[]⟩)]
noncomputable def Zu(n m3:Nat)(t0 nn3 i4:Int):Tree :=
 lA (eA Zv n 72 [1,1,0,1,0,0]) (Al Zv 3) m3 ⟨(.i .i64 t0:: .undef:: .undef:: .i .u64 nn3:: .i .i64 i4::uA 8),[],[],[],[]⟩
  (Aj 0 (An (jA Zv n 72 [1,1,1]) (rA 72 [3] [.tmp 2] [22])))
theorem YO(n m3:Nat)(t0 nn3 i4:Int):Zu n (m3+1) t0 nn3 i4 =
 bK (i4<t0) (Zu n m3 t0 (Api .u64 (nn3*2)) (Api .i64 (i4+1)))
 (.ret [D.int nn3]):=by kernel_rfl
theorem Aks(n:Nat)(t0:D):fA Zv n 72 [] [t0] =
 Zu n n t0.toInt 1 0:=by kernel_rfl
theorem Agp(n:Nat)(a0 b1:D):fA [] n 83 [] [a0,b1] =
 .ret [D.int (Br .or .u64 a0.toInt b1.toInt)]:=by kernel_rfl
abbrev At:=BitVec 64
abbrev Aq:=BitVec 32
structure Num where
 neg:Bool
 top:List Aq
 bot:List Aq
 deriving DecidableEq
structure CellF (α:Type) where
 l:At
 kind:Int
 n:Num
 c:Int
 inn:List α
inductive Arr where
 | mk (s:At) (shape:List Int) (cells:List (CellF Arr))
abbrev Cell:=CellF Arr
def Arr.s:Arr→At | .mk s _ _=>s
def Arr.shape:Arr→List Int | .mk _ s _=>s
def Arr.cells:Arr→List Cell | .mk _ _ c=>c
@[simp] theorem Arr.s_mk (s sh cs):(Arr.mk s sh cs).s=s:=rfl
@[simp] theorem Arr.shape_mk (s sh cs):(Arr.mk s sh cs).shape=sh:=rfl
@[simp] theorem Arr.cells_mk (s sh cs):(Arr.mk s sh cs).cells=cs:=rfl
def Num.zero:Num:=⟨false,[],[]⟩
def Cell.none:Cell:=⟨0,0,.zero,0,[]⟩
def Arr.none:Arr:= .mk 0 [] []
theorem Arr.ind {p:Arr→Prop} (h : ∀ s sh cs,(∀ c∈cs,∀ x∈c.inn,p x)→p (.mk s sh cs)) (a:Arr):p a :=
 Arr.rec (motive_1:=p) (motive_2:=fun cs=>∀ c∈cs,∀ x∈c.inn,p x) (motive_3:=fun c=>∀ x∈c.inn,p x) (motive_4:=fun as_=>∀ x∈as_,p x)
  (fun s sh cs ih=>h s sh cs ih) (fun c hc=>by cases hc)
  (fun c cs h1 h2 d hd=>by rcases Ap4.1 hd with rfl | hd;exact h1;exact h2 d hd)
  (fun _ _ _ _ _ ih=>ih) (fun x hx=>by cases hx)
  (fun a as_ h1 h2 x hx=>by rcases Ap4.1 hx with rfl | hx;exact h1;exact h2 x hx) a
def dB{k:Nat}(x:BitVec k):D:= .int (x.toNat:Int)
def dI(l:List Int):D:= .sl (l.map .int)
def dL(l:List Aq):D:= .sl (l.map dB)
def dN(n:Num):D:= .agg [.bool n.neg,dL n.top,dL n.bot]
mutual
def dA:Arr→D
 | .mk s sh cs=> .agg [dB s,dI sh,.sl (R6 cs)]
def R6:List (CellF Arr)→List D
 | []=>[]
 | c::cs=>dC c::R6 cs
def dC:CellF Arr→D
 | ⟨l,k,n,c,inn⟩=> .agg [dB l,.int k,dN n,.int c,.sl (R4 inn)]
def R4:List Arr→List D
 | []=>[]
 | a::as_=>dA a::R4 as_
end
theorem PP : ∀ cs,R6 cs=cs.map dC
 | []=>by simp[R6]
 | c::cs=>by simp[R6,PP cs]
theorem PM : ∀ as_,R4 as_=as_.map dA
 | []=>by simp[R4]
 | a::as_=>by simp[R4,PM as_]
theorem D4(a:Arr):dA a = .agg [dB a.s,dI a.shape,.sl (a.cells.map dC)]:=by cases a;simp[dA,PP]
theorem D_(c:Cell):dC c = .agg [dB c.l,.int c.kind,dN c.n,.int c.c,.sl (c.inn.map dA)]:=by cases c;simp[dC,PM]
theorem Aev(s:At)(sh:List Int)(cs:List Cell):D.agg [dB s,dI sh,.sl (cs.map dC)]=dA (.mk s sh cs):=by rw[D4];rfl
section simps
@[simp] theorem Lh (x:D) (l:List D):(D.agg (x::l)).fld 0=x:=rfl
@[simp] theorem Li (x y:D) (l:List D):(D.agg (x::y::l)).fld 1=y:=rfl
@[simp] theorem W2 (x y z:D) (l:List D):(D.agg (x::y::z::l)).fld 2=z:=rfl
@[simp] theorem Apf (x y z u:D) (l:List D):(D.agg (x::y::z::u::l)).fld 3=u:=rfl
@[simp] theorem Apg (x y z u v:D) (l:List D):(D.agg (x::y::z::u::v::l)).fld 4=v:=rfl
@[simp] theorem V5 (a:Arr):(dA a).fld 0=dB a.s:=by rw[D4];rfl
@[simp] theorem V6 (a:Arr):(dA a).fld 1=dI a.shape:=by rw[D4];rfl
@[simp] theorem FG (a:Arr):(dA a).fld 2 = .sl (a.cells.map dC):=by rw[D4];rfl
@[simp] theorem Aew (c:Cell):(dC c).fld 0=dB c.l:=by rw[D_];rfl
@[simp] theorem PO (c:Cell):(dC c).fld 1 = .int c.kind:=by rw[D_];rfl
@[simp] theorem Aex (c:Cell):(dC c).fld 2=dN c.n:=by rw[D_];rfl
@[simp] theorem Aey (c:Cell):(dC c).fld 3 = .int c.c:=by rw[D_];rfl
@[simp] theorem FJ (c:Cell):(dC c).fld 4 = .sl (c.inn.map dA):=by rw[D_];rfl
@[simp] theorem Nt (n:Num):(dN n).fld 0 = .bool n.neg:=rfl
@[simp] theorem Pi (n:Num):(dN n).fld 1=dL n.top:=rfl
@[simp] theorem Nu (n:Num):(dN n).fld 2=dL n.bot:=rfl
@[simp] theorem Ee (l:List D):(D.sl l).els=l:=rfl
@[simp] theorem Cf (l:List Int):(dI l).els=l.map .int:=rfl
@[simp] theorem B5 (l:List Aq):(dL l).els=l.map dB:=rfl
@[simp] theorem Ao (n:Int):(D.int n).toInt=n:=rfl
@[simp] theorem Ej {k:Nat} (x:BitVec k):(dB x).toInt=(x.toNat:Int):=rfl
@[simp] theorem Bc (b:Bool):(D.bool b).toBool=b:=rfl
@[simp] theorem DE (x:D):(D.ref x).unref=x:=rfl
@[simp] theorem H6 (f c d):(D.fn f c d).fnId=f:=rfl
@[simp] theorem H4 (f c d):(D.fn f c d).fnCts=c:=rfl
@[simp] theorem H5 (f c d):(D.fn f c d).fnDs=d:=rfl
@[simp] theorem Ag (x:D) (l:List D):qA (x::l)=x:=rfl
@[simp] theorem C5 (x y:D) (l:List D):qB (x::y::l)=y:=rfl
@[simp] theorem W7 (x y z:D) (l:List D):qC (x::y::z::l)=z:=rfl
@[simp] theorem Aph (x y z u:D) (l:List D):(x::y::z::u::l).getD 3 D.nil=u:=rfl
theorem Ns{k:Nat}(x:BitVec k):D.int (x.toNat:Int)=dB x:=rfl
theorem AeE(l:List Int):D.sl (l.map .int)=dI l:=rfl
theorem AeF(l:List Aq):D.sl (l.map dB)=dL l:=rfl
end simps
theorem By{α:Type}{l:List α}{i:Nat}{x:α}{xs:List α}(h:l.drop i=x::xs):i<l.length∧l[i]? = some x∧l.drop (i+1)=xs:=by
 have hi:i<l.length:=by
  rcases Nat.lt_or_ge i l.length with h1 | h1
  · exact h1
  · rw[List.drop_eq_nil_of_le h1]at h;cases h
 rw[Aqa hi]at h
 injection h with h1 h2
 exact ⟨hi,by rw[Apk hi,h1],h2⟩
theorem AeC{α:Type}{l:List α}{i:Nat}(h:l.drop i = []):l.length≤i:=List.drop_eq_nil_iff.1 h
theorem Au{α:Type}{l:List α}{i:Nat}{x:α}{f:α→D}(h:l[i]? = some x):(l.map f).getD i D.nil=f x:=by
 rw[Apn,Ap2,h];rfl
theorem Aw{x:Int}(h1 : -9223372036854775808≤x)(h2:x≤9223372036854775807):Api .i64 x=x:=by rw[IntKind.wrap_i64];omega
theorem Bs{x:Int}(h1:0≤x)(h2:x<18446744073709551616):Api .u64 x=x:=by rw[IntKind.wrap_u64];omega
theorem Fw{x:Int}(h1:0≤x)(h2:x<4294967296):Api .u32 x=x:=by rw[IntKind.wrap_u32];omega
abbrev Sp(f:Nat)(xs ys:List D):Prop:=Ec Tryz.prog md f [] xs ys
abbrev Tw(t:Tree)(ys:List D):Prop:=t.wp Tryz.prog md (fun zs=>zs=ys)
theorem Cp(x y:Int):(x == y)=decide (x=y):=by by_cases h:x=y <;> simp[h]
theorem Do(x y:Int):(x != y)=decide (¬ x=y):=by by_cases h:x=y <;> simp[h]
theorem Ft(p:Prop) [Decidable p]:(!decide p)=decide (¬ p):=by by_cases h:p <;> simp[h]
theorem Ey{k:Nat}(h:k<9223372036854775807):Api .i64 ((k:Int)+1)=((k+1:Nat):Int):=by rw[Aw (by omega) (by omega)];rfl
theorem AgB{α σ:Type}{P:Program}{md:Nat→FMode}(xs:List α)(L:Nat→Nat→σ→Tree)(f:List α→σ→List D)(I:List α→σ→Prop)
  (hnil : ∀ m k s,k=xs.length→I [] s→(L (m+1) k s).wp P md (fun zs=>zs=f [] s))
  (hcons : ∀ m k s x rest,xs.drop k=x::rest→I (x::rest) s→(∀ s',I rest s'→(L m (k+1) s').wp P md (fun zs=>zs=f rest s'))→(L (m+1) k s).wp P md (fun zs=>zs=f (x::rest) s)) :
  ∀ m k s,xs.length-k<m→k≤xs.length→I (xs.drop k) s→(L m k s).wp P md (fun zs=>zs=f (xs.drop k) s):=by
 intro m
 induction m with
 | zero=>intro k s h;omega
 | succ m ih =>
  intro k s h1 h2 hI
  cases hd:xs.drop k with
  | nil=>rw[hd]at hI;exact hnil m k s (by have:=AeC hd;omega) hI
  | cons x rest =>
   rw[hd]at hI
   obtain ⟨a1,a2,a3⟩:=By hd
   refine hcons m k s x rest hd hI (fun s' hI'=> ?_)
   have:=ih (k+1) s' (by omega) (by omega) (by rw[a3];exact hI')
   rwa[a3]at this
theorem Xs{σ:Type}{P:Program}{md:Nat→FMode}(N:Nat)(L:Nat→Nat→σ→Tree)(f:Nat→σ→List D)(I:Nat→σ→Prop)
  (hend : ∀ m s,I N s→(L (m+1) N s).wp P md (fun zs=>zs=f N s))
  (hstep : ∀ m k s,k<N→I k s→(∀ s',I (k+1) s'→(L m (k+1) s').wp P md (fun zs=>zs=f (k+1) s'))→(L (m+1) k s).wp P md (fun zs=>zs=f k s)) :
  ∀ m k s,N-k<m→k≤N→I k s→(L m k s).wp P md (fun zs=>zs=f k s):=by
 intro m
 induction m with
 | zero=>intro k s h;omega
 | succ m ih =>
  intro k s h1 h2 hI
  by_cases hk:k=N
  · subst hk;exact hend m s hI
  · exact hstep m k s (by omega) hI (fun s' hI'=>ih (k+1) s' (by omega) (by omega) hI')
theorem Js{σ:Type}{P:Program}{md:Nat→FMode}(L:Nat→Nat→σ→Tree)(f:Nat→σ→List D)(I:Nat→σ→Prop)
  (hend : ∀ m s,I 0 s→(L (m+1) 0 s).wp P md (fun zs=>zs=f 0 s))
  (hstep : ∀ m k s,I (k+1) s→(∀ s',I k s'→(L m k s').wp P md (fun zs=>zs=f k s'))→(L (m+1) (k+1) s).wp P md (fun zs=>zs=f (k+1) s)) :
  ∀ m k s,k<m→I k s→(L m k s).wp P md (fun zs=>zs=f k s):=by
 intro m
 induction m with
 | zero=>intro k s h;omega
 | succ m ih =>
  intro k s h1 hI
  cases k with
  | zero=>exact hend m s hI
  | succ k=>exact hstep m k s hI (fun s' hI'=>ih k s' (by omega) hI')
abbrev Di{σ:Type} := @Xs σ Tryz.prog md
abbrev B3{α σ:Type} := @AgB α σ Tryz.prog md
theorem Ah:(∀ a:Arr,(dA a).fld 0=dB a.s)∧(∀ a:Arr,(dA a).fld 1=dI a.shape)∧(∀ a:Arr,(dA a).fld 2 = .sl (a.cells.map dC))∧(∀ c:Cell,(dC c).fld 0=dB c.l)∧(∀ c:Cell,(dC c).fld 1 = .int c.kind)∧(∀ c:Cell,(dC c).fld 2=dN c.n)∧(∀ c:Cell,(dC c).fld 3 = .int c.c)∧(∀ c:Cell,(dC c).fld 4 = .sl (c.inn.map dA))∧(∀ n:Num,(dN n).fld 0 = .bool n.neg)∧(∀ n:Num,(dN n).fld 1=dL n.top)∧(∀ n:Num,(dN n).fld 2=dL n.bot)∧(∀ l:List D,(D.sl l).els=l)∧(∀ l:List Int,(dI l).els=l.map .int)∧(∀ l:List Aq,(dL l).els=l.map dB)∧(∀ (α β:Type) (l:List α) (f:α→β),(l.map f).length=l.length)∧(∀ n:Nat,Apj (n:Int)=n)∧(∀ n:Int,(D.int n).toInt=n)∧(∀ (k:Nat) (x:BitVec k),(dB x).toInt=(x.toNat:Int))∧(∀ b:Bool,(D.bool b).toBool=b)∧(∀ (x:D) (l:List D),qA (x::l)=x)∧(∀ (x y:D) (l:List D),qB (x::y::l)=y)∧(∀ x y:Int,(x == y)=decide (x=y))∧(∀ x y:Int,(x != y)=decide (¬ x=y))∧(∀ (p:Prop) [Decidable p],(!decide p)=decide (¬ p))∧(∀ (k:Nat) (x:BitVec k),D.int (x.toNat:Int)=dB x)∧Apj 0=0 :=
 ⟨V5,V6,FG,Aew,PO,Aex,Aey,FJ,Nt,Pi,Nu,Ee,Cf,B5,fun _ _ _ _=>Apm _,Apr,Ao,fun _=>Ej,Bc,Ag,C5,Cp,Do,Ft,fun _=>Ns,Int.toNat_zero⟩
theorem Bh(k:Nat)(h:k<9223372036854775807:=by omega):Api .i64 ((k:Int)+1)=((k+1:Nat):Int):=Ey h
theorem Ar{P:Program}{md:Nat→FMode}{Φ:List D→Prop}{c:Prop} [Decidable c] {t e:Tree}(he:e.wp P md Φ)(h : ¬ c:=by omega):(Tree.br (decide c) t e).wp P md Φ:=Oz h he
theorem Ad{P:Program}{md:Nat→FMode}{Φ:List D→Prop}{c:Prop} [Decidable c] {t e:Tree}(ht:t.wp P md Φ)(h:c:=by omega):(Tree.br (decide c) t e).wp P md Φ:=Ay h ht
theorem JG(a b:At):Br .or .u64 (a.toNat:Int) (b.toNat:Int)=((a|||b).toNat:Int):=by
 show Api .u64 ((BitVec.ofInt 64 (a.toNat:Int)|||BitVec.ofInt 64 (b.toNat:Int)).toNat:Int)=_
 have h:=(a|||b).isLt
 rw[show BitVec.ofInt 64 (a.toNat:Int)=a by simp,show BitVec.ofInt 64 (b.toNat:Int)=b by simp]
 exact Bs (Int.natCast_nonneg _) (Int.ofNat_lt.2 h)
theorem Hk(a b:At):Sp 83 [dB a,dB b] [dB (a|||b)]:=by
 refine Af 0 (Agp 0 _ _) (Ac ?_)
 simp only[Ej,JG];rfl
theorem YS(l:At)(t:Nat)(ht:t<1000):Sp 71 [dB l,.int t] [.bool (l.getLsbD t)]:=by
 refine Af (t+1) (Akt _ _ _) ?_
 have:=Di t (fun m k (v:Nat)=>Zw (t+1) m (v:Int) (t:Int) (k:Int)) (fun k v=>[.bool (decide (v / 2 ^ (t-k) % 2=1))]) (fun _ v=>v<18446744073709551616)
  (fun m v hv=>by
   simp only[YR]
   refine Ar (Bi (by decide) (Ac ?_))
   rw[Cp,Int.tmod_eq_emod_of_nonneg (by omega)]
   simp;omega)
  (fun m k v hk hv ih=>by
   simp only[YR]
   refine Ad (Bi (by decide) ?_)
   rw[Ey (by omega),Int.tdiv_eq_ediv_of_nonneg (by omega),Bs (by omega) (by omega)]
   have:=ih (v / 2) (by omega)
   rw[show t-k=(t-(k+1))+1 by omega,Aqr,Aqg,← Aqm]
   exact this)
  (t+1) 0 l.toNat (by omega) (by omega) (by have:=l.isLt;omega)
 rw[BitVec.getLsbD,Nat.testBit_eq_decide_div_mod_eq]
 exact this
theorem YQ(t:Nat)(ht:t<64):Sp 72 [.int t] [.int ((2 ^ t:Nat):Int)]:=by
 refine Af (t+1) (Aks _ _) ?_
 have:=Di t (fun m k (v:Nat)=>Zu (t+1) m (t:Int) (v:Int) (k:Int)) (fun k v=>[.int ((2 ^ t:Nat):Int)]) (fun k v=>v=2 ^ k)
  (fun m v hv=>by
   subst hv
   simp only[YO]
   exact Ar (Ac rfl))
  (fun m k v hk hv ih=>by
   subst hv
   simp only[YO]
   refine Ad ?_
   have h2:2 ^ (k+1)<18446744073709551616:=Nat.lt_of_le_of_lt (Nat.pow_le_pow_right (by decide) (show k+1≤63 by omega)) (by decide)
   rw[Ey (by omega),show ((2 ^ k:Nat):Int)*2=((2 ^ (k+1):Nat):Int) by rw[Aqr];rfl]
   generalize hx:(2:Nat) ^ (k+1)=x at *
   rw[Bs (x:=(x:Int)) (by omega) (by omega)]
   exact ih _ rfl)
  (t+1) 0 1 (by omega) (by omega) rfl
 exact this
theorem Zz(a b:At):Sp 18 [dB a,dB b] [dB (a|||b)]:=by
 refine Af 65 (Aku _ _ _) ?_
 have:=Di 64 (fun m k (v:Nat)=>Qt 65 m (a.toNat:Int) (b.toNat:Int) (v:Int) (k:Int)) (fun k v=>[dB (a|||b)]) (fun k v=>v=(a|||b).toNat % 2 ^ k)
  (fun m v hv=>by
   subst hv
   simp only[YT]
   refine Ar (Ac ?_)
   rw[Aqc (a|||b).isLt];rfl)
  (fun m k v hk hv ih=>by
   simp only[YT]
   refine Ad (Aa (YS a k (by omega)) ?_)
   have hb:(a|||b).toNat.testBit k=(a.getLsbD k||b.getLsbD k):=by rw[← BitVec.getLsbD_or];rfl
   have hs:(a|||b).toNat % 2 ^ (k+1)=(a|||b).toNat % 2 ^ k+2 ^ k*((a|||b).toNat.testBit k).toNat:=by rw[Nat.mod_pow_succ,Nat.toNat_testBit]
   have hlt:(a|||b).toNat % 2 ^ (k+1)<18446744073709551616:=Nat.lt_of_le_of_lt (Nat.mod_le _ _) (a|||b).isLt
   rw[hb]at hs
   simp only[Ag,Bc]
   have hst:(a.getLsbD k||b.getLsbD k)=true→Api .u64 ((v:Int)+((2 ^ k:Nat):Int))=(((a|||b).toNat % 2 ^ (k+1):Nat):Int):=by
     intro h
     rw[h]at hs
     simp only[Bool.toNat_true,Nat.mul_one]at hs
     rw[← hv]at hs
     rw[show (v:Int)+((2 ^ k:Nat):Int)=((v+2 ^ k:Nat):Int) from rfl,← hs]
     generalize (a|||b).toNat % 2 ^ (k+1)=x at *
     rw[Bs (x:=(x:Int)) (by omega) (by omega)]
   refine Cl (fun h=> ?_) (fun h=> ?_)
   · refine Aa (YQ k hk) ?_
     simp only[Ag,Ao]
     rw[hst (by simp[h]),Ey (by omega)]
     exact ih _ rfl
   · refine Aa (YS b k (by omega)) ?_
     simp only[Ag,Bc]
     refine Cl (fun h'=> ?_) (fun h'=> ?_)
     · refine Aa (YQ k hk) ?_
       simp only[Ag,Ao]
       rw[hst (by simp[h']),Ey (by omega)]
       exact ih _ rfl
     · rw[Ey (by omega)]
       refine ih _ ?_
       rw[hs,h,h',hv];simp)
  65 0 0 (by omega) (by omega) (by simp[Nat.mod_one])
 exact this
theorem AkX(n:Nat)(a0:D):fA [] n 77 [] [a0] =
 cK 162 [a0] fun Y1 =>
 .br (!((qA Y1).toBool)) (.ret [D.int 0,D.bool false])
 (cK 164 [a0] fun Y2 =>
 cK 163 [qA Y2] fun Y3 =>
 .ret [D.int ((qA Y3).toInt),D.bool ((qB Y3).toBool)]):=by kernel_rfl
theorem AkU(n:Nat)(a0:D):fA [] n 133 [] [a0] =
 bK (32<(((a0.fld 1).els).length:Int)) (.ret [D.bool false])
 (bK (32<(((a0.fld 2).els).length:Int)) (.ret [D.bool false])
 (cK 164 [a0] fun Y1 =>
 cK 210 [a0] fun Y2 =>
 cK 209 [qA Y1,qA Y2] fun Y3 =>
 .br (((qB Y3).toInt)==0) (cK 137 [a0,qA Y3] fun Y4 =>
 .ret [D.bool ((qA Y4).toBool)])
 (.ret [D.bool false]))):=by kernel_rfl
theorem AkV(n:Nat)(a0 b1:D):fA [] n 137 [] [a0,b1] =
 .br (((a0.fld 0).toBool)==((b1.fld 0).toBool)) (cK 211 [a0.fld 1,b1.fld 1] fun Y1 =>
 .br ((qA Y1).toBool) (cK 211 [a0.fld 2,b1.fld 2] fun Y2 =>
 .ret [D.bool ((qA Y2).toBool)])
 (.ret [D.bool false]))
 (.ret [D.bool false]):=by kernel_rfl
theorem AkO(n:Nat)(a0:D):fA [] n 162 [] [a0] =
 .br ((((a0.fld 2).els).length:Int)==1) (kK (0≤0) (kK (0<(((a0.fld 2).els).length:Int)) (.ret [D.bool (((((a0.fld 2).els).getD (Apj 0) D.nil).toInt)==1)])))
 (.ret [D.bool false]):=by kernel_rfl
theorem AkY(n:Nat)(a0:D):fA [] n 164 [] [a0] =
 cK 223 [D.agg [D.bool ((a0.fld 0).toBool),a0.fld 1]] fun Y1 =>
 .ret [qA Y1]:=by kernel_rfl
theorem AkS(n:Nat)(nn0:D):fA [] n 165 [] [nn0] =
 cK 225 [D.int nn0.toInt] fun Y1 =>
 cK 226 [qA Y1] fun Y2 =>
 .ret [qA Y2]:=by kernel_rfl
theorem AjZ(n:Nat)(a0:D):fA [] n 166 [] [a0] =
 cK 227 [a0.fld 2] fun Y1 =>
 .br (!((qA Y1).toBool)) (.ret [D.int 0,D.bool false])
 (cK 229 [a0] fun Y2 =>
 cK 228 [qA Y2] fun Y3 =>
 .ret [D.int ((qA Y3).toInt),D.bool ((qB Y3).toBool)]):=by kernel_rfl
theorem AkQ(n:Nat)(p0 q1:D):fA [] n 209 [] [p0,q1] =
 cK 223 [p0] fun Y1 =>
 cK 223 [q1] fun Y2 =>
 .br (((((qA Y2).fld 1).els).length:Int)==0) (.ret [D.agg [D.bool false,D.sl [],D.sl []],D.int 3])
 (cK 243 [(qA Y1).fld 1,(qA Y2).fld 1] fun Y3 =>
 cK 244 [(qA Y1).fld 1,qA Y3] fun Y4 =>
 cK 244 [(qA Y2).fld 1,qA Y3] fun Y5 =>
 bK (32<(((qA Y4).els).length:Int)) (.ret [D.agg [D.bool false,D.sl [],D.sl []],D.int 7])
 (bK (32<(((qA Y5).els).length:Int)) (.ret [D.agg [D.bool false,D.sl [],D.sl []],D.int 7])
 (bK (0<(((qA Y4).els).length:Int)) (.ret [D.agg [D.bool (!((((qA Y1).fld 0).toBool)==(((qA Y2).fld 0).toBool))),qA Y4,qA Y5],D.int 0])
 (.ret [D.agg [D.bool false,qA Y4,qA Y5],D.int 0])))):=by kernel_rfl
theorem AkM(n:Nat)(a0:D):fA [] n 210 [] [a0] =
 cK 223 [D.agg [D.bool false,a0.fld 2]] fun Y1 =>
 .ret [qA Y1]:=by kernel_rfl
theorem AjT(n:Nat)(nn0:D):fA [] n 212 [] [nn0] =
 cK 246 [D.int nn0.toInt] fun Y1 =>
 cK 245 [qA Y1] fun Y2 =>
 .ret [qA Y2]:=by kernel_rfl
theorem AjH(n:Nat)(a0 b1:D):fA [] n 219 [] [a0,b1] =
 cK 227 [a0.fld 2] fun Y1 =>
 .br ((qA Y1).toBool) (cK 227 [b1.fld 2] fun Y2 =>
 .br ((qA Y2).toBool) (cK 229 [a0] fun Y3 =>
 cK 229 [b1] fun Y4 =>
 cK 253 [qA Y3,qA Y4] fun Y5 =>
 .ret [D.int ((qA Y5).toInt)])
 (cK 229 [a0] fun Y6 =>
 cK 255 [b1] fun Y7 =>
 cK 254 [qA Y6,qA Y7] fun Y8 =>
 cK 229 [b1] fun Y9 =>
 cK 255 [a0] fun Y10 =>
 cK 254 [qA Y9,qA Y10] fun Y11 =>
 cK 253 [qA Y8,qA Y11] fun Y12 =>
 .ret [D.int ((qA Y12).toInt)]))
 (cK 229 [a0] fun Y13 =>
 cK 255 [b1] fun Y14 =>
 cK 254 [qA Y13,qA Y14] fun Y15 =>
 cK 229 [b1] fun Y16 =>
 cK 255 [a0] fun Y17 =>
 cK 254 [qA Y16,qA Y17] fun Y18 =>
 cK 253 [qA Y15,qA Y18] fun Y19 =>
 .ret [D.int ((qA Y19).toInt)]):=by kernel_rfl
theorem Ala(n:Nat)(nn0:D):fA [] n 226 [] [nn0] =
 cK 223 [nn0] fun Y1 =>
 .ret [D.agg [D.bool (((qA Y1).fld 0).toBool),(qA Y1).fld 1,D.sl [D.int 1]]]:=by kernel_rfl
theorem Ake(n:Nat)(a0:D):fA [] n 227 [] [a0] =
 .br ((a0.els.length:Int)==1) (kK (0≤0) (kK (0<(a0.els.length:Int)) (.ret [D.bool (((a0.els.getD (Apj 0) D.nil).toInt)==1)])))
 (.ret [D.bool false]):=by kernel_rfl
theorem Akf(n:Nat)(a0:D):fA [] n 229 [] [a0] =
 .ret [D.agg [D.bool ((a0.fld 0).toBool),a0.fld 1]]:=by kernel_rfl
theorem Akb(n:Nat)(nn0:D):fA [] n 245 [] [nn0] =
 cK 269 [nn0] fun Y1 =>
 bK (32<((((qA Y1).fld 1).els).length:Int)) (.ret [D.agg [D.bool false,D.sl [],D.sl []]])
 (.ret [D.agg [D.bool (((qA Y1).fld 0).toBool),(qA Y1).fld 1,D.sl [D.int 1]]]):=by kernel_rfl
theorem Akc(n:Nat)(a0:D):fA [] n 255 [] [a0] =
 .ret [D.agg [D.bool false,a0.fld 2]]:=by kernel_rfl
theorem AjS(n:Nat)(a0:D):fA [] n 258 [] [a0] =
 cK 304 [D.bool (!((a0.fld 0).toBool)),a0] fun Y1 =>
 .ret [qA Y1]:=by kernel_rfl
theorem AjY(n:Nat)(a0:D):fA [] n 259 [] [a0] =
 cK 229 [a0] fun Y1 =>
 cK 301 [qA Y1] fun Y2 =>
 .ret [D.int ((qA Y2).toInt)]:=by kernel_rfl
theorem AjI(n:Nat)(a0 b1:D):fA [] n 260 [] [a0,b1] =
 cK 229 [a0] fun Y1 =>
 cK 255 [b1] fun Y2 =>
 cK 254 [qA Y1,qA Y2] fun Y3 =>
 cK 255 [a0] fun Y4 =>
 cK 229 [b1] fun Y5 =>
 cK 254 [qA Y4,qA Y5] fun Y6 =>
 cK 305 [qA Y3,qA Y6] fun Y7 =>
 .ret [qA Y7,D.int ((qB Y7).toInt)]:=by kernel_rfl
theorem AjG(n:Nat)(a0:D):fA [] n 261 [] [a0] =
 cK 258 [a0] fun Y1 =>
 cK 262 [qA Y1] fun Y2 =>
 cK 258 [qA Y2] fun Y3 =>
 .ret [qA Y3]:=by kernel_rfl
theorem AjJ(n:Nat)(a0:D):fA [] n 262 [] [a0] =
 cK 229 [a0] fun Y1 =>
 cK 255 [a0] fun Y2 =>
 cK 306 [qA Y1,qA Y2] fun Y3 =>
 cK 245 [qA Y3] fun Y4 =>
 .ret [qA Y4]:=by kernel_rfl
theorem AjD(n:Nat)(a0:D):fA [] n 263 [] [a0] =
 cK 304 [D.bool false,a0] fun Y1 =>
 .ret [qA Y1]:=by kernel_rfl
theorem AjX(n:Nat)(a0 b1:D):fA [] n 274 [] [a0,b1] =
 .br (((a0.fld 0).toBool)==((b1.fld 0).toBool)) (cK 312 [a0.fld 1,b1.fld 1] fun Y1 =>
 .br ((qA Y1).toBool) (cK 312 [a0.fld 2,b1.fld 2] fun Y2 =>
 .ret [D.bool ((qA Y2).toBool)])
 (.ret [D.bool false]))
 (.ret [D.bool false]):=by kernel_rfl
theorem AjE(n:Nat)(a0 b1:D):fA [] n 277 [] [a0,b1] =
 cK 229 [a0] fun Y1 =>
 cK 255 [b1] fun Y2 =>
 cK 254 [qA Y1,qA Y2] fun Y3 =>
 cK 229 [b1] fun Y4 =>
 cK 255 [a0] fun Y5 =>
 cK 254 [qA Y4,qA Y5] fun Y6 =>
 cK 313 [qA Y3,qA Y6] fun Y7 =>
 cK 255 [a0] fun Y8 =>
 cK 255 [b1] fun Y9 =>
 cK 254 [qA Y8,qA Y9] fun Y10 =>
 cK 305 [qA Y7,qA Y10] fun Y11 =>
 .ret [qA Y11,D.int ((qB Y11).toInt)]:=by kernel_rfl
theorem Aka(n:Nat)(a0 b1:D):fA [] n 278 [] [a0,b1] =
 cK 258 [b1] fun Y1 =>
 cK 277 [a0,qA Y1] fun Y2 =>
 .ret [qA Y2,D.int ((qB Y2).toInt)]:=by kernel_rfl
theorem AjR(n:Nat)(a0 b1:D):fA [] n 279 [] [a0,b1] =
 cK 229 [a0] fun Y1 =>
 cK 229 [b1] fun Y2 =>
 cK 254 [qA Y1,qA Y2] fun Y3 =>
 cK 255 [a0] fun Y4 =>
 cK 255 [b1] fun Y5 =>
 cK 254 [qA Y4,qA Y5] fun Y6 =>
 cK 305 [qA Y3,qA Y6] fun Y7 =>
 .ret [qA Y7,D.int ((qB Y7).toInt)]:=by kernel_rfl
theorem AjQ(n:Nat)(a0 b1:D):fA [] n 280 [] [a0,b1] =
 cK 259 [a0] fun Y1 =>
 .br (((qA Y1).toInt)==0) (cK 304 [D.bool ((b1.fld 0).toBool),b1] fun Y2 =>
 .ret [qA Y2,D.int 0])
 (cK 260 [b1,a0] fun Y3 =>
 .br (((qB Y3).toInt)!=0) (.ret [D.agg [D.bool false,D.sl [],D.sl []],D.int ((qB Y3).toInt)])
 (cK 262 [qA Y3] fun Y4 =>
 cK 279 [a0,qA Y4] fun Y5 =>
 .br (((qB Y5).toInt)!=0) (.ret [D.agg [D.bool false,D.sl [],D.sl []],D.int ((qB Y5).toInt)])
 (cK 278 [b1,qA Y5] fun Y6 =>
 .ret [qA Y6,D.int ((qB Y6).toInt)]))):=by kernel_rfl
theorem AjV(n:Nat)(a0 nn1:D):fA [] n 281 [] [a0,nn1] =
 cK 229 [a0] fun Y1 =>
 cK 255 [a0] fun Y2 =>
 bK (nn1.toInt<0) (cK 301 [qA Y1] fun Y3 =>
 .br (((qA Y3).toInt)==0) (.ret [D.agg [D.bool false,D.sl [],D.sl []],D.int 3])
 (.br (nn1.toInt == (-9223372036854775808)) (.ret [D.agg [D.bool false,D.sl [],D.sl []],D.int 3])
 (cK 314 [qA Y2,D.int (Api .i64 (0-nn1.toInt))] fun Y4 =>
 .br (((qB Y4).toInt)!=0) (.ret [D.agg [D.bool false,D.sl [],D.sl []],D.int ((qB Y4).toInt)])
 (cK 314 [qA Y1,D.int (Api .i64 (0-nn1.toInt))] fun Y5 =>
 .br (((qB Y5).toInt)!=0) (.ret [D.agg [D.bool false,D.sl [],D.sl []],D.int ((qB Y5).toInt)])
 (cK 305 [qA Y4,qA Y5] fun Y6 =>
 .ret [qA Y6,D.int ((qB Y6).toInt)])))))
 (cK 314 [qA Y1,D.int nn1.toInt] fun Y7 =>
 .br (((qB Y7).toInt)!=0) (.ret [D.agg [D.bool false,D.sl [],D.sl []],D.int ((qB Y7).toInt)])
 (cK 314 [qA Y2,D.int nn1.toInt] fun Y8 =>
 .br (((qB Y8).toInt)!=0) (.ret [D.agg [D.bool false,D.sl [],D.sl []],D.int ((qB Y8).toInt)])
 (cK 305 [qA Y7,qA Y8] fun Y9 =>
 .ret [qA Y9,D.int ((qB Y9).toInt)]))):=by kernel_rfl
theorem AjN(n:Nat)(a0 b1:D):fA [] n 282 [] [a0,b1] =
 cK 283 [a0,b1] fun Y1 =>
 .br (((qB Y1).toInt)!=0) (.ret [D.agg [D.bool false,D.sl [],D.sl []],D.int ((qB Y1).toInt)])
 (cK 259 [qA Y1] fun Y2 =>
 .br (((qA Y2).toInt)==0) (cK 212 [D.int 0] fun Y3 =>
 .ret [qA Y3,D.int 0])
 (cK 260 [a0,qA Y1] fun Y4 =>
 .br (((qB Y4).toInt)!=0) (.ret [D.agg [D.bool false,D.sl [],D.sl []],D.int ((qB Y4).toInt)])
 (cK 279 [qA Y4,b1] fun Y5 =>
 .ret [qA Y5,D.int ((qB Y5).toInt)]))):=by kernel_rfl
theorem AjK(n:Nat)(a0 b1:D):fA [] n 283 [] [a0,b1] =
 cK 227 [a0.fld 2] fun Y1 =>
 .br (!((qA Y1).toBool)) (.ret [D.agg [D.bool false,D.sl [],D.sl []],D.int 3])
 (cK 227 [b1.fld 2] fun Y2 =>
 .br (!((qA Y2).toBool)) (.ret [D.agg [D.bool false,D.sl [],D.sl []],D.int 3])
 (cK 315 [a0.fld 1,b1.fld 1] fun Y3 =>
 cK 245 [D.agg [D.bool false,qA Y3]] fun Y4 =>
 .ret [qA Y4,D.int 0])):=by kernel_rfl
theorem Akd(n:Nat)(neg0 a1:D):fA [] n 304 [] [neg0,a1] =
 cK 299 [a1.fld 1] fun Y1 =>
 cK 299 [a1.fld 2] fun Y2 =>
 .br neg0.toBool (.ret [D.agg [D.bool (decide (0<(((qA Y1).els).length:Int))),D.sl ((qA Y1).els),D.sl ((qA Y2).els)]])
 (.ret [D.agg [D.bool false,D.sl ((qA Y1).els),D.sl ((qA Y2).els)]]):=by kernel_rfl
theorem AjO(n:Nat)(p0 q1:D):fA [] n 305 [] [p0,q1] =
 cK 299 [p0.fld 1] fun Y1 =>
 cK 299 [q1.fld 1] fun Y2 =>
 .br ((((qA Y2).els).length:Int)==0) (.ret [D.agg [D.bool false,D.sl [],D.sl []],D.int 3])
 (cK 227 [D.sl ((qA Y2).els)] fun Y3 =>
 .br (!((qA Y3).toBool)) (cK 315 [D.sl ((qA Y1).els),D.sl ((qA Y2).els)] fun Y4 =>
 cK 227 [qA Y4] fun Y5 =>
 .br (!((qA Y5).toBool)) (cK 323 [D.sl ((qA Y1).els),qA Y4] fun Y6 =>
 cK 323 [D.sl ((qA Y2).els),qA Y4] fun Y7 =>
 bK (32<(((qA Y6).els).length:Int)) (.ret [D.agg [D.bool false,D.sl [],D.sl []],D.int 7])
 (bK (32<(((qA Y7).els).length:Int)) (.ret [D.agg [D.bool false,D.sl [],D.sl []],D.int 7])
 (bK (0<(((qA Y6).els).length:Int)) (.ret [D.agg [D.bool (!(((p0.fld 0).toBool)==((q1.fld 0).toBool))),qA Y6,qA Y7],D.int 0])
 (.ret [D.agg [D.bool false,qA Y6,qA Y7],D.int 0]))))
 (bK (32<(((qA Y1).els).length:Int)) (.ret [D.agg [D.bool false,D.sl [],D.sl []],D.int 7])
 (bK (32<(((qA Y2).els).length:Int)) (.ret [D.agg [D.bool false,D.sl [],D.sl []],D.int 7])
 (bK (0<(((qA Y1).els).length:Int)) (.ret [D.agg [D.bool (!(((p0.fld 0).toBool)==((q1.fld 0).toBool))),D.sl ((qA Y1).els),D.sl ((qA Y2).els)],D.int 0])
 (.ret [D.agg [D.bool false,D.sl ((qA Y1).els),D.sl ((qA Y2).els)],D.int 0])))))
 (bK (32<(((qA Y1).els).length:Int)) (.ret [D.agg [D.bool false,D.sl [],D.sl []],D.int 7])
 (bK (32<(((qA Y2).els).length:Int)) (.ret [D.agg [D.bool false,D.sl [],D.sl []],D.int 7])
 (bK (0<(((qA Y1).els).length:Int)) (.ret [D.agg [D.bool (!(((p0.fld 0).toBool)==((q1.fld 0).toBool))),D.sl ((qA Y1).els),D.sl ((qA Y2).els)],D.int 0])
 (.ret [D.agg [D.bool false,D.sl ((qA Y1).els),D.sl ((qA Y2).els)],D.int 0]))))):=by kernel_rfl
theorem YA(n:Nat)(a0:D):fA [] n 307 [] [a0] =
 cK 227 [a0.fld 2] fun Y1 =>
 .br (!((qA Y1).toBool)) (.ret [D.agg [D.bool false,D.sl []],D.bool false])
 (cK 229 [a0] fun Y2 =>
 cK 269 [qA Y2] fun Y3 =>
 .ret [qA Y3,D.bool true]):=by kernel_rfl
def Om:List (Nat×Orc):=[(5,⟨[(0,some 23),(4,none),(5,none),(6,none)],[],[]⟩),(17,⟨[(0,some 23),(7,none),(8,none)],[],[]⟩)]
noncomputable def Tp(n m17:Nat)(s0:D)(nn7 i8:Int):Tree :=
 lA (eA Om n 52 [1,1,1,1,1,1,1,0,1,0,0]) (Al Om 17) m17 ⟨(.d 23 s0::uA 6++(.i .i64 nn7:: .i .i64 i8::uA 47)),[],[],[],[]⟩
  (Aj 2 (An (jA Om n 52 [1,1,1,1,1,1,1,1]) (rA 52 [23] [.tmp 2,.tmp 3] [3,3])))
noncomputable def M7(n m5:Nat)(s0:D)(big4 none5:Bool)(i6:Int):Tree :=
 lA (eA Om n 52 [1,1,1,0,1,0,0]) (Al Om 5) m5 ⟨(.d 23 s0::uA 3++(.b big4:: .b none5:: .i .i64 i6::uA 49)),[],[],[],[]⟩
  (Aj 0 (An (jA Om n 52 [1,1,1,1]) (rA 52 [23] [.tmp 2,.tmp 3] [3,3])))
theorem ZI(n m17:Nat)(s0:D)(nn7 i8:Int):Tp n (m17+1) s0 nn7 i8 =
 bK (i8<(s0.els.length:Int)) (kK (0≤i8) (kK (i8<(s0.els.length:Int)) (bK (2048<(Api .i64 (nn7*((s0.els.getD (Apj i8) D.nil).toInt)))) (.ret [D.int 0,D.int 7])
 (Tp n m17 s0 (Api .i64 (nn7*((s0.els.getD (Apj i8) D.nil).toInt))) (Api .i64 (i8+1))))))
 (.ret [D.int nn7,D.int 0]):=by kernel_rfl
theorem ZJ(n m5:Nat)(s0:D)(big4 none5:Bool)(i6:Int):M7 n (m5+1) s0 big4 none5 i6 =
 bK (i6<(s0.els.length:Int)) (kK (0≤i6) (kK (i6<(s0.els.length:Int)) (bK (((s0.els.getD (Apj i6) D.nil).toInt)<0) (.ret [D.int 0,D.int 3])
 (.br big4 (.br none5 (M7 n m5 s0 true true (Api .i64 (i6+1)))
 (kK (0≤i6) (kK (i6<(s0.els.length:Int)) (M7 n m5 s0 true (((s0.els.getD (Apj i6) D.nil).toInt)==0) (Api .i64 (i6+1))))))
 (kK (0≤i6) (kK (i6<(s0.els.length:Int)) (.br none5 (M7 n m5 s0 (decide (2048<((s0.els.getD (Apj i6) D.nil).toInt))) true (Api .i64 (i6+1)))
 (kK (0≤i6) (kK (i6<(s0.els.length:Int)) (M7 n m5 s0 (decide (2048<((s0.els.getD (Apj i6) D.nil).toInt))) (((s0.els.getD (Apj i6) D.nil).toInt)==0) (Api .i64 (i6+1))))))))))))
 (.br big4 (.ret [D.int 0,D.int 7])
 (.br none5 (.ret [D.int 0,D.int 0])
 (Tp n n s0 1 0))):=by kernel_rfl
theorem Alf(n:Nat)(s0:D):fA Om n 52 [] [s0] =
 bK (6<(s0.els.length:Int)) (.ret [D.int 0,D.int 7])
 (M7 n n s0 false false 0):=by kernel_rfl
def AH:List (Nat×Orc):=[(4,⟨[(0,some 23),(1,some 23),(5,none)],[],[]⟩)]
noncomputable def AG(n m4:Nat)(a0 b1:D)(i5:Int):Tree :=
 lA (eA AH n 54 [1,1,0,1,0,0]) (Al AH 4) m4 ⟨(.d 23 a0:: .d 23 b1::uA 3++(.i .i64 i5::uA 20)),[],[],[],[]⟩
  (Aj 0 (An (jA AH n 54 [1,1,1]) (rA 54 [23,23] [.tmp 4] [4])))
theorem Alg(n m4:Nat)(a0 b1:D)(i5:Int):AG n (m4+1) a0 b1 i5 =
 bK (i5<(a0.els.length:Int)) (kK (0≤i5) (kK (i5<(a0.els.length:Int)) (kK (0≤i5) (kK (i5<(b1.els.length:Int)) (.br (((a0.els.getD (Apj i5) D.nil).toInt)!=((b1.els.getD (Apj i5) D.nil).toInt)) (.ret [D.bool false])
 (AG n m4 a0 b1 (Api .i64 (i5+1))))))))
 (.ret [D.bool true]):=by kernel_rfl
theorem Ali(n:Nat)(a0 b1:D):fA AH n 54 [] [a0,b1] =
 .br ((a0.els.length:Int)!=(b1.els.length:Int)) (.ret [D.bool false])
 (AG n n a0 b1 0):=by kernel_rfl
theorem AmN(n:Nat)(s0 v1:D):fA [] n 74 [] [s0,v1] =
 cK 160 [s0,D.int v1.toInt] fun Y1 =>
 .ret [D.bool (decide (0≤((qA Y1).toInt)))]:=by kernel_rfl
theorem Am6(n:Nat)(s0:D):fA [] n 81 [] [s0] =
 bK (6<(s0.els.length:Int)) (.ret [D.int 0,D.int 7])
 (cK 167 [s0,D.fn 168 [] []] fun Y1 =>
 .br ((qA Y1).toBool) (.ret [D.int 0,D.int 3])
 (cK 167 [s0,D.fn 169 [] []] fun Y2 =>
 .br ((qA Y2).toBool) (.ret [D.int 0,D.int 7])
 (cK 74 [s0,D.int 0] fun Y3 =>
 .br ((qA Y3).toBool) (.ret [D.int 0,D.int 0])
 (cK 170 [s0] fun Y4 =>
 .br (((qA Y4).toInt)==0) (.ret [D.int 0,D.int 7])
 (.ret [D.int ((qA Y4).toInt),D.int 0]))))):=by kernel_rfl
theorem Abw(n:Nat)(s0:D):fA [] n 96 [] [s0] =
 .amb s0.els.isEmpty (.ret [D.sl []])
 (kK (([]:List D).length+s0.els.length≤Ak) (.ret [D.sl ([]++s0.els)])):=by kernel_rfl
theorem AmG(n:Nat)(s0:D):fA [] n 139 [] [s0] =
 .amb s0.els.isEmpty (.ret [D.sl []])
 (kK (([]:List D).length+s0.els.length≤Ak) (.ret [D.sl ([]++s0.els)])):=by kernel_rfl
theorem Am2(n:Nat)(s0 axis1:D):fA [] n 140 [] [s0,axis1] =
 cK 81 [s0] fun Y1 =>
 .br (((qB Y1).toInt)!=0) (.ret [D.int 0,D.int 0,D.int 0,D.bool false])
 (bK (axis1.toInt<0) (.ret [D.int 0,D.int 0,D.int 0,D.bool false])
 (bK ((s0.els.length:Int)≤axis1.toInt) (.ret [D.int 0,D.int 0,D.int 0,D.bool false])
 (kK (0≤axis1.toInt) (kK (axis1.toInt≤(s0.els.length:Int)) (cK 170 [D.sl (s0.els.take (Apj axis1.toInt))] fun Y2 =>
 kK (0≤axis1.toInt) (kK (axis1.toInt<(s0.els.length:Int)) (kK (0≤Api .i64 (axis1.toInt+1)) (kK (Api .i64 (axis1.toInt+1)≤(s0.els.length:Int)) (cK 170 [D.sl (s0.els.drop (Apj (Api .i64 (axis1.toInt+1))))] fun Y3 =>
 .ret [D.int ((qA Y2).toInt),D.int ((s0.els.getD (Apj axis1.toInt) D.nil).toInt),D.int ((qA Y3).toInt),D.bool true]))))))))):=by kernel_rfl
def LO:List (Nat×Orc):=[(1,⟨[(0,none),(2,none),(3,none)],[],[(.slot 0,0,3)]⟩)]
noncomputable def CI(n m1:Nat)(s0:List D)(i2 j3:Int):Tree :=
 lA (eA LO n 144 [1,0,0]) (Al LO 1) m1 ⟨(.row 0:: .undef:: .i .i64 i2:: .i .i64 j3::uA 24),[(0,.row 3 s0 true)],[0],[],[0]⟩
  (Aj 0 (rA 144 [23] [] []))
theorem AmY(n m1:Nat)(s0:List D)(i2 j3:Int):CI n (m1+1) s0 i2 j3 =
 bK (i2<j3) (kK (0≤j3) (kK (j3<(s0.length:Int)) (kK (0≤i2) (kK (i2<(s0.length:Int)) (kK (0≤i2) (kK (i2<(s0.length:Int)) (kK (0≤j3) (kK (j3<((s0.set (Apj i2) (D.int ((s0.getD (Apj j3) D.nil).toInt))).length:Int)) (CI n m1 ((s0.set (Apj i2) (D.int ((s0.getD (Apj j3) D.nil).toInt))).set (Apj j3) (D.int ((s0.getD (Apj i2) D.nil).toInt))) (Api .i64 (i2+1)) (Api .i64 (j3-1)))))))))))
 (.ret [D.sl s0]):=by kernel_rfl
theorem AmZ(n:Nat)(s0:D):fA LO n 144 [] [s0] =
 CI n n s0.els 0 (Api .i64 ((s0.els.length:Int)-1)):=by kernel_rfl
theorem Ana(n:Nat)(x0 cmp1_c0 cmp1_c1:D):fA [] n 155 [] [x0,(D.fn 156 [.ref 4,.ref 26] [cmp1_c0,cmp1_c1])] =
 cK 217 [D.sl x0.els,D.int (x0.els.length:Int),(D.fn 156 [.ref 4,.ref 26] [cmp1_c0,cmp1_c1])] fun Y1 =>
 .ret [D.sl ((qA Y1).els)]:=by kernel_rfl
def CH:List (Nat×Orc):=[(2,⟨[(0,some 23),(1,none),(7,none),(8,none)],[],[]⟩)]
noncomputable def CG(n m2:Nat)(s0:D)(v1 t7 t8:Int):Tree :=
 lA (eA CH n 160 [1,0,1,0,0]) (Al CH 2) m2 ⟨(.d 23 s0:: .i .i64 v1::uA 5++(.i .i64 t7:: .i .i64 t8::uA 10)),[],[],[],[]⟩
  (Aj 0 (An (jA CH n 160 [1,1]) (rA 160 [23,3] [.tmp 4] [3])))
theorem Ab5(n m2:Nat)(s0:D)(v1 t7 t8:Int):CG n (m2+1) s0 v1 t7 t8 =
 bK (t8<t7) (kK (0≤t8) (kK (t8<(s0.els.length:Int)) (.br (v1 == ((s0.els.getD (Apj t8) D.nil).toInt)) (.ret [D.int t8])
 (CG n m2 s0 v1 t7 (Api .i64 (t8+1))))))
 (.ret [D.int (-1)]):=by kernel_rfl
theorem AmX(n:Nat)(s0 v1:D):fA CH n 160 [] [s0,v1] =
 CG n n s0 v1.toInt (s0.els.length:Int) 0:=by kernel_rfl
theorem AmL(n:Nat)(s0:D):fA [] n 167 [] [s0,(D.fn 168 [] [])] =
 cK 230 [s0,(D.fn 168 [] [])] fun Y1 =>
 .ret [D.bool (decide (0≤((qA Y1).toInt)))]:=by kernel_rfl
theorem AmM(n:Nat)(s0:D):fA [] n 167 [] [s0,(D.fn 169 [] [])] =
 cK 230 [s0,(D.fn 169 [] [])] fun Y1 =>
 .ret [D.bool (decide (0≤((qA Y1).toInt)))]:=by kernel_rfl
theorem AmK(n:Nat)(s0:D):fA [] n 167 [] [s0,(D.fn 188 [] [])] =
 cK 230 [s0,(D.fn 188 [] [])] fun Y1 =>
 .ret [D.bool (decide (0≤((qA Y1).toInt)))]:=by kernel_rfl
theorem Am4(n:Nat)(nn0:D):fA [] n 168 [] [nn0] =
 .ret [D.bool (decide (nn0.toInt<0))]:=by kernel_rfl
theorem Am5(n:Nat)(nn0:D):fA [] n 169 [] [nn0] =
 .ret [D.bool (decide (2048<nn0.toInt))]:=by kernel_rfl
def BU:List (Nat×Orc):=[(3,⟨[(3,none),(6,some 23),(7,none),(8,none)],[],[]⟩)]
noncomputable def Ua(n m3:Nat)(out3:Int)(t6:D)(t7 t8:Int):Tree :=
 lA (eA BU n 170 [1,1,0,1,0,0]) (Al BU 3) m3 ⟨(uA 3++(.i .i64 out3:: .undef:: .undef:: .d 23 t6:: .i .i64 t7:: .i .i64 t8::uA 10)),[],[],[],[]⟩
  (Aj 0 (An (jA BU n 170 [1,1,1]) (rA 170 [23] [.tmp 2] [3])))
theorem BT(n m3:Nat)(out3:Int)(t6:D)(t7 t8:Int):Ua n (m3+1) out3 t6 t7 t8 =
 bK (t8<t7) (kK (0≤t8) (kK (t8<(t6.els.length:Int)) (bK (2048<(Api .i64 (out3*((t6.els.getD (Apj t8) D.nil).toInt)))) (.ret [D.int 0])
 (Ua n m3 (Api .i64 (out3*((t6.els.getD (Apj t8) D.nil).toInt))) t6 t7 (Api .i64 (t8+1))))))
 (.ret [D.int out3]):=by kernel_rfl
theorem Abt(n:Nat)(s0:D):fA BU n 170 [] [s0] =
 Ua n n 1 s0 (s0.els.length:Int) 0:=by kernel_rfl
theorem Am8(n:Nat)(s0 axis1 nn2:D):fA [] n 173 [] [s0,axis1,nn2] =
 bK (axis1.toInt<0) (.ret [D.sl [],D.bool false])
 (bK ((s0.els.length:Int)≤axis1.toInt) (.ret [D.sl [],D.bool false])
 (cK 96 [s0] fun Y1 =>
 kK (0≤axis1.toInt) (kK (axis1.toInt<(((qA Y1).els).length:Int)) (.ret [D.sl (((qA Y1).els).set (Apj axis1.toInt) (D.int nn2.toInt)),D.bool true])))):=by kernel_rfl
def BP:List (Nat×Orc):=[(6,⟨[(0,some 23),(1,none),(8,none),(9,none)],[],[(.slot 8,1060,3)]⟩)]
noncomputable def BO(n m6:Nat)(s0:D)(nn1:Int)(out8:List D)(i9:Int):Tree :=
 lA (eA BP n 175 [1,1,1,1,0,1,0,0]) (Al BP 6) m6 ⟨(.d 23 s0:: .i .i64 nn1::uA 6++(.row 1060:: .i .i64 i9::uA 42)),[(1060,.row 3 out8 true)],[1060],[],[]⟩
  (Aj 0 (An (jA BP n 175 [1,1,1,1,1]) (rA 175 [23,3] [.tmp 4,.tmp 5] [23,4])))
theorem Abn(n m6:Nat)(s0:D)(nn1:Int)(out8:List D)(i9:Int):BO n (m6+1) s0 nn1 out8 i9 =
 bK (0≤i9) (kK (0≤i9) (kK (i9<(s0.els.length:Int)) (.br (!(((s0.els.getD (Apj i9) D.nil).toInt)==(0:Int))) (kK (0≤i9) (kK (i9<(out8.length:Int)) (kK (0≤i9) (kK (i9<(s0.els.length:Int)) (.br (!(((s0.els.getD (Apj i9) D.nil).toInt)==(0:Int))) (BO n m6 s0 (Api .i64 (Int.tdiv nn1 ((s0.els.getD (Apj i9) D.nil).toInt))) (out8.set (Apj i9) (D.int (Int.tmod nn1 ((s0.els.getD (Apj i9) D.nil).toInt)))) (Api .i64 (i9-1))) .fail))))) .fail)))
 (.ret [D.sl out8,D.bool true]):=by kernel_rfl
theorem Am3(n:Nat)(s0 nn1:D):fA BP n 175 [] [s0,nn1] =
 cK 81 [s0] fun Y1 =>
 .br (((qB Y1).toInt)!=0) (.ret [D.sl [],D.bool false])
 (bK (nn1.toInt<0) (.ret [D.sl [],D.bool false])
 (bK (((qA Y1).toInt)≤nn1.toInt) (.ret [D.sl [],D.bool false])
 (kK (0≤(s0.els.length:Int)) (kK ((s0.els.length:Int)≤(s0.els.length:Int)) (kK ((s0.els.length:Int)≤Ak) (BO n n s0 nn1.toInt (Apl (Apj (s0.els.length:Int)) (D.int 0)) (Api .i64 ((s0.els.length:Int)-1)))))))):=by kernel_rfl
def BS:List (Nat×Orc):=[(6,⟨[(1,some 23),(8,none),(25,some 23),(26,none),(27,none)],[],[]⟩)]
noncomputable def BQ(n m6:Nat)(at1:D)(out8:Int)(t25:D)(t26 t27:Int):Tree :=
 lA (eA BS n 176 [1,1,1,0,1,0,0]) (Al BS 6) m6 ⟨(.undef:: .d 23 at1::uA 6++(.i .i64 out8::uA 16++(.d 23 t25:: .i .i64 t26:: .i .i64 t27::uA 27))),[],[],[],[]⟩
  (Aj 0 (An (jA BS n 176 [1,1,1,1]) (rA 176 [23,23] [.tmp 4,.tmp 5] [3,4])))
theorem Abp(n m6:Nat)(at1:D)(out8:Int)(t25:D)(t26 t27:Int):BQ n (m6+1) at1 out8 t25 t26 t27 =
 bK (t27<t26) (kK (0≤t27) (kK (t27<(t25.els.length:Int)) (kK (0≤t27) (kK (t27<(at1.els.length:Int)) (bK (((at1.els.getD (Apj t27) D.nil).toInt)<0) (.ret [D.int 0,D.bool false])
 (kK (0≤t27) (kK (t27<(at1.els.length:Int)) (bK (((t25.els.getD (Apj t27) D.nil).toInt)≤((at1.els.getD (Apj t27) D.nil).toInt)) (.ret [D.int 0,D.bool false])
 (kK (0≤t27) (kK (t27<(at1.els.length:Int)) (BQ n m6 at1 (Api .i64 ((Api .i64 (out8*((t25.els.getD (Apj t27) D.nil).toInt)))+((at1.els.getD (Apj t27) D.nil).toInt))) t25 t26 (Api .i64 (t27+1)))))))))))))
 (.ret [D.int out8,D.bool true]):=by kernel_rfl
theorem Am7(n:Nat)(s0 at1:D):fA BS n 176 [] [s0,at1] =
 cK 81 [s0] fun Y1 =>
 .br (((qB Y1).toInt)!=0) (.ret [D.int 0,D.bool false])
 (.br ((at1.els.length:Int)!=(s0.els.length:Int)) (.ret [D.int 0,D.bool false])
 (BQ n n at1 0 s0 (s0.els.length:Int) 0)):=by kernel_rfl
def Jf:List (Nat×Orc):=[(2,⟨[(0,none),(1,none),(2,some 107),(6,none),(7,none),(8,none)],[],[(.slot 0,0,3)]⟩),(7,⟨[(0,none),(1,none),(2,some 107),(6,none)],[],[(.slot 0,0,3)]⟩),(9,⟨[(0,none),(1,none),(2,some 107),(6,none),(7,none),(8,none)],[],[(.slot 0,0,3)]⟩)]
def CN:List Nat:=[23,3,107]
noncomputable def CM(n m7 m9:Nat)(data0:List D)(nn1:Int)(cmp2:D)(blockSize6 a7 b8:Int):Tree :=
 lA (eA Jf n 217 [1,1,1,1,0,0,1,0,1,0,0,0]) (Al Jf 9) m9 ⟨(.row 0:: .i .i64 nn1:: .d 107 cmp2::uA 3++(.i .i64 blockSize6:: .i .i64 a7:: .i .i64 b8::uA 54)),[(0,.row 3 data0 true)],[0],[],[0]⟩
  (Aj 4 (An (jA Jf n 217 [1,1,1,1,0,0,1,0,1,1]) (Aj 3 (Fs Tryz.prog md (Al Jf 7) (fun s1=>lA (eA Jf n 217 [1,1,1,1,0,0]) (Al Jf 7) m7 s1 (Aj 2 (rA 217 CN [] []))) (Aj 2 (rA 217 CN [] []))))))
noncomputable def Q_(n m7:Nat)(data0:List D)(nn1:Int)(cmp2:D)(blockSize6:Int):Tree :=
 lA (eA Jf n 217 [1,1,1,1,0,0]) (Al Jf 7) m7 ⟨(.row 0:: .i .i64 nn1:: .d 107 cmp2::uA 3++(.i .i64 blockSize6::uA 56)),[(0,.row 3 data0 true)],[0],[],[0]⟩
  (Aj 2 (rA 217 CN [] []))
noncomputable def CL(n m2:Nat)(data0:List D)(nn1:Int)(cmp2:D)(blockSize6 a7 b8:Int):Tree :=
 lA (eA Jf n 217 [1,1,0,0,0]) (Al Jf 2) m2 ⟨(.row 0:: .i .i64 nn1:: .d 107 cmp2::uA 3++(.i .i64 blockSize6:: .i .i64 a7:: .i .i64 b8::uA 54)),[(0,.row 3 data0 true)],[0],[],[0]⟩
  (Aj 0 (An (jA Jf n 217 [1,1,1]) (rA 217 CN [] [])))
theorem Anh(n m7 m9:Nat)(data0:List D)(nn1:Int)(cmp2_c0 cmp2_c1:D)(blockSize6 a7 b8:Int):CM n m7 (m9+1) data0 nn1 (D.fn 156 [.ref 4,.ref 26] [cmp2_c0,cmp2_c1]) blockSize6 a7 b8 =
 bK (b8≤nn1) (cK 251 [D.sl data0,D.int a7,D.int (Api .i64 (a7+blockSize6)),D.int b8,(D.fn 156 [.ref 4,.ref 26] [cmp2_c0,cmp2_c1])] fun Y3 =>
 CM n m7 m9 ((qA Y3).els) nn1 (D.fn 156 [.ref 4,.ref 26] [cmp2_c0,cmp2_c1]) blockSize6 b8 (Api .i64 (b8+(Api .i64 (2*blockSize6)))))
 (bK ((Api .i64 (a7+blockSize6))<nn1) (cK 251 [D.sl data0,D.int a7,D.int (Api .i64 (a7+blockSize6)),D.int nn1,(D.fn 156 [.ref 4,.ref 26] [cmp2_c0,cmp2_c1])] fun Y4 =>
 Q_ n m7 ((qA Y4).els) nn1 (D.fn 156 [.ref 4,.ref 26] [cmp2_c0,cmp2_c1]) (Api .i64 (blockSize6*2)))
 (Q_ n m7 data0 nn1 (D.fn 156 [.ref 4,.ref 26] [cmp2_c0,cmp2_c1]) (Api .i64 (blockSize6*2)))):=by kernel_rfl
theorem Ang(n m7:Nat)(data0:List D)(nn1:Int)(cmp2_c0 cmp2_c1:D)(blockSize6:Int):Q_ n (m7+1) data0 nn1 (D.fn 156 [.ref 4,.ref 26] [cmp2_c0,cmp2_c1]) blockSize6 =
 bK (blockSize6<nn1) (CM n m7 n data0 nn1 (D.fn 156 [.ref 4,.ref 26] [cmp2_c0,cmp2_c1]) blockSize6 0 (Api .i64 (2*blockSize6)))
 (.ret [D.sl data0]):=by kernel_rfl
theorem Anf(n m2:Nat)(data0:List D)(nn1:Int)(cmp2_c0 cmp2_c1:D)(blockSize6 a7 b8:Int):CL n (m2+1) data0 nn1 (D.fn 156 [.ref 4,.ref 26] [cmp2_c0,cmp2_c1]) blockSize6 a7 b8 =
 bK (b8≤nn1) (cK 250 [D.sl data0,D.int a7,D.int b8,(D.fn 156 [.ref 4,.ref 26] [cmp2_c0,cmp2_c1])] fun Y1 =>
 CL n m2 ((qA Y1).els) nn1 (D.fn 156 [.ref 4,.ref 26] [cmp2_c0,cmp2_c1]) blockSize6 b8 (Api .i64 (b8+blockSize6)))
 (cK 250 [D.sl data0,D.int a7,D.int nn1,(D.fn 156 [.ref 4,.ref 26] [cmp2_c0,cmp2_c1])] fun Y2 =>
 Q_ n n ((qA Y2).els) nn1 (D.fn 156 [.ref 4,.ref 26] [cmp2_c0,cmp2_c1]) blockSize6):=by kernel_rfl
theorem Ani(n:Nat)(data0 nn1:D)(cmp2_c0 cmp2_c1:D):fA Jf n 217 [] [data0,nn1,(D.fn 156 [.ref 4,.ref 26] [cmp2_c0,cmp2_c1])] =
 CL n n data0.els nn1.toInt (D.fn 156 [.ref 4,.ref 26] [cmp2_c0,cmp2_c1]) 20 0 20:=by kernel_rfl
def Q8:List (Nat×Orc):=[(2,⟨[(0,some 23),(1,some 119),(7,none),(8,none)],[],[]⟩)]
noncomputable def Je(n m2:Nat)(s0 f1:D)(t7 t8:Int):Tree :=
 lA (eA Q8 n 230 [1,0,1,0,0]) (Al Q8 2) m2 ⟨(.d 23 s0:: .d 119 f1::uA 5++(.i .i64 t7:: .i .i64 t8::uA 10)),[],[],[],[]⟩
  (Aj 0 (An (jA Q8 n 230 [1,1]) (rA 230 [23,119] [.tmp 4] [3])))
theorem Ab3(n m2:Nat)(s0:D)(t7 t8:Int):Je n (m2+1) s0 (D.fn 168 [] []) t7 t8 =
 bK (t8<t7) (kK (0≤t8) (kK (t8<(s0.els.length:Int)) (.call (D.fn 168 [] []).fnId (D.fn 168 [] []).fnCts ([D.int ((s0.els.getD (Apj t8) D.nil).toInt)]++(D.fn 168 [] []).fnDs) fun Y1 =>
 .br ((qA Y1).toBool) (.ret [D.int t8])
 (Je n m2 s0 (D.fn 168 [] []) t7 (Api .i64 (t8+1))))))
 (.ret [D.int (-1)]):=by kernel_rfl
theorem Ab4(n m2:Nat)(s0:D)(t7 t8:Int):Je n (m2+1) s0 (D.fn 169 [] []) t7 t8 =
 bK (t8<t7) (kK (0≤t8) (kK (t8<(s0.els.length:Int)) (.call (D.fn 169 [] []).fnId (D.fn 169 [] []).fnCts ([D.int ((s0.els.getD (Apj t8) D.nil).toInt)]++(D.fn 169 [] []).fnDs) fun Y1 =>
 .br ((qA Y1).toBool) (.ret [D.int t8])
 (Je n m2 s0 (D.fn 169 [] []) t7 (Api .i64 (t8+1))))))
 (.ret [D.int (-1)]):=by kernel_rfl
theorem Ab2(n m2:Nat)(s0:D)(t7 t8:Int):Je n (m2+1) s0 (D.fn 188 [] []) t7 t8 =
 bK (t8<t7) (kK (0≤t8) (kK (t8<(s0.els.length:Int)) (.call (D.fn 188 [] []).fnId (D.fn 188 [] []).fnCts ([D.int ((s0.els.getD (Apj t8) D.nil).toInt)]++(D.fn 188 [] []).fnDs) fun Y1 =>
 .br ((qA Y1).toBool) (.ret [D.int t8])
 (Je n m2 s0 (D.fn 188 [] []) t7 (Api .i64 (t8+1))))))
 (.ret [D.int (-1)]):=by kernel_rfl
theorem AmV(n:Nat)(s0:D):fA Q8 n 230 [] [s0,(D.fn 168 [] [])] =
 Je n n s0 (D.fn 168 [] []) (s0.els.length:Int) 0:=by kernel_rfl
theorem AmW(n:Nat)(s0:D):fA Q8 n 230 [] [s0,(D.fn 169 [] [])] =
 Je n n s0 (D.fn 169 [] []) (s0.els.length:Int) 0:=by kernel_rfl
theorem AmU(n:Nat)(s0:D):fA Q8 n 230 [] [s0,(D.fn 188 [] [])] =
 Je n n s0 (D.fn 188 [] []) (s0.els.length:Int) 0:=by kernel_rfl
def CD:List (Nat×Orc):=[(4,⟨[(0,some 23),(1,some 23),(12,none),(13,none)],[],[]⟩)]
noncomputable def CC(n m4:Nat)(s10 s21:D)(t12 t13:Int):Tree :=
 lA (eA CD n 234 [1,1,0,1,0,0]) (Al CD 4) m4 ⟨(.d 23 s10:: .d 23 s21::uA 10++(.i .i64 t12:: .i .i64 t13::uA 12)),[],[],[],[]⟩
  (Aj 0 (An (jA CD n 234 [1,1,1]) (rA 234 [23,23] [.tmp 4] [4])))
theorem AmQ(n m4:Nat)(s10 s21:D)(t12 t13:Int):CC n (m4+1) s10 s21 t12 t13 =
 bK (t13<t12) (kK (0≤t13) (kK (t13<(s10.els.length:Int)) (kK (0≤t13) (kK (t13<(s21.els.length:Int)) (.br (((s10.els.getD (Apj t13) D.nil).toInt)!=((s21.els.getD (Apj t13) D.nil).toInt)) (.ret [D.bool false])
 (CC n m4 s10 s21 t12 (Api .i64 (t13+1))))))))
 (.ret [D.bool true]):=by kernel_rfl
theorem AmR(n:Nat)(s10 s21:D):fA CD n 234 [] [s10,s21] =
 .br ((s10.els.length:Int)!=(s21.els.length:Int)) (.ret [D.bool false])
 (CC n n s10 s21 (s10.els.length:Int) 0):=by kernel_rfl
theorem AmH(n:Nat)(s0:D):fA [] n 247 [] [s0] =
 .amb s0.els.isEmpty (.ret [D.sl []])
 (kK (([]:List D).length+s0.els.length≤Ak) (.ret [D.sl ([]++s0.els)])):=by kernel_rfl
theorem AmF(n:Nat)(s0:D):fA [] n 248 [] [s0] =
 .amb s0.els.isEmpty (.ret [D.sl []])
 (kK (([]:List D).length+s0.els.length≤Ak) (.ret [D.sl ([]++s0.els)])):=by kernel_rfl
def Lx:List (Nat×Orc):=[(1,⟨[(0,none),(1,none),(2,none),(3,some 107),(8,none)],[],[(.slot 0,0,3)]⟩),(4,⟨[(0,none),(1,none),(2,none),(3,some 107),(8,none),(9,none)],[],[(.slot 0,0,3)]⟩)]
def LP:List Nat:=[23,3,3,107]
noncomputable def CJ(n m1 m4:Nat)(data0:List D)(a1 b2:Int)(cmp3:D)(i8 j9:Int):Tree :=
 lA (eA Lx n 250 [1,0,0,1,0,0,1,0,0]) (Al Lx 4) m4 ⟨(.row 0:: .i .i64 a1:: .i .i64 b2:: .d 107 cmp3::uA 4++(.i .i64 i8:: .i .i64 j9::uA 43)),[(0,.row 3 data0 true)],[0],[],[0]⟩
  (Aj 2 (Aj 1 (An (jA Lx n 250 [1,0,0,1,1]) (Fs Tryz.prog md (Al Lx 1) (fun s1=>lA (eA Lx n 250 [1,0,0]) (Al Lx 1) m1 s1 (Aj 0 (rA 250 LP [] []))) (Aj 0 (rA 250 LP [] []))))))
noncomputable def Q9(n m1:Nat)(data0:List D)(a1 b2:Int)(cmp3:D)(i8:Int):Tree :=
 lA (eA Lx n 250 [1,0,0]) (Al Lx 1) m1 ⟨(.row 0:: .i .i64 a1:: .i .i64 b2:: .d 107 cmp3::uA 4++(.i .i64 i8::uA 44)),[(0,.row 3 data0 true)],[0],[],[0]⟩
  (Aj 0 (rA 250 LP [] []))
theorem Ab7(n m1 m4:Nat)(data0:List D)(a1 b2:Int)(cmp3_c0 cmp3_c1:D)(i8 j9:Int):CJ n m1 (m4+1) data0 a1 b2 (D.fn 156 [.ref 4,.ref 26] [cmp3_c0,cmp3_c1]) i8 j9 =
 bK (a1<j9) (kK (0≤j9) (kK (j9<(data0.length:Int)) (kK (0≤Api .i64 (j9-1)) (kK (Api .i64 (j9-1)<(data0.length:Int)) (.call (D.fn 156 [.ref 4,.ref 26] [cmp3_c0,cmp3_c1]).fnId (D.fn 156 [.ref 4,.ref 26] [cmp3_c0,cmp3_c1]).fnCts ([D.int ((data0.getD (Apj j9) D.nil).toInt),D.int ((data0.getD (Apj (Api .i64 (j9-1))) D.nil).toInt)]++(D.fn 156 [.ref 4,.ref 26] [cmp3_c0,cmp3_c1]).fnDs) fun Y1 =>
 bK (((qA Y1).toInt)<0) (kK (0≤Api .i64 (j9-1)) (kK (Api .i64 (j9-1)<(data0.length:Int)) (kK (0≤j9) (kK (j9<(data0.length:Int)) (kK (0≤j9) (kK (j9<(data0.length:Int)) (kK (0≤Api .i64 (j9-1)) (kK (Api .i64 (j9-1)<((data0.set (Apj j9) (D.int ((data0.getD (Apj (Api .i64 (j9-1))) D.nil).toInt))).length:Int)) (CJ n m1 m4 ((data0.set (Apj j9) (D.int ((data0.getD (Apj (Api .i64 (j9-1))) D.nil).toInt))).set (Apj (Api .i64 (j9-1))) (D.int ((data0.getD (Apj j9) D.nil).toInt))) a1 b2 (D.fn 156 [.ref 4,.ref 26] [cmp3_c0,cmp3_c1]) i8 (Api .i64 (j9-1)))))))))))
 (Q9 n m1 data0 a1 b2 (D.fn 156 [.ref 4,.ref 26] [cmp3_c0,cmp3_c1]) (Api .i64 (i8+1))))))))
 (Q9 n m1 data0 a1 b2 (D.fn 156 [.ref 4,.ref 26] [cmp3_c0,cmp3_c1]) (Api .i64 (i8+1))):=by kernel_rfl
theorem Ab6(n m1:Nat)(data0:List D)(a1 b2:Int)(cmp3_c0 cmp3_c1:D)(i8:Int):Q9 n (m1+1) data0 a1 b2 (D.fn 156 [.ref 4,.ref 26] [cmp3_c0,cmp3_c1]) i8 =
 bK (i8<b2) (CJ n m1 n data0 a1 b2 (D.fn 156 [.ref 4,.ref 26] [cmp3_c0,cmp3_c1]) i8 i8)
 (.ret [D.sl data0]):=by kernel_rfl
theorem Anb(n:Nat)(data0 a1:D)(b2 cmp3_c0 cmp3_c1:D):fA Lx n 250 [] [data0,a1,b2,(D.fn 156 [.ref 4,.ref 26] [cmp3_c0,cmp3_c1])] =
 Q9 n n data0.els a1.toInt b2.toInt (D.fn 156 [.ref 4,.ref 26] [cmp3_c0,cmp3_c1]) (Api .i64 (a1.toInt+1)):=by kernel_rfl
def E9:List (Nat×Orc):=[(3,⟨[(0,none),(1,none),(4,some 107),(10,none),(11,none)],[],[(.slot 0,0,3)]⟩),(9,⟨[(0,none),(10,none),(13,none)],[],[(.slot 0,0,3)]⟩),(15,⟨[(0,none),(2,none),(4,some 107),(14,none),(15,none)],[],[(.slot 0,0,3)]⟩),(21,⟨[(0,none),(14,none),(17,none)],[],[(.slot 0,0,3)]⟩),(33,⟨[(0,none),(1,none),(2,none),(3,none),(4,some 107),(18,none),(19,none),(20,none),(21,none),(22,none)],[],[(.slot 0,0,3)]⟩)]
def Ue:List Nat:=[23,3,3,3,107]
noncomputable def CQ(n m9:Nat)(data0:List D)(i10 k13:Int):Tree :=
 lA (eA E9 n 251 [0,1,0,1,1,1,0,1,0,0]) (Al E9 9) m9 ⟨(.row 0::uA 9++(.i .i64 i10:: .undef:: .undef:: .i .i64 k13::uA 206)),[(0,.row 3 data0 true)],[0],[],[0]⟩
  (Aj 2 (An (jA E9 n 251 [0,1,0,1,1,1,1]) (An (jA E9 n 251 [1]) (rA 251 Ue [] []))))
noncomputable def Ud(n m3:Nat)(data0:List D)(a1:Int)(cmp4:D)(i10 j11:Int):Tree :=
 lA (eA E9 n 251 [0,1,0,1,1,0,0,0]) (Al E9 3) m3 ⟨(.row 0:: .i .i64 a1:: .undef:: .undef:: .d 107 cmp4::uA 5++(.i .i64 i10:: .i .i64 j11::uA 208)),[(0,.row 3 data0 true)],[0],[],[0]⟩
  (Aj 0 (An (jA E9 n 251 [0,1,0,1,1,1]) (An (jA E9 n 251 [1]) (rA 251 Ue [] []))))
noncomputable def CP(n m21:Nat)(data0:List D)(i14 k17:Int):Tree :=
 lA (eA E9 n 251 [1,0,1,0,1,1,1,0,1,0,0]) (Al E9 21) m21 ⟨(.row 0::uA 13++(.i .i64 i14:: .undef:: .undef:: .i .i64 k17::uA 202)),[(0,.row 3 data0 true)],[0],[],[0]⟩
  (Aj 6 (An (jA E9 n 251 [1,0,1,0,1,1,1,1]) (An (jA E9 n 251 [1,1]) (rA 251 Ue [] []))))
noncomputable def Uc(n m15:Nat)(data0:List D)(mm2:Int)(cmp4:D)(i14 j15:Int):Tree :=
 lA (eA E9 n 251 [1,0,1,0,1,1,0,0,0]) (Al E9 15) m15 ⟨(.row 0:: .undef:: .i .i64 mm2:: .undef:: .d 107 cmp4::uA 9++(.i .i64 i14:: .i .i64 j15::uA 204)),[(0,.row 3 data0 true)],[0],[],[0]⟩
  (Aj 4 (An (jA E9 n 251 [1,0,1,0,1,1,1]) (An (jA E9 n 251 [1,1]) (rA 251 Ue [] []))))
noncomputable def Ra(n m33:Nat)(data0:List D)(a1 mm2 b3:Int)(cmp4:D)(mid18 nn19:Int)(start20 r21 p22:Int):Tree :=
 lA (eA E9 n 251 [1,1,1,1,1,1,1,0,0,0]) (Al E9 33) m33 ⟨(.row 0:: .i .i64 a1:: .i .i64 mm2:: .i .i64 b3:: .d 107 cmp4::uA 13++(.i .i64 mid18:: .i .i64 nn19:: .i .i64 start20:: .i .i64 r21:: .i .i64 p22::uA 197)),[(0,.row 3 data0 true)],[0],[],[0]⟩
  (Aj 8 (An (jA E9 n 251 [1,1,1,1,1,1,1,1]) (rA 251 Ue [] [])))
theorem Ab_(n m9:Nat)(data0:List D)(i10 k13:Int):CQ n (m9+1) data0 i10 k13 =
 bK (k13<(Api .i64 (i10-1))) (kK (0≤Api .i64 (k13+1)) (kK (Api .i64 (k13+1)<(data0.length:Int)) (kK (0≤k13) (kK (k13<(data0.length:Int)) (kK (0≤k13) (kK (k13<(data0.length:Int)) (kK (0≤Api .i64 (k13+1)) (kK (Api .i64 (k13+1)<((data0.set (Apj k13) (D.int ((data0.getD (Apj (Api .i64 (k13+1))) D.nil).toInt))).length:Int)) (CQ n m9 ((data0.set (Apj k13) (D.int ((data0.getD (Apj (Api .i64 (k13+1))) D.nil).toInt))).set (Apj (Api .i64 (k13+1))) (D.int ((data0.getD (Apj k13) D.nil).toInt))) i10 (Api .i64 (k13+1)))))))))))
 (.ret [D.sl data0]):=by kernel_rfl
theorem Anm(n m3:Nat)(data0:List D)(a1:Int)(cmp4_c0 cmp4_c1:D)(i10 j11:Int):Ud n (m3+1) data0 a1 (D.fn 156 [.ref 4,.ref 26] [cmp4_c0,cmp4_c1]) i10 j11 =
 bK (i10<j11) (kK (0≤1) (kK (0≤Api .i64 (Aqd (Api .u64 (Api .i64 (i10+j11))) (2 ^ (min (Apj 1) (Apv .u64))))) (kK (Api .i64 (Aqd (Api .u64 (Api .i64 (i10+j11))) (2 ^ (min (Apj 1) (Apv .u64))))<(data0.length:Int)) (kK (0≤a1) (kK (a1<(data0.length:Int)) (.call (D.fn 156 [.ref 4,.ref 26] [cmp4_c0,cmp4_c1]).fnId (D.fn 156 [.ref 4,.ref 26] [cmp4_c0,cmp4_c1]).fnCts ([D.int ((data0.getD (Apj (Api .i64 (Aqd (Api .u64 (Api .i64 (i10+j11))) (2 ^ (min (Apj 1) (Apv .u64)))))) D.nil).toInt),D.int ((data0.getD (Apj a1) D.nil).toInt)]++(D.fn 156 [.ref 4,.ref 26] [cmp4_c0,cmp4_c1]).fnDs) fun Y1 =>
 bK (((qA Y1).toInt)<0) (Ud n m3 data0 a1 (D.fn 156 [.ref 4,.ref 26] [cmp4_c0,cmp4_c1]) (Api .i64 ((Api .i64 (Aqd (Api .u64 (Api .i64 (i10+j11))) (2 ^ (min (Apj 1) (Apv .u64)))))+1)) j11)
 (Ud n m3 data0 a1 (D.fn 156 [.ref 4,.ref 26] [cmp4_c0,cmp4_c1]) i10 (Api .i64 (Aqd (Api .u64 (Api .i64 (i10+j11))) (2 ^ (min (Apj 1) (Apv .u64))))))))))))
 (CQ n n data0 i10 a1):=by kernel_rfl
theorem Ab9(n m21:Nat)(data0:List D)(i14 k17:Int):CP n (m21+1) data0 i14 k17 =
 bK (i14<k17) (kK (0≤Api .i64 (k17-1)) (kK (Api .i64 (k17-1)<(data0.length:Int)) (kK (0≤k17) (kK (k17<(data0.length:Int)) (kK (0≤k17) (kK (k17<(data0.length:Int)) (kK (0≤Api .i64 (k17-1)) (kK (Api .i64 (k17-1)<((data0.set (Apj k17) (D.int ((data0.getD (Apj (Api .i64 (k17-1))) D.nil).toInt))).length:Int)) (CP n m21 ((data0.set (Apj k17) (D.int ((data0.getD (Apj (Api .i64 (k17-1))) D.nil).toInt))).set (Apj (Api .i64 (k17-1))) (D.int ((data0.getD (Apj k17) D.nil).toInt))) i14 (Api .i64 (k17-1)))))))))))
 (.ret [D.sl data0]):=by kernel_rfl
theorem Ank(n m15:Nat)(data0:List D)(mm2:Int)(cmp4_c0 cmp4_c1:D)(i14 j15:Int):Uc n (m15+1) data0 mm2 (D.fn 156 [.ref 4,.ref 26] [cmp4_c0,cmp4_c1]) i14 j15 =
 bK (i14<j15) (kK (0≤1) (kK (0≤mm2) (kK (mm2<(data0.length:Int)) (kK (0≤Api .i64 (Aqd (Api .u64 (Api .i64 (i14+j15))) (2 ^ (min (Apj 1) (Apv .u64))))) (kK (Api .i64 (Aqd (Api .u64 (Api .i64 (i14+j15))) (2 ^ (min (Apj 1) (Apv .u64))))<(data0.length:Int)) (.call (D.fn 156 [.ref 4,.ref 26] [cmp4_c0,cmp4_c1]).fnId (D.fn 156 [.ref 4,.ref 26] [cmp4_c0,cmp4_c1]).fnCts ([D.int ((data0.getD (Apj mm2) D.nil).toInt),D.int ((data0.getD (Apj (Api .i64 (Aqd (Api .u64 (Api .i64 (i14+j15))) (2 ^ (min (Apj 1) (Apv .u64)))))) D.nil).toInt)]++(D.fn 156 [.ref 4,.ref 26] [cmp4_c0,cmp4_c1]).fnDs) fun Y2 =>
 .br (!(decide (((qA Y2).toInt)<0))) (Uc n m15 data0 mm2 (D.fn 156 [.ref 4,.ref 26] [cmp4_c0,cmp4_c1]) (Api .i64 ((Api .i64 (Aqd (Api .u64 (Api .i64 (i14+j15))) (2 ^ (min (Apj 1) (Apv .u64)))))+1)) j15)
 (Uc n m15 data0 mm2 (D.fn 156 [.ref 4,.ref 26] [cmp4_c0,cmp4_c1]) i14 (Api .i64 (Aqd (Api .u64 (Api .i64 (i14+j15))) (2 ^ (min (Apj 1) (Apv .u64))))))))))))
 (CP n n data0 i14 mm2):=by kernel_rfl
theorem Anl(n m33:Nat)(data0:List D)(a1 mm2 b3:Int)(cmp4_c0 cmp4_c1:D)(mid18 nn19:Int)(start20 r21 p22:Int):Ra n (m33+1) data0 a1 mm2 b3 (D.fn 156 [.ref 4,.ref 26] [cmp4_c0,cmp4_c1]) mid18 nn19 start20 r21 p22 =
 bK (start20<r21) (kK (0≤1) (kK (0≤Api .i64 (p22-(Api .i64 (Aqd (Api .u64 (Api .i64 (start20+r21))) (2 ^ (min (Apj 1) (Apv .u64))))))) (kK (Api .i64 (p22-(Api .i64 (Aqd (Api .u64 (Api .i64 (start20+r21))) (2 ^ (min (Apj 1) (Apv .u64))))))<(data0.length:Int)) (kK (0≤Api .i64 (Aqd (Api .u64 (Api .i64 (start20+r21))) (2 ^ (min (Apj 1) (Apv .u64))))) (kK (Api .i64 (Aqd (Api .u64 (Api .i64 (start20+r21))) (2 ^ (min (Apj 1) (Apv .u64))))<(data0.length:Int)) (.call (D.fn 156 [.ref 4,.ref 26] [cmp4_c0,cmp4_c1]).fnId (D.fn 156 [.ref 4,.ref 26] [cmp4_c0,cmp4_c1]).fnCts ([D.int ((data0.getD (Apj (Api .i64 (p22-(Api .i64 (Aqd (Api .u64 (Api .i64 (start20+r21))) (2 ^ (min (Apj 1) (Apv .u64)))))))) D.nil).toInt),D.int ((data0.getD (Apj (Api .i64 (Aqd (Api .u64 (Api .i64 (start20+r21))) (2 ^ (min (Apj 1) (Apv .u64)))))) D.nil).toInt)]++(D.fn 156 [.ref 4,.ref 26] [cmp4_c0,cmp4_c1]).fnDs) fun Y3 =>
 .br (!(decide (((qA Y3).toInt)<0))) (Ra n m33 data0 a1 mm2 b3 (D.fn 156 [.ref 4,.ref 26] [cmp4_c0,cmp4_c1]) mid18 nn19 (Api .i64 ((Api .i64 (Aqd (Api .u64 (Api .i64 (start20+r21))) (2 ^ (min (Apj 1) (Apv .u64)))))+1)) r21 p22)
 (Ra n m33 data0 a1 mm2 b3 (D.fn 156 [.ref 4,.ref 26] [cmp4_c0,cmp4_c1]) mid18 nn19 start20 (Api .i64 (Aqd (Api .u64 (Api .i64 (start20+r21))) (2 ^ (min (Apj 1) (Apv .u64))))) p22)))))))
 (bK (start20<mm2) (bK (mm2<(Api .i64 (nn19-start20))) (cK 300 [D.sl data0,D.int start20,D.int mm2,D.int (Api .i64 (nn19-start20)),(D.fn 156 [.ref 4,.ref 26] [cmp4_c0,cmp4_c1])] fun Y4 =>
 bK (a1<start20) (bK (start20<mid18) (cK 251 [D.sl ((qA Y4).els),D.int a1,D.int start20,D.int mid18,(D.fn 156 [.ref 4,.ref 26] [cmp4_c0,cmp4_c1])] fun Y5 =>
 bK (mid18<(Api .i64 (nn19-start20))) (bK ((Api .i64 (nn19-start20))<b3) (cK 251 [D.sl ((qA Y5).els),D.int mid18,D.int (Api .i64 (nn19-start20)),D.int b3,(D.fn 156 [.ref 4,.ref 26] [cmp4_c0,cmp4_c1])] fun Y6 =>
 .ret [D.sl ((qA Y6).els)])
 (.ret [D.sl ((qA Y5).els)]))
 (.ret [D.sl ((qA Y5).els)]))
 (bK (mid18<(Api .i64 (nn19-start20))) (bK ((Api .i64 (nn19-start20))<b3) (cK 251 [D.sl ((qA Y4).els),D.int mid18,D.int (Api .i64 (nn19-start20)),D.int b3,(D.fn 156 [.ref 4,.ref 26] [cmp4_c0,cmp4_c1])] fun Y7 =>
 .ret [D.sl ((qA Y7).els)])
 (.ret [D.sl ((qA Y4).els)]))
 (.ret [D.sl ((qA Y4).els)])))
 (bK (mid18<(Api .i64 (nn19-start20))) (bK ((Api .i64 (nn19-start20))<b3) (cK 251 [D.sl ((qA Y4).els),D.int mid18,D.int (Api .i64 (nn19-start20)),D.int b3,(D.fn 156 [.ref 4,.ref 26] [cmp4_c0,cmp4_c1])] fun Y8 =>
 .ret [D.sl ((qA Y8).els)])
 (.ret [D.sl ((qA Y4).els)]))
 (.ret [D.sl ((qA Y4).els)])))
 (bK (a1<start20) (bK (start20<mid18) (cK 251 [D.sl data0,D.int a1,D.int start20,D.int mid18,(D.fn 156 [.ref 4,.ref 26] [cmp4_c0,cmp4_c1])] fun Y9 =>
 bK (mid18<(Api .i64 (nn19-start20))) (bK ((Api .i64 (nn19-start20))<b3) (cK 251 [D.sl ((qA Y9).els),D.int mid18,D.int (Api .i64 (nn19-start20)),D.int b3,(D.fn 156 [.ref 4,.ref 26] [cmp4_c0,cmp4_c1])] fun Y10 =>
 .ret [D.sl ((qA Y10).els)])
 (.ret [D.sl ((qA Y9).els)]))
 (.ret [D.sl ((qA Y9).els)]))
 (bK (mid18<(Api .i64 (nn19-start20))) (bK ((Api .i64 (nn19-start20))<b3) (cK 251 [D.sl data0,D.int mid18,D.int (Api .i64 (nn19-start20)),D.int b3,(D.fn 156 [.ref 4,.ref 26] [cmp4_c0,cmp4_c1])] fun Y11 =>
 .ret [D.sl ((qA Y11).els)])
 (.ret [D.sl data0]))
 (.ret [D.sl data0])))
 (bK (mid18<(Api .i64 (nn19-start20))) (bK ((Api .i64 (nn19-start20))<b3) (cK 251 [D.sl data0,D.int mid18,D.int (Api .i64 (nn19-start20)),D.int b3,(D.fn 156 [.ref 4,.ref 26] [cmp4_c0,cmp4_c1])] fun Y12 =>
 .ret [D.sl ((qA Y12).els)])
 (.ret [D.sl data0]))
 (.ret [D.sl data0]))))
 (bK (a1<start20) (bK (start20<mid18) (cK 251 [D.sl data0,D.int a1,D.int start20,D.int mid18,(D.fn 156 [.ref 4,.ref 26] [cmp4_c0,cmp4_c1])] fun Y13 =>
 bK (mid18<(Api .i64 (nn19-start20))) (bK ((Api .i64 (nn19-start20))<b3) (cK 251 [D.sl ((qA Y13).els),D.int mid18,D.int (Api .i64 (nn19-start20)),D.int b3,(D.fn 156 [.ref 4,.ref 26] [cmp4_c0,cmp4_c1])] fun Y14 =>
 .ret [D.sl ((qA Y14).els)])
 (.ret [D.sl ((qA Y13).els)]))
 (.ret [D.sl ((qA Y13).els)]))
 (bK (mid18<(Api .i64 (nn19-start20))) (bK ((Api .i64 (nn19-start20))<b3) (cK 251 [D.sl data0,D.int mid18,D.int (Api .i64 (nn19-start20)),D.int b3,(D.fn 156 [.ref 4,.ref 26] [cmp4_c0,cmp4_c1])] fun Y15 =>
 .ret [D.sl ((qA Y15).els)])
 (.ret [D.sl data0]))
 (.ret [D.sl data0])))
 (bK (mid18<(Api .i64 (nn19-start20))) (bK ((Api .i64 (nn19-start20))<b3) (cK 251 [D.sl data0,D.int mid18,D.int (Api .i64 (nn19-start20)),D.int b3,(D.fn 156 [.ref 4,.ref 26] [cmp4_c0,cmp4_c1])] fun Y16 =>
 .ret [D.sl ((qA Y16).els)])
 (.ret [D.sl data0]))
 (.ret [D.sl data0])))):=by kernel_rfl
theorem Ann(n:Nat)(data0 a1:D)(mm2 b3:D)(cmp4_c0 cmp4_c1:D):fA E9 n 251 [] [data0,a1,mm2,b3,(D.fn 156 [.ref 4,.ref 26] [cmp4_c0,cmp4_c1])] =
 .br ((Api .i64 (mm2.toInt-a1.toInt))==1) (Ud n n data0.els a1.toInt (D.fn 156 [.ref 4,.ref 26] [cmp4_c0,cmp4_c1]) mm2.toInt b3.toInt)
 (.br ((Api .i64 (b3.toInt-mm2.toInt))==1) (Uc n n data0.els mm2.toInt (D.fn 156 [.ref 4,.ref 26] [cmp4_c0,cmp4_c1]) a1.toInt mm2.toInt)
 (kK (0≤1) (bK ((Api .i64 (Aqd (Api .u64 (Api .i64 (a1.toInt+b3.toInt))) (2 ^ (min (Apj 1) (Apv .u64)))))<mm2.toInt) (Ra n n data0.els a1.toInt mm2.toInt b3.toInt (D.fn 156 [.ref 4,.ref 26] [cmp4_c0,cmp4_c1]) (Api .i64 (Aqd (Api .u64 (Api .i64 (a1.toInt+b3.toInt))) (2 ^ (min (Apj 1) (Apv .u64))))) (Api .i64 ((Api .i64 (Aqd (Api .u64 (Api .i64 (a1.toInt+b3.toInt))) (2 ^ (min (Apj 1) (Apv .u64)))))+mm2.toInt)) (Api .i64 ((Api .i64 ((Api .i64 (Aqd (Api .u64 (Api .i64 (a1.toInt+b3.toInt))) (2 ^ (min (Apj 1) (Apv .u64)))))+mm2.toInt))-b3.toInt)) (Api .i64 (Aqd (Api .u64 (Api .i64 (a1.toInt+b3.toInt))) (2 ^ (min (Apj 1) (Apv .u64))))) (Api .i64 ((Api .i64 ((Api .i64 (Aqd (Api .u64 (Api .i64 (a1.toInt+b3.toInt))) (2 ^ (min (Apj 1) (Apv .u64)))))+mm2.toInt))-1)))
 (Ra n n data0.els a1.toInt mm2.toInt b3.toInt (D.fn 156 [.ref 4,.ref 26] [cmp4_c0,cmp4_c1]) (Api .i64 (Aqd (Api .u64 (Api .i64 (a1.toInt+b3.toInt))) (2 ^ (min (Apj 1) (Apv .u64))))) (Api .i64 ((Api .i64 (Aqd (Api .u64 (Api .i64 (a1.toInt+b3.toInt))) (2 ^ (min (Apj 1) (Apv .u64)))))+mm2.toInt)) a1.toInt mm2.toInt (Api .i64 ((Api .i64 ((Api .i64 (Aqd (Api .u64 (Api .i64 (a1.toInt+b3.toInt))) (2 ^ (min (Apj 1) (Apv .u64)))))+mm2.toInt))-1)))))):=by kernel_rfl
def BX:List (Nat×Orc):=[(2,⟨[(0,some 23),(1,some 23),(9,some 23),(10,none),(11,none)],[],[]⟩)]
noncomputable def BW(n m2:Nat)(s10 s21 t9:D)(t10 t11:Int):Tree :=
 lA (eA BX n 256 [1,0,1,0,0]) (Al BX 2) m2 ⟨(.d 23 s10:: .d 23 s21::uA 7++(.d 23 t9:: .i .i64 t10:: .i .i64 t11::uA 24)),[],[],[],[]⟩
  (Aj 0 (An (jA BX n 256 [1,1]) (rA 256 [23,23] [.tmp 4] [3])))
theorem Abx(n m2:Nat)(s10 s21 t9:D)(t10 t11:Int):BW n (m2+1) s10 s21 t9 t10 t11 =
 bK (t11<t10) (kK (0≤t11) (kK (t11<(t9.els.length:Int)) (bK ((s21.els.length:Int)≤t11) (.ret [D.int 1])
 (kK (0≤t11) (kK (t11<(s21.els.length:Int)) (cK 218 [D.int ((t9.els.getD (Apj t11) D.nil).toInt),D.int ((s21.els.getD (Apj t11) D.nil).toInt)] fun Y1 =>
 .br (((qA Y1).toInt)!=0) (.ret [D.int ((qA Y1).toInt)])
 (BW n m2 s10 s21 t9 t10 (Api .i64 (t11+1)))))))))
 (bK ((s10.els.length:Int)<(s21.els.length:Int)) (.ret [D.int (-1)])
 (.ret [D.int 0])):=by kernel_rfl
theorem AmI(n:Nat)(s10 s21:D):fA BX n 256 [] [s10,s21] =
 BW n n s10 s21 s10 (s10.els.length:Int) 0:=by kernel_rfl
def CB:List (Nat×Orc):=[(4,⟨[(1,some 24),(2,some 77),(15,some 24),(16,none),(17,none)],[],[]⟩)]
noncomputable def CA(n m4:Nat)(s21 eq2 t15:D)(t16 t17:Int):Tree :=
 lA (eA CB n 272 [1,1,0,1,0,0]) (Al CB 4) m4 ⟨(.undef:: .d 24 s21:: .d 77 eq2::uA 12++(.d 24 t15:: .i .i64 t16:: .i .i64 t17::uA 14)),[],[],[],[]⟩
  (Aj 0 (An (jA CB n 272 [1,1,1]) (rA 272 [24,24,77] [.tmp 6] [4])))
theorem Abz(n m4:Nat)(s21 eq2_c0 t15:D)(t16 t17:Int):CA n (m4+1) s21 (D.fn 273 [.ref 4] [eq2_c0]) t15 t16 t17 =
 bK (t17<t16) (kK (0≤t17) (kK (t17<(t15.els.length:Int)) (kK (0≤t17) (kK (t17<(s21.els.length:Int)) (.call (D.fn 273 [.ref 4] [eq2_c0]).fnId (D.fn 273 [.ref 4] [eq2_c0]).fnCts ([t15.els.getD (Apj t17) D.nil,s21.els.getD (Apj t17) D.nil]++(D.fn 273 [.ref 4] [eq2_c0]).fnDs) fun Y1 =>
 .br (!((qA Y1).toBool)) (.ret [D.bool false])
 (CA n m4 s21 (D.fn 273 [.ref 4] [eq2_c0]) t15 t16 (Api .i64 (t17+1))))))))
 (.ret [D.bool true]):=by kernel_rfl
theorem AmP(n:Nat)(s10 s21 eq2_c0:D):fA CB n 272 [] [s10,s21,(D.fn 273 [.ref 4] [eq2_c0])] =
 .br ((s10.els.length:Int)!=(s21.els.length:Int)) (.ret [D.bool false])
 (CA n n s21 (D.fn 273 [.ref 4] [eq2_c0]) s10 (s10.els.length:Int) 0):=by kernel_rfl
def BZ:List (Nat×Orc):=[(4,⟨[(1,some 65),(2,some 44),(15,some 65),(16,none),(17,none)],[],[]⟩)]
noncomputable def BY(n m4:Nat)(s21 eq2 t15:D)(t16 t17:Int):Tree :=
 lA (eA BZ n 275 [1,1,0,1,0,0]) (Al BZ 4) m4 ⟨(.undef:: .d 65 s21:: .d 44 eq2::uA 12++(.d 65 t15:: .i .i64 t16:: .i .i64 t17::uA 14)),[],[],[],[]⟩
  (Aj 0 (An (jA BZ n 275 [1,1,1]) (rA 275 [65,65,44] [.tmp 6] [4])))
theorem Aby(n m4:Nat)(s21 eq2_c0 t15:D)(t16 t17:Int):BY n (m4+1) s21 (D.fn 276 [.ref 4] [eq2_c0]) t15 t16 t17 =
 bK (t17<t16) (kK (0≤t17) (kK (t17<(t15.els.length:Int)) (kK (0≤t17) (kK (t17<(s21.els.length:Int)) (.call (D.fn 276 [.ref 4] [eq2_c0]).fnId (D.fn 276 [.ref 4] [eq2_c0]).fnCts ([t15.els.getD (Apj t17) D.nil,s21.els.getD (Apj t17) D.nil]++(D.fn 276 [.ref 4] [eq2_c0]).fnDs) fun Y1 =>
 .br (!((qA Y1).toBool)) (.ret [D.bool false])
 (BY n m4 s21 (D.fn 276 [.ref 4] [eq2_c0]) t15 t16 (Api .i64 (t17+1))))))))
 (.ret [D.bool true]):=by kernel_rfl
theorem AmO(n:Nat)(s10 s21 eq2_c0:D):fA BZ n 275 [] [s10,s21,(D.fn 276 [.ref 4] [eq2_c0])] =
 .br ((s10.els.length:Int)!=(s21.els.length:Int)) (.ret [D.bool false])
 (BY n n s21 (D.fn 276 [.ref 4] [eq2_c0]) s10 (s10.els.length:Int) 0):=by kernel_rfl
def CK:List (Nat×Orc):=[(2,⟨[(0,none),(2,none),(4,some 107),(10,none),(11,none)],[],[(.slot 0,0,3)]⟩)]
noncomputable def Ub(n m2:Nat)(data0:List D)(mm2:Int)(cmp4:D)(i10 j11:Int):Tree :=
 lA (eA CK n 300 [1,1,0,0,0]) (Al CK 2) m2 ⟨(.row 0:: .undef:: .i .i64 mm2:: .undef:: .d 107 cmp4::uA 5++(.i .i64 i10:: .i .i64 j11::uA 46)),[(0,.row 3 data0 true)],[0],[],[0]⟩
  (Aj 0 (An (jA CK n 300 [1,1,1]) (rA 300 [23,3,3,3,107] [] [])))
theorem Anc(n m2:Nat)(data0:List D)(mm2:Int)(cmp4_c0 cmp4_c1:D)(i10 j11:Int):Ub n (m2+1) data0 mm2 (D.fn 156 [.ref 4,.ref 26] [cmp4_c0,cmp4_c1]) i10 j11 =
 .br (i10 != j11) (bK (j11<i10) (cK 322 [D.sl data0,D.int (Api .i64 (mm2-i10)),D.int mm2,D.int j11,(D.fn 156 [.ref 4,.ref 26] [cmp4_c0,cmp4_c1])] fun Y1 =>
 Ub n m2 ((qA Y1).els) mm2 (D.fn 156 [.ref 4,.ref 26] [cmp4_c0,cmp4_c1]) (Api .i64 (i10-j11)) j11)
 (cK 322 [D.sl data0,D.int (Api .i64 (mm2-i10)),D.int (Api .i64 ((Api .i64 (mm2+j11))-i10)),D.int i10,(D.fn 156 [.ref 4,.ref 26] [cmp4_c0,cmp4_c1])] fun Y2 =>
 Ub n m2 ((qA Y2).els) mm2 (D.fn 156 [.ref 4,.ref 26] [cmp4_c0,cmp4_c1]) i10 (Api .i64 (j11-i10))))
 (cK 322 [D.sl data0,D.int (Api .i64 (mm2-i10)),D.int mm2,D.int i10,(D.fn 156 [.ref 4,.ref 26] [cmp4_c0,cmp4_c1])] fun Y3 =>
 .ret [D.sl ((qA Y3).els)]):=by kernel_rfl
theorem Ane(n:Nat)(data0 a1:D)(mm2 b3:D)(cmp4_c0 cmp4_c1:D):fA CK n 300 [] [data0,a1,mm2,b3,(D.fn 156 [.ref 4,.ref 26] [cmp4_c0,cmp4_c1])] =
 Ub n n data0.els mm2.toInt (D.fn 156 [.ref 4,.ref 26] [cmp4_c0,cmp4_c1]) (Api .i64 (mm2.toInt-a1.toInt)) (Api .i64 (b3.toInt-mm2.toInt)):=by kernel_rfl
def CF:List (Nat×Orc):=[(4,⟨[(0,some 62),(1,some 62),(12,none),(13,none)],[],[]⟩)]
noncomputable def CE(n m4:Nat)(s10 s21:D)(t12 t13:Int):Tree :=
 lA (eA CF n 312 [1,1,0,1,0,0]) (Al CF 4) m4 ⟨(.d 62 s10:: .d 62 s21::uA 10++(.i .i64 t12:: .i .i64 t13::uA 12)),[],[],[],[]⟩
  (Aj 0 (An (jA CF n 312 [1,1,1]) (rA 312 [62,62] [.tmp 4] [4])))
theorem AmS(n m4:Nat)(s10 s21:D)(t12 t13:Int):CE n (m4+1) s10 s21 t12 t13 =
 bK (t13<t12) (kK (0≤t13) (kK (t13<(s10.els.length:Int)) (kK (0≤t13) (kK (t13<(s21.els.length:Int)) (.br (((s10.els.getD (Apj t13) D.nil).toInt)!=((s21.els.getD (Apj t13) D.nil).toInt)) (.ret [D.bool false])
 (CE n m4 s10 s21 t12 (Api .i64 (t13+1))))))))
 (.ret [D.bool true]):=by kernel_rfl
theorem AmT(n:Nat)(s10 s21:D):fA CF n 312 [] [s10,s21] =
 .br ((s10.els.length:Int)!=(s21.els.length:Int)) (.ret [D.bool false])
 (CE n n s10 s21 (s10.els.length:Int) 0):=by kernel_rfl
def LQ:List (Nat×Orc):=[(1,⟨[(0,none),(1,none),(2,none),(3,none),(10,none)],[],[(.slot 0,0,3)]⟩)]
noncomputable def CO(n m1:Nat)(data0:List D)(a1 b2:Int)(nn3 i10:Int):Tree :=
 lA (eA LQ n 322 [1,0,0]) (Al LQ 1) m1 ⟨(.row 0:: .i .i64 a1:: .i .i64 b2:: .i .i64 nn3::uA 6++(.i .i64 i10::uA 27)),[(0,.row 3 data0 true)],[0],[],[0]⟩
  (Aj 0 (rA 322 [23,3,3,3,107] [] []))
theorem Ab8(n m1:Nat)(data0:List D)(a1 b2:Int)(nn3 i10:Int):CO n (m1+1) data0 a1 b2 nn3 i10 =
 bK (i10<nn3) (kK (0≤Api .i64 (b2+i10)) (kK (Api .i64 (b2+i10)<(data0.length:Int)) (kK (0≤Api .i64 (a1+i10)) (kK (Api .i64 (a1+i10)<(data0.length:Int)) (kK (0≤Api .i64 (a1+i10)) (kK (Api .i64 (a1+i10)<(data0.length:Int)) (kK (0≤Api .i64 (b2+i10)) (kK (Api .i64 (b2+i10)<((data0.set (Apj (Api .i64 (a1+i10))) (D.int ((data0.getD (Apj (Api .i64 (b2+i10))) D.nil).toInt))).length:Int)) (CO n m1 ((data0.set (Apj (Api .i64 (a1+i10))) (D.int ((data0.getD (Apj (Api .i64 (b2+i10))) D.nil).toInt))).set (Apj (Api .i64 (b2+i10))) (D.int ((data0.getD (Apj (Api .i64 (a1+i10))) D.nil).toInt))) a1 b2 nn3 (Api .i64 (i10+1)))))))))))
 (.ret [D.sl data0]):=by kernel_rfl
theorem Anj(n:Nat)(data0 a1:D)(b2 nn3:D)(cmp4_c0 cmp4_c1:D):fA LQ n 322 [] [data0,a1,b2,nn3,(D.fn 156 [.ref 4,.ref 26] [cmp4_c0,cmp4_c1])] =
 CO n n data0.els a1.toInt b2.toInt nn3.toInt 0:=by kernel_rfl
def AF:List (Nat×Orc):=[(6,⟨[(4,none),(5,none),(6,none)],[(4,true)],[]⟩)]
noncomputable def To(n m6:Nat)(nn5 i6:Int)(x4:D):Tree :=
 lA (eA AF n 163 [1,1,1,1,0,1,0,0]) (Al AF 6) m6 ⟨(uA 4++(.ptr 4 []:: .i .i64 nn5:: .i .i64 i6::uA 47)),[(4,.var 139 (.d 139 x4) true)],[4],[],[]⟩
  (Aj 0 (An (jA AF n 163 [1,1,1,1,1]) (rA 163 [139] [.tmp 2,.tmp 3] [3,4])))
theorem ZF(n m6:Nat)(nn5 i6:Int)(x4:D):To n (m6+1) nn5 i6 x4 =
 bK (0≤i6) (.br ((x4.fld 0).toBool) (kK (0≤i6) (kK (i6<(((x4.fld 1).els).length:Int)) (To n m6 (Api .i64 ((Api .i64 (nn5*4294967296))-(Api .i64 ((((x4.fld 1).els).getD (Apj i6) D.nil).toInt)))) (Api .i64 (i6-1)) x4)))
 (kK (0≤i6) (kK (i6<(((x4.fld 1).els).length:Int)) (To n m6 (Api .i64 ((Api .i64 (nn5*4294967296))+(Api .i64 ((((x4.fld 1).els).getD (Apj i6) D.nil).toInt)))) (Api .i64 (i6-1)) x4))))
 (.ret [D.int nn5,D.bool true]):=by kernel_rfl
theorem AkI(n:Nat)(a0:D):fA AF n 163 [] [a0] =
 cK 223 [a0] fun Y1 =>
 bK (2<((((qA Y1).fld 1).els).length:Int)) (.ret [D.int 0,D.bool false])
 (cK 225 [D.int 9223372036854775807] fun Y2 =>
 cK 224 [qA Y1,qA Y2] fun Y3 =>
 bK (0<((qA Y3).toInt)) (.ret [D.int 0,D.bool false])
 (cK 225 [D.int (-9223372036854775808)] fun Y4 =>
 cK 224 [qA Y1,qA Y4] fun Y5 =>
 bK (((qA Y5).toInt)<0) (.ret [D.int 0,D.bool false])
 (To n n 0 (Api .i64 (((((qA Y1).fld 1).els).length:Int)-1)) (qA Y1)))):=by kernel_rfl
theorem AkD(n:Nat)(a0:D):fA [] n 223 [] [a0] =
 cK 265 [a0.fld 1] fun Y1 =>
 .br ((((qA Y1).els).length:Int)==0) (.ret [D.agg [D.bool false,D.sl []]])
 (.ret [D.agg [D.bool ((a0.fld 0).toBool),qA Y1]]):=by kernel_rfl
theorem AkA(n:Nat)(a0 b1:D):fA [] n 224 [] [a0,b1] =
 cK 267 [a0,b1] fun Y1 =>
 cK 266 [qA Y1] fun Y2 =>
 .ret [D.int ((qA Y2).toInt)]:=by kernel_rfl
theorem AkE(n:Nat)(nn0:D):fA [] n 225 [] [nn0] =
 bK (0≤nn0.toInt) (.br (!(4294967296 == (0:Int))) (.br (!(4294967296 == (0:Int))) (cK 223 [D.agg [D.bool false,D.sl [D.int (Api .u32 (Int.tmod nn0.toInt 4294967296)),D.int (Api .u32 (Api .i64 (Int.tdiv nn0.toInt 4294967296)))]]] fun Y1 =>
 .ret [qA Y1]) .fail) .fail)
 (.br (!(4294967296 == (0:Int))) (.br (!(4294967296 == (0:Int))) (cK 268 [D.sl [D.int (Api .u32 (Int.tmod (Api .i64 ((-1)-nn0.toInt)) 4294967296)),D.int (Api .u32 (Api .i64 (Int.tdiv (Api .i64 ((-1)-nn0.toInt)) 4294967296)))],D.sl [D.int 1]] fun Y2 =>
 cK 223 [D.agg [D.bool true,qA Y2]] fun Y3 =>
 .ret [qA Y3]) .fail) .fail):=by kernel_rfl
def DL:List (Nat×Orc):=[(6,⟨[(1,none),(4,none),(14,some 62),(15,none),(16,none)],[(1,true)],[]⟩)]
noncomputable def Rj(n m6:Nat)(size4:Int)(t14:D)(t15 t16:Int)(a1:D):Tree :=
 lA (eA DL n 228 [1,1,1,1,0,1,0,0]) (Al DL 6) m6 ⟨(.undef:: .ptr 1 []:: .undef:: .undef:: .i .u64 size4::uA 9++(.d 62 t14:: .i .i64 t15:: .i .i64 t16::uA 24)),[(1,.var 187 (.d 187 a1) true)],[1],[],[]⟩
  (Aj 0 (An (jA DL n 228 [1,1,1,1,1]) (rA 228 [187] [.tmp 2,.tmp 3] [3,4])))
theorem Ac5(n m6:Nat)(size4:Int)(t14:D)(t15 t16:Int)(a1:D):Rj n (m6+1) size4 t14 t15 t16 a1 =
 bK (t16<t15) (kK (0≤t16) (kK (t16<(t14.els.length:Int)) (kK (0≤Api .u64 (Api .i64 (32*t16))) (Rj n m6 (Br .or .u64 size4 (Api .u64 ((Api .u64 ((t14.els.getD (Apj t16) D.nil).toInt))*2 ^ (min (Apj (Api .u64 (Api .i64 (32*t16)))) (Apv .u64))))) t14 t15 (Api .i64 (t16+1)) a1))))
 (.br ((a1.fld 0).toBool) (bK (9223372036854775808<size4) (.ret [D.int 0,D.bool false])
 (.ret [D.int (Api .i64 (Api .u64 (0-size4))),D.bool true]))
 (bK (9223372036854775807<size4) (.ret [D.int 0,D.bool false])
 (.ret [D.int (Api .i64 size4),D.bool true]))):=by kernel_rfl
theorem AoT(n:Nat)(a0:D):fA DL n 228 [] [a0] =
 cK 269 [a0] fun Y1 =>
 bK (2<((((qA Y1).fld 1).els).length:Int)) (.ret [D.int 0,D.bool false])
 (Rj n n 0 ((qA Y1).fld 1) ((((qA Y1).fld 1).els).length:Int) 0 (qA Y1)):=by kernel_rfl
theorem AoP(n:Nat)(nn0:D):fA [] n 246 [] [nn0] =
 bK (nn0.toInt<0) (kK (0≤32) (cK 299 [D.sl [D.int (Api .u32 (Api .u64 (0-(Api .u64 nn0.toInt)))),D.int (Api .u32 (Aqd (Api .u64 (0-(Api .u64 nn0.toInt))) (2 ^ (min (Apj 32) (Apv .u64)))))]] fun Y1 =>
 cK 298 [D.bool (decide (nn0.toInt<0)),D.sl ((qA Y1).els)] fun Y2 =>
 .ret [qA Y2]))
 (kK (0≤32) (cK 299 [D.sl [D.int (Api .u32 (Api .u64 nn0.toInt)),D.int (Api .u32 (Aqd (Api .u64 nn0.toInt) (2 ^ (min (Apj 32) (Apv .u64)))))]] fun Y3 =>
 cK 298 [D.bool (decide (nn0.toInt<0)),D.sl ((qA Y3).els)] fun Y4 =>
 .ret [qA Y4])):=by kernel_rfl
theorem AoK(n:Nat)(a0 b1:D):fA [] n 253 [] [a0,b1] =
 cK 301 [a0] fun Y1 =>
 cK 301 [b1] fun Y2 =>
 bK (((qA Y1).toInt)<((qA Y2).toInt)) (.ret [D.int (-1)])
 (bK (((qA Y2).toInt)<((qA Y1).toInt)) (.ret [D.int 1])
 (bK (((qA Y1).toInt)<0) (cK 302 [b1.fld 1,a0.fld 1] fun Y3 =>
 .ret [D.int ((qA Y3).toInt)])
 (cK 302 [a0.fld 1,b1.fld 1] fun Y4 =>
 .ret [D.int ((qA Y4).toInt)]))):=by kernel_rfl
theorem AoN(n:Nat)(a0 b1:D):fA [] n 254 [] [a0,b1] =
 cK 303 [a0.fld 1,b1.fld 1] fun Y1 =>
 cK 298 [D.bool (!(((a0.fld 0).toBool)==((b1.fld 0).toBool))),qA Y1] fun Y2 =>
 .ret [qA Y2]:=by kernel_rfl
theorem AkG(n:Nat)(a0:D):fA [] n 266 [] [a0] =
 cK 223 [a0] fun Y1 =>
 .br (((((qA Y1).fld 1).els).length:Int)==0) (.ret [D.int 0])
 (.br (((qA Y1).fld 0).toBool) (.ret [D.int (-1)])
 (.ret [D.int 1])):=by kernel_rfl
theorem AkK(n:Nat)(a0 b1:D):fA [] n 267 [] [a0,b1] =
 cK 309 [b1] fun Y1 =>
 cK 308 [a0,qA Y1] fun Y2 =>
 .ret [qA Y2]:=by kernel_rfl
theorem AoO(n:Nat)(a0:D):fA [] n 269 [] [a0] =
 cK 299 [a0.fld 1] fun Y1 =>
 cK 298 [D.bool ((a0.fld 0).toBool),D.sl ((qA Y1).els)] fun Y2 =>
 .ret [qA Y2]:=by kernel_rfl
theorem AoW(n:Nat)(neg0 mag1:D):fA [] n 298 [] [neg0,mag1] =
 .br ((mag1.els.length:Int)==0) (.ret [D.agg [D.bool false,D.sl []]])
 (.ret [D.agg [D.bool neg0.toBool,mag1]]):=by kernel_rfl
theorem AoR(n:Nat)(a0:D):fA [] n 301 [] [a0] =
 cK 302 [a0.fld 1,D.sl []] fun Y1 =>
 .br (((qA Y1).toInt)==0) (.ret [D.int 0])
 (.br ((a0.fld 0).toBool) (.ret [D.int (-1)])
 (.ret [D.int 1])):=by kernel_rfl
theorem AoM(n:Nat)(a0 b1:D):fA [] n 306 [] [a0,b1] =
 cK 323 [a0.fld 1,b1.fld 1] fun Y1 =>
 .br (!((qC Y1).toBool)) (.ret [D.agg [D.bool false,D.sl []],D.agg [D.bool false,D.sl []],D.bool false])
 (cK 298 [D.bool (!(((a0.fld 0).toBool)==((b1.fld 0).toBool))),qA Y1] fun Y2 =>
 cK 298 [D.bool ((a0.fld 0).toBool),qB Y1] fun Y3 =>
 .br (!(((a0.fld 0).toBool)==((b1.fld 0).toBool))) (bK (0<(((qB Y1).els).length:Int)) (cK 246 [D.int 1] fun Y4 =>
 cK 324 [qA Y2,qA Y4] fun Y5 =>
 cK 313 [qA Y3,b1] fun Y6 =>
 .ret [qA Y5,qA Y6,D.bool true])
 (.ret [qA Y2,qA Y3,D.bool true]))
 (.ret [qA Y2,qA Y3,D.bool true])):=by kernel_rfl
theorem Ak_(n:Nat)(a0 b1:D):fA [] n 308 [] [a0,b1] =
 cK 223 [a0] fun Y1 =>
 cK 223 [b1] fun Y2 =>
 .br ((((qA Y1).fld 0).toBool)==(((qA Y2).fld 0).toBool)) (cK 268 [(qA Y1).fld 1,(qA Y2).fld 1] fun Y3 =>
 cK 223 [D.agg [D.bool (((qA Y1).fld 0).toBool),qA Y3]] fun Y4 =>
 .ret [qA Y4])
 (cK 320 [(qA Y1).fld 1,(qA Y2).fld 1] fun Y5 =>
 bK (0≤((qA Y5).toInt)) (cK 297 [(qA Y1).fld 1,(qA Y2).fld 1] fun Y6 =>
 cK 223 [D.agg [D.bool (((qA Y1).fld 0).toBool),qA Y6]] fun Y7 =>
 .ret [qA Y7])
 (cK 297 [(qA Y2).fld 1,(qA Y1).fld 1] fun Y8 =>
 cK 223 [D.agg [D.bool (((qA Y2).fld 0).toBool),qA Y8]] fun Y9 =>
 .ret [qA Y9])):=by kernel_rfl
theorem AkC(n:Nat)(a0:D):fA [] n 309 [] [a0] =
 cK 223 [D.agg [D.bool (!((a0.fld 0).toBool)),a0.fld 1]] fun Y1 =>
 .ret [qA Y1]:=by kernel_rfl
theorem AoJ(n:Nat)(a0 b1:D):fA [] n 313 [] [a0,b1] =
 .br (((a0.fld 0).toBool)==((b1.fld 0).toBool)) (cK 325 [a0.fld 1,b1.fld 1] fun Y1 =>
 cK 298 [D.bool ((a0.fld 0).toBool),qA Y1] fun Y2 =>
 .ret [qA Y2])
 (cK 326 [a0.fld 1,b1.fld 1] fun Y3 =>
 .br ((qB Y3).toBool) (cK 298 [D.bool ((a0.fld 0).toBool),qA Y3] fun Y4 =>
 .ret [qA Y4])
 (cK 326 [b1.fld 1,a0.fld 1] fun Y5 =>
 cK 298 [D.bool ((b1.fld 0).toBool),qA Y5] fun Y6 =>
 .ret [qA Y6])):=by kernel_rfl
def DI:List (Nat×Orc):=[(4,⟨[(1,none),(4,none),(6,none),(7,none)],[(4,false),(6,true),(7,true)],[]⟩)]
noncomputable def Oy(n m4:Nat)(nn1:Int)(t4_0:Bool)(out6 factor7:D):Tree :=
 lA (eA DI n 314 [1,1,1,0,0,0]) (Al DI 4) m4 ⟨(.undef:: .i .i64 nn1:: .undef:: .undef:: .ptr 4 []:: .undef:: .ptr 6 []:: .ptr 7 []::uA 32),[(4,.var 187 (.agg 187 [.b t4_0,.mt]) true),(6,.var 187 (.d 187 out6) true),(7,.var 187 (.d 187 factor7) true)],[4,6,7],[],[]⟩
  (Aj 0 (An (jA DI n 314 [1,1,1,1]) (rA 314 [187,3] [.cell 4 187,.tmp 5] [187,29])))
theorem Ac4(n m4:Nat)(nn1:Int)(t4_0:Bool)(out6 factor7:D):Oy n (m4+1) nn1 t4_0 out6 factor7 =
 bK (0<nn1) (bK (32<(((factor7.fld 1).els).length:Int)) (.ret [D.agg [D.bool false,D.sl []],D.int 7])
 (.br ((Br .and .i64 nn1 1)==1) (cK 254 [out6,factor7] fun Y3 =>
 bK (32<((((qA Y3).fld 1).els).length:Int)) (.ret [D.agg [D.bool false,D.sl []],D.int 7])
 (kK (0≤1) (bK (0<(Aqd nn1 (2 ^ (min (Apj 1) (Apv .i64))))) (cK 254 [factor7,factor7] fun Y4 =>
 Oy n m4 (Aqd nn1 (2 ^ (min (Apj 1) (Apv .i64)))) t4_0 (qA Y3) (qA Y4))
 (Oy n m4 (Aqd nn1 (2 ^ (min (Apj 1) (Apv .i64)))) t4_0 (qA Y3) factor7))))
 (bK (32<(((out6.fld 1).els).length:Int)) (.ret [D.agg [D.bool false,D.sl []],D.int 7])
 (kK (0≤1) (bK (0<(Aqd nn1 (2 ^ (min (Apj 1) (Apv .i64))))) (cK 254 [factor7,factor7] fun Y5 =>
 Oy n m4 (Aqd nn1 (2 ^ (min (Apj 1) (Apv .i64)))) t4_0 out6 (qA Y5))
 (Oy n m4 (Aqd nn1 (2 ^ (min (Apj 1) (Apv .i64)))) t4_0 out6 factor7))))))
 (.ret [out6,D.int 0]):=by kernel_rfl
theorem AoQ(n:Nat)(a0 nn1:D):fA DI n 314 [] [a0,nn1] =
 bK (nn1.toInt<0) (.ret [D.agg [D.bool false,D.sl []],D.int 3])
 (cK 246 [D.int 1] fun Y1 =>
 cK 269 [a0] fun Y2 =>
 Oy n n nn1.toInt false (qA Y1) (qA Y2)):=by kernel_rfl
theorem AoV(n:Nat)(a0 b1:D):fA [] n 324 [] [a0,b1] =
 cK 313 [a0,D.agg [D.bool (!((b1.fld 0).toBool)),b1.fld 1]] fun Y1 =>
 .ret [qA Y1]:=by kernel_rfl
def AA:List (Nat×Orc):=[(4,⟨[(0,some 62),(1,some 62),(5,none)],[],[]⟩)]
noncomputable def Z_(n m4:Nat)(a0 b1:D)(i5:Int):Tree :=
 lA (eA AA n 211 [1,1,0,1,0,0]) (Al AA 4) m4 ⟨(.d 62 a0:: .d 62 b1::uA 3++(.i .i64 i5::uA 20)),[],[],[],[]⟩
  (Aj 0 (An (jA AA n 211 [1,1,1]) (rA 211 [62,62] [.tmp 4] [4])))
theorem Ak3(n m4:Nat)(a0 b1:D)(i5:Int):Z_ n (m4+1) a0 b1 i5 =
 bK (i5<(a0.els.length:Int)) (kK (0≤i5) (kK (i5<(a0.els.length:Int)) (kK (0≤i5) (kK (i5<(b1.els.length:Int)) (.br (((a0.els.getD (Apj i5) D.nil).toInt)!=((b1.els.getD (Apj i5) D.nil).toInt)) (.ret [D.bool false])
 (Z_ n m4 a0 b1 (Api .i64 (i5+1))))))))
 (.ret [D.bool true]):=by kernel_rfl
theorem Ak4(n:Nat)(a0 b1:D):fA AA n 211 [] [a0,b1] =
 .br ((a0.els.length:Int)!=(b1.els.length:Int)) (.ret [D.bool false])
 (Z_ n n a0 b1 0):=by kernel_rfl
theorem AdC(n:Nat)(x0 y1:D):fA [] n 231 [] [x0,y1] =
 cK 271 [D.int x0.toInt,D.int y1.toInt] fun Y1 =>
 .ret [D.int ((qA Y1).toInt),D.int ((qB Y1).toInt)]:=by kernel_rfl
def Z7:List (Nat×Orc):=[(3,⟨[(5,some 62),(6,some 62),(7,none)],[],[]⟩)]
noncomputable def Ok(n m3:Nat)(x5 y6:D)(k7:Int):Tree :=
 lA (eA Z7 n 243 [1,1,0,1,0,0]) (Al Z7 3) m3 ⟨(uA 5++(.d 62 x5:: .d 62 y6:: .i .i64 k7::uA 26)),[],[],[],[]⟩
  (Aj 0 (An (jA Z7 n 243 [1,1,1]) (rA 243 [62,62] [.tmp 4] [62])))
theorem KI(n m3:Nat)(x5 y6:D)(k7:Int):Ok n (m3+1) x5 y6 k7 =
 bK (k7<100000) (bK (0<(y6.els.length:Int)) (cK 244 [x5,y6] fun Y3 =>
 Ok n m3 y6 (qB Y3) (Api .i64 (k7+1)))
 (.ret [x5]))
 (.ret [x5]):=by kernel_rfl
theorem Ak1(n:Nat)(a0 b1:D):fA Z7 n 243 [] [a0,b1] =
 cK 265 [a0] fun Y1 =>
 cK 265 [b1] fun Y2 =>
 Ok n n (qA Y1) (qA Y2) 0:=by kernel_rfl
def Z6:List (Nat×Orc):=[(5,⟨[(0,some 62),(1,some 62),(7,some 62),(8,some 62),(9,none)],[],[]⟩)]
noncomputable def Tm(n m5:Nat)(a0 b1:D)(q7 r8:D)(i9:Int):Tree :=
 lA (eA Z6 n 244 [1,1,1,0,1,0,0]) (Al Z6 5) m5 ⟨(.d 62 a0:: .d 62 b1::uA 5++(.d 62 q7:: .d 62 r8:: .i .i64 i9::uA 33)),[],[],[],[]⟩
  (Aj 0 (An (jA Z6 n 244 [1,1,1,1]) (rA 244 [62,62] [.tmp 4,.tmp 5,.tmp 6] [62,62,4])))
theorem YZ(n m5:Nat)(a0 b1:D)(q7 r8:D)(i9:Int):Tm n (m5+1) a0 b1 q7 r8 i9 =
 bK (0≤i9) (cK 296 [a0,D.int i9] fun Y2 =>
 cK 295 [r8,D.int ((qA Y2).toInt)] fun Y3 =>
 cK 297 [qA Y3,b1] fun Y4 =>
 .br ((qB Y4).toBool) (cK 295 [q7,D.int 1] fun Y5 =>
 Tm n m5 a0 b1 (qA Y5) (qA Y4) (Api .i64 (i9-1)))
 (cK 295 [q7,D.int 0] fun Y6 =>
 Tm n m5 a0 b1 (qA Y6) (qA Y3) (Api .i64 (i9-1))))
 (.ret [q7,r8,D.bool true]):=by kernel_rfl
theorem Akz(n:Nat)(a0 b1:D):fA Z6 n 244 [] [a0,b1] =
 cK 265 [b1] fun Y1 =>
 .br ((((qA Y1).els).length:Int)==0) (.ret [D.sl [],D.sl [],D.bool false])
 (Tm n n a0 b1 (D.sl []) (D.sl []) (Api .i64 ((Api .i64 (32*(a0.els.length:Int)))-1))):=by kernel_rfl
def Z9:List (Nat×Orc):=[(2,⟨[(0,some 62),(3,none)],[],[]⟩)]
noncomputable def Z8(n m2:Nat)(a0:D)(nn3:Int):Tree :=
 lA (eA Z9 n 265 [1,1,0,0,0]) (Al Z9 2) m2 ⟨(.d 62 a0:: .undef:: .undef:: .i .i64 nn3::uA 20),[],[],[],[]⟩
  (Aj 0 (An (jA Z9 n 265 [1,1,1]) (rA 265 [62] [.tmp 2] [62])))
theorem ZA(n m2:Nat)(a0:D)(nn3:Int):Z8 n (m2+1) a0 nn3 =
 bK (0<nn3) (kK (0≤Api .i64 (nn3-1)) (kK (Api .i64 (nn3-1)<(a0.els.length:Int)) (.br (((a0.els.getD (Apj (Api .i64 (nn3-1))) D.nil).toInt)==0) (Z8 n m2 a0 (Api .i64 (nn3-1)))
 (kK (0≤nn3) (kK (nn3≤(a0.els.length:Int)) (kK ((a0.els.take (Apj nn3)).length≤Ak) (.ret [D.sl (a0.els.take (Apj nn3))])))))))
 (kK (0≤nn3) (kK (nn3≤(a0.els.length:Int)) (kK ((a0.els.take (Apj nn3)).length≤Ak) (.ret [D.sl (a0.els.take (Apj nn3))])))):=by kernel_rfl
theorem Ak2(n:Nat)(a0:D):fA Z9 n 265 [] [a0] =
 Z8 n n a0 (a0.els.length:Int):=by kernel_rfl
def Z1:List (Nat×Orc):=[(4,⟨[(0,some 62),(1,some 62),(5,none),(6,none),(7,none)],[],[(.slot 5,1040,180)]⟩)]
noncomputable def Z0(n m4:Nat)(a0 b1:D)(out5:List D)(carry6 i7:Int):Tree :=
 lA (eA Z1 n 268 [1,1,1,0,1,0,0]) (Al Z1 4) m4 ⟨(.d 62 a0:: .d 62 b1::uA 3++(.row 1040:: .i .u64 carry6:: .i .i64 i7::uA 27)),[(1040,.row 180 out5 true)],[1040],[],[]⟩
  (Aj 0 (An (jA Z1 n 268 [1,1,1,1]) (rA 268 [62,62] [.tmp 4] [62])))
theorem YU(n m4:Nat)(a0 b1:D)(out5:List D)(carry6 i7:Int):Z0 n (m4+1) a0 b1 out5 carry6 i7 =
 cK 310 [a0,b1] fun Y1 =>
 bK (i7≤((qA Y1).toInt)) (cK 311 [a0,D.int i7] fun Y2 =>
 cK 311 [b1,D.int i7] fun Y3 =>
 .br (!(4294967296 == (0:Int))) (kK (out5.length + [D.int (Api .u32 (Int.tmod (Api .u64 ((Api .u64 (((qA Y2).toInt)+((qA Y3).toInt)))+carry6)) 4294967296))].length≤Ak) (.br (!(4294967296 == (0:Int))) (Z0 n m4 a0 b1 (out5++[D.int (Api .u32 (Int.tmod (Api .u64 ((Api .u64 (((qA Y2).toInt)+((qA Y3).toInt)))+carry6)) 4294967296))]) (Api .u64 (Int.tdiv (Api .u64 ((Api .u64 (((qA Y2).toInt)+((qA Y3).toInt)))+carry6)) 4294967296)) (Api .i64 (i7+1))) .fail)) .fail)
 (cK 265 [D.sl out5] fun Y4 =>
 .ret [qA Y4]):=by kernel_rfl
theorem Akv(n:Nat)(a0 b1:D):fA Z1 n 268 [] [a0,b1] =
 Z0 n n a0 b1 [] 0 0:=by kernel_rfl
theorem AdB(n:Nat)(x0 y1:D):fA [] n 271 [] [x0,y1] =
 kK (0≤32) (kK (0≤32) (kK (0≤32) (kK (0≤32) (kK (0≤32) (.ret [D.int (Api .u64 ((Api .u64 ((Api .u64 ((Aqd x0.toInt (2 ^ (min (Apj 32) (Apv .u64))))*(Aqd y1.toInt (2 ^ (min (Apj 32) (Apv .u64))))))+(Aqd (Api .u64 ((Api .u64 ((Aqd x0.toInt (2 ^ (min (Apj 32) (Apv .u64))))*(Br .and .u64 y1.toInt 4294967295)))+(Aqd (Api .u64 ((Br .and .u64 x0.toInt 4294967295)*(Br .and .u64 y1.toInt 4294967295))) (2 ^ (min (Apj 32) (Apv .u64)))))) (2 ^ (min (Apj 32) (Apv .u64))))))+(Aqd (Api .u64 ((Br .and .u64 (Api .u64 ((Api .u64 ((Aqd x0.toInt (2 ^ (min (Apj 32) (Apv .u64))))*(Br .and .u64 y1.toInt 4294967295)))+(Aqd (Api .u64 ((Br .and .u64 x0.toInt 4294967295)*(Br .and .u64 y1.toInt 4294967295))) (2 ^ (min (Apj 32) (Apv .u64)))))) 4294967295)+(Api .u64 ((Br .and .u64 x0.toInt 4294967295)*(Aqd y1.toInt (2 ^ (min (Apj 32) (Apv .u64)))))))) (2 ^ (min (Apj 32) (Apv .u64)))))),D.int (Api .u64 (x0.toInt*y1.toInt))]))))):=by kernel_rfl
def AE:List (Nat×Orc):=[(4,⟨[(0,some 62),(5,none),(6,none),(7,none)],[],[(.slot 5,1040,180)]⟩)]
noncomputable def AD(n m4:Nat)(a0:D)(out5:List D)(carry6 i7:Int):Tree :=
 lA (eA AE n 295 [1,1,1,0,1,0,0]) (Al AE 4) m4 ⟨(.d 62 a0::uA 4++(.row 1040:: .i .u64 carry6:: .i .i64 i7::uA 25)),[(1040,.row 180 out5 true)],[1040],[],[]⟩
  (Aj 0 (An (jA AE n 295 [1,1,1,1]) (rA 295 [62,180] [.tmp 4] [62])))
theorem ZD(n m4:Nat)(a0:D)(out5:List D)(carry6 i7:Int):AD n (m4+1) a0 out5 carry6 i7 =
 bK (i7≤(a0.els.length:Int)) (cK 311 [a0,D.int i7] fun Y1 =>
 .br (!(4294967296 == (0:Int))) (kK (out5.length + [D.int (Api .u32 (Int.tmod (Api .u64 ((Api .u64 (2*((qA Y1).toInt)))+carry6)) 4294967296))].length≤Ak) (.br (!(4294967296 == (0:Int))) (AD n m4 a0 (out5++[D.int (Api .u32 (Int.tmod (Api .u64 ((Api .u64 (2*((qA Y1).toInt)))+carry6)) 4294967296))]) (Api .u64 (Int.tdiv (Api .u64 ((Api .u64 (2*((qA Y1).toInt)))+carry6)) 4294967296)) (Api .i64 (i7+1))) .fail)) .fail)
 (cK 265 [D.sl out5] fun Y2 =>
 .ret [qA Y2]):=by kernel_rfl
theorem Ak8(n:Nat)(a0 bit1:D):fA AE n 295 [] [a0,bit1] =
 AD n n a0 [] (Api .u64 bit1.toInt) 0:=by kernel_rfl
def Z3:List (Nat×Orc):=[(3,⟨[(1,none),(5,none),(6,none)],[],[]⟩)]
noncomputable def Z2(n m3:Nat)(i1 w5 k6:Int):Tree :=
 lA (eA Z3 n 296 [1,1,0,1,0,0]) (Al Z3 3) m3 ⟨(.undef:: .i .i64 i1::uA 3++(.i .u64 w5:: .i .i64 k6::uA 15)),[],[],[],[]⟩
  (Aj 0 (An (jA Z3 n 296 [1,1,1]) (rA 296 [62,3] [.tmp 4] [180])))
theorem YW(n m3:Nat)(i1 w5 k6:Int):Z2 n (m3+1) i1 w5 k6 =
 .br (!(32 == (0:Int))) (bK (k6<(Int.tmod i1 32)) (.br (!(2 == (0:Int))) (Z2 n m3 i1 (Api .u64 (Int.tdiv w5 2)) (Api .i64 (k6+1))) .fail)
 (.br (!(2 == (0:Int))) (.ret [D.int (Api .u32 (Int.tmod w5 2))]) .fail)) .fail:=by kernel_rfl
theorem Akx(n:Nat)(a0 i1:D):fA Z3 n 296 [] [a0,i1] =
 .br (!(32 == (0:Int))) (cK 311 [a0,D.int (Api .i64 (Int.tdiv i1.toInt 32))] fun Y1 =>
 Z2 n n i1.toInt ((qA Y1).toInt) 0) .fail:=by kernel_rfl
def AC:List (Nat×Orc):=[(6,⟨[(0,some 62),(1,some 62),(6,none),(7,none),(8,none)],[],[(.slot 6,1060,180)]⟩)]
noncomputable def AB(n m6:Nat)(a0 b1:D)(out6:List D)(borrow7 i8:Int):Tree :=
 lA (eA AC n 297 [1,1,1,1,0,1,0,0]) (Al AC 6) m6 ⟨(.d 62 a0:: .d 62 b1::uA 4++(.row 1060:: .i .u64 borrow7:: .i .i64 i8::uA 33)),[(1060,.row 180 out6 true)],[1060],[],[]⟩
  (Aj 0 (An (jA AC n 297 [1,1,1,1,1]) (rA 297 [62,62] [.tmp 4,.tmp 5] [62,4])))
theorem ZC(n m6:Nat)(a0 b1:D)(out6:List D)(borrow7 i8:Int):AB n (m6+1) a0 b1 out6 borrow7 i8 =
 cK 310 [a0,b1] fun Y2 =>
 bK (i8<((qA Y2).toInt)) (cK 311 [a0,D.int i8] fun Y3 =>
 cK 311 [b1,D.int i8] fun Y4 =>
 .br (!(4294967296 == (0:Int))) (kK (out6.length + [D.int (Api .u32 (Int.tmod (Api .u64 ((Api .u64 ((Api .u64 (4294967296+((qA Y3).toInt)))-((qA Y4).toInt)))-borrow7)) 4294967296))].length≤Ak) (.br (!(4294967296 == (0:Int))) (AB n m6 a0 b1 (out6++[D.int (Api .u32 (Int.tmod (Api .u64 ((Api .u64 ((Api .u64 (4294967296+((qA Y3).toInt)))-((qA Y4).toInt)))-borrow7)) 4294967296))]) (Api .u64 (1-(Api .u64 (Int.tdiv (Api .u64 ((Api .u64 ((Api .u64 (4294967296+((qA Y3).toInt)))-((qA Y4).toInt)))-borrow7)) 4294967296)))) (Api .i64 (i8+1))) .fail)) .fail)
 (cK 265 [D.sl out6] fun Y5 =>
 .ret [qA Y5,D.bool true]):=by kernel_rfl
theorem Ak5(n:Nat)(a0 b1:D):fA AC n 297 [] [a0,b1] =
 cK 320 [a0,b1] fun Y1 =>
 bK (((qA Y1).toInt)<0) (.ret [D.sl [],D.bool false])
 (AB n n a0 b1 [] 0 0):=by kernel_rfl
theorem Ah8(n:Nat)(a0:D):fA [] n 299 [] [a0] =
 cK 321 [a0] fun Y1 =>
 kK (0≤(((qA Y1).els).length:Int)) (kK ((((qA Y1).els).length:Int)≤(((qA Y1).els).length:Int)) (kK ((((qA Y1).els).length:Int)≤Ak) (.ret [D.sl (((qA Y1).els).take (Apl (Apj (((qA Y1).els).length:Int)) (D.int 0)).length++(Apl (Apj (((qA Y1).els).length:Int)) (D.int 0)).drop ((qA Y1).els).length)]))):=by kernel_rfl
def X_:List (Nat×Orc):=[(7,⟨[(0,some 62),(1,some 62),(5,none)],[],[]⟩)]
noncomputable def X9(n m7:Nat)(a0 b1:D)(i5:Int):Tree :=
 lA (eA X_ n 302 [1,1,1,0,1,0,0]) (Al X_ 7) m7 ⟨(.d 62 a0:: .d 62 b1::uA 3++(.i .i64 i5::uA 43)),[],[],[],[]⟩
  (Aj 1 (An (jA X_ n 302 [1,1,1,1]) (rA 302 [62,62] [.tmp 4] [3])))
theorem UU(n m7:Nat)(a0 b1:D)(i5:Int):X9 n (m7+1) a0 b1 i5 =
 bK (0≤i5) (kK (0≤i5) (kK (i5<(a0.els.length:Int)) (kK (0≤i5) (kK (i5<(b1.els.length:Int)) (bK (((a0.els.getD (Apj i5) D.nil).toInt)<((b1.els.getD (Apj i5) D.nil).toInt)) (.ret [D.int (-1)])
 (kK (0≤i5) (kK (i5<(a0.els.length:Int)) (kK (0≤i5) (kK (i5<(b1.els.length:Int)) (bK (((b1.els.getD (Apj i5) D.nil).toInt)<((a0.els.getD (Apj i5) D.nil).toInt)) (.ret [D.int 1])
 (X9 n m7 a0 b1 (Api .i64 (i5-1)))))))))))))
 (.ret [D.int 0]):=by kernel_rfl
theorem Ah2(n:Nat)(a0 b1:D):fA X_ n 302 [] [a0,b1] =
 cK 321 [a0] fun Y1 =>
 cK 321 [b1] fun Y2 =>
 bK ((((qA Y1).els).length:Int)<(((qA Y2).els).length:Int)) (.ret [D.int (-1)])
 (bK ((((qA Y2).els).length:Int)<(((qA Y1).els).length:Int)) (.ret [D.int 1])
 (X9 n n (qA Y1) (qA Y2) (Api .i64 ((((qA Y1).els).length:Int)-1)))):=by kernel_rfl
def If:List (Nat×Orc):=[(6,⟨[(1,some 62),(5,none),(30,some 62),(31,none),(32,none)],[],[(.slot 5,1060,180)]⟩),(10,⟨[(1,some 62),(5,none),(6,none),(7,none),(8,none),(30,some 62),(31,none),(32,none),(37,some 62),(38,none),(39,none)],[],[(.slot 5,1100,180)]⟩)]
noncomputable def Yc(n m6 m10:Nat)(b1:D)(out5:List D)(i6 x7 carry8:Int)(t30:D)(t31 t32:Int)(t37:D)(t38 t39:Int):Tree :=
 lA (eA If n 303 [1,1,1,1,0,1,0,0,1,1,0,0,1,1,0,1,0,0]) (Al If 10) m10 ⟨(.undef:: .d 62 b1::uA 3++(.row 1100:: .i .i64 i6:: .i .u32 x7:: .i .u64 carry8::uA 21++(.d 62 t30:: .i .i64 t31:: .i .i64 t32::uA 4++(.d 62 t37:: .i .i64 t38:: .i .i64 t39::uA 40)))),[(1100,.row 180 out5 true)],[1100],[],[]⟩
  (Aj 2 (An (jA If n 303 [1,1,1,1,0,1,0,0,1,1,0,0,1,1,1]) (Aj 1 (An (jA If n 303 [1,1,1,1,0,1,0,0,1,1,1]) (Fs Tryz.prog md (Al If 6) (fun s1=>lA (eA If n 303 [1,1,1,1,0,1,0,0]) (Al If 6) m6 s1 (Aj 0 (An (jA If n 303 [1,1,1,1,1]) (rA 303 [62,62] [.tmp 4] [62])))) (Aj 0 (An (jA If n 303 [1,1,1,1,1]) (rA 303 [62,62] [.tmp 4] [62]))))))))
noncomputable def Yd(n m6:Nat)(b1:D)(out5:List D)(t30:D)(t31 t32:Int):Tree :=
 lA (eA If n 303 [1,1,1,1,0,1,0,0]) (Al If 6) m6 ⟨(.undef:: .d 62 b1::uA 3++(.row 1060::uA 24++(.d 62 t30:: .i .i64 t31:: .i .i64 t32::uA 47))),[(1060,.row 180 out5 true)],[1060],[],[]⟩
  (Aj 0 (An (jA If n 303 [1,1,1,1,1]) (rA 303 [62,62] [.tmp 4] [62])))
theorem UW(n m6 m10:Nat)(b1:D)(out5:List D)(i6 x7 carry8:Int)(t30:D)(t31 t32:Int)(t37:D)(t38 t39:Int):Yc n m6 (m10+1) b1 out5 i6 x7 carry8 t30 t31 t32 t37 t38 t39 =
 bK (t39<t38) (kK (0≤t39) (kK (t39<(t37.els.length:Int)) (kK (0≤Api .i64 (i6+t39)) (kK (Api .i64 (i6+t39)<(out5.length:Int)) (kK (0≤Api .i64 (i6+t39)) (kK (Api .i64 (i6+t39)<(out5.length:Int)) (kK (0≤32) (Yc n m6 m10 b1 (out5.set (Apj (Api .i64 (i6+t39))) (D.int (Api .u32 (Api .u64 ((Api .u64 ((Api .u64 ((Api .u64 x7)*(Api .u64 ((t37.els.getD (Apj t39) D.nil).toInt))))+(Api .u64 ((out5.getD (Apj (Api .i64 (i6+t39))) D.nil).toInt))))+carry8))))) i6 x7 (Aqd (Api .u64 ((Api .u64 ((Api .u64 ((Api .u64 x7)*(Api .u64 ((t37.els.getD (Apj t39) D.nil).toInt))))+(Api .u64 ((out5.getD (Apj (Api .i64 (i6+t39))) D.nil).toInt))))+carry8)) (2 ^ (min (Apj 32) (Apv .u64)))) t30 t31 t32 t37 t38 (Api .i64 (t39+1))))))))))
 (kK (0≤Api .i64 (i6+(b1.els.length:Int))) (kK (Api .i64 (i6+(b1.els.length:Int))<(out5.length:Int)) (Yd n m6 b1 (out5.set (Apj (Api .i64 (i6+(b1.els.length:Int)))) (D.int (Api .u32 carry8))) t30 t31 (Api .i64 (t32+1))))):=by kernel_rfl
theorem UX(n m6:Nat)(b1:D)(out5:List D)(t30:D)(t31 t32:Int):Yd n (m6+1) b1 out5 t30 t31 t32 =
 bK (t32<t31) (kK (0≤t32) (kK (t32<(t30.els.length:Int)) (Yc n m6 n b1 out5 t32 ((t30.els.getD (Apj t32) D.nil).toInt) 0 t30 t31 t32 b1 (b1.els.length:Int) 0)))
 (cK 321 [D.sl out5] fun Y3 =>
 .ret [qA Y3]):=by kernel_rfl
theorem Ah7(n:Nat)(a0 b1:D):fA If n 303 [] [a0,b1] =
 cK 321 [a0] fun Y1 =>
 cK 321 [b1] fun Y2 =>
 .br ((((qA Y1).els).length:Int)==0) (.ret [D.sl []])
 (.br ((((qA Y2).els).length:Int)==0) (.ret [D.sl []])
 (kK (0≤Api .i64 ((((qA Y1).els).length:Int)+(((qA Y2).els).length:Int))) (kK (Api .i64 ((((qA Y1).els).length:Int)+(((qA Y2).els).length:Int))≤Api .i64 ((((qA Y1).els).length:Int)+(((qA Y2).els).length:Int))) (kK (Api .i64 ((((qA Y1).els).length:Int)+(((qA Y2).els).length:Int))≤Ak) (Yd n n (qA Y2) (Apl (Apj (Api .i64 ((((qA Y1).els).length:Int)+(((qA Y2).els).length:Int)))) (D.int 0)) (qA Y1) (((qA Y1).els).length:Int) 0))))):=by kernel_rfl
theorem Ak7(n:Nat)(a0 b1:D):fA [] n 310 [] [a0,b1] =
 bK ((b1.els.length:Int)<(a0.els.length:Int)) (.ret [D.int (a0.els.length:Int)])
 (.ret [D.int (b1.els.length:Int)]):=by kernel_rfl
theorem Ak6(n:Nat)(a0 i1:D):fA [] n 311 [] [a0,i1] =
 bK (i1.toInt<(a0.els.length:Int)) (kK (0≤i1.toInt) (kK (i1.toInt<(a0.els.length:Int)) (.ret [D.int (Api .u64 ((a0.els.getD (Apj i1.toInt) D.nil).toInt))])))
 (.ret [D.int 0]):=by kernel_rfl
def Yb:List (Nat×Orc):=[(2,⟨[(0,some 62),(1,some 62)],[],[]⟩)]
noncomputable def S4(n m2:Nat)(a0 b1:D):Tree :=
 lA (eA Yb n 315 [1,1,0,0,0]) (Al Yb 2) m2 ⟨(.d 62 a0:: .d 62 b1::uA 37),[],[],[],[]⟩
  (Aj 0 (An (jA Yb n 315 [1,1,1]) (rA 315 [62,62] [.tmp 4] [62])))
theorem Ah4(n m2:Nat)(a0 b1:D):S4 n (m2+1) a0 b1 =
 bK (0<(b1.els.length:Int)) (bK ((a0.els.length:Int)≤2) (bK ((b1.els.length:Int)≤2) (cK 328 [a0] fun Y3 =>
 cK 328 [b1] fun Y4 =>
 cK 327 [D.int ((qA Y3).toInt),D.int ((qA Y4).toInt)] fun Y5 =>
 .ret [qA Y5])
 (cK 323 [a0,b1] fun Y6 =>
 S4 n m2 b1 (qB Y6)))
 (cK 323 [a0,b1] fun Y7 =>
 S4 n m2 b1 (qB Y7)))
 (cK 299 [a0] fun Y8 =>
 .ret [D.sl ((qA Y8).els)]):=by kernel_rfl
theorem Ah5(n:Nat)(a0 b1:D):fA Yb n 315 [] [a0,b1] =
 cK 321 [a0] fun Y1 =>
 cK 321 [b1] fun Y2 =>
 S4 n n (qA Y1) (qA Y2):=by kernel_rfl
def Z5:List (Nat×Orc):=[(2,⟨[(0,some 62),(1,some 62),(5,none)],[],[]⟩)]
noncomputable def Z4(n m2:Nat)(a0 b1:D)(i5:Int):Tree :=
 lA (eA Z5 n 320 [1,0,1,0,0]) (Al Z5 2) m2 ⟨(.d 62 a0:: .d 62 b1::uA 3++(.i .i64 i5::uA 22)),[],[],[],[]⟩
  (Aj 0 (An (jA Z5 n 320 [1,1]) (rA 320 [62,62] [.tmp 4] [3])))
theorem YX(n m2:Nat)(a0 b1:D)(i5:Int):Z4 n (m2+1) a0 b1 i5 =
 bK (0≤i5) (cK 311 [a0,D.int i5] fun Y2 =>
 cK 311 [b1,D.int i5] fun Y3 =>
 bK (((qA Y2).toInt)<((qA Y3).toInt)) (.ret [D.int (-1)])
 (cK 311 [a0,D.int i5] fun Y4 =>
 cK 311 [b1,D.int i5] fun Y5 =>
 bK (((qA Y5).toInt)<((qA Y4).toInt)) (.ret [D.int 1])
 (Z4 n m2 a0 b1 (Api .i64 (i5-1)))))
 (.ret [D.int 0]):=by kernel_rfl
theorem Aky(n:Nat)(a0 b1:D):fA Z5 n 320 [] [a0,b1] =
 cK 310 [a0,b1] fun Y1 =>
 Z4 n n a0 b1 (Api .i64 (((qA Y1).toInt)-1)):=by kernel_rfl
def Yn:List (Nat×Orc):=[(2,⟨[(0,some 62),(3,none)],[],[]⟩)]
noncomputable def Ym(n m2:Nat)(a0:D)(nn3:Int):Tree :=
 lA (eA Yn n 321 [1,1,0,0,0]) (Al Yn 2) m2 ⟨(.d 62 a0:: .undef:: .undef:: .i .i64 nn3::uA 18),[],[],[],[]⟩
  (Aj 0 (An (jA Yn n 321 [1,1,1]) (rA 321 [62] [.tmp 2] [62])))
theorem VC(n m2:Nat)(a0:D)(nn3:Int):Ym n (m2+1) a0 nn3 =
 bK (0<nn3) (kK (0≤Api .i64 (nn3-1)) (kK (Api .i64 (nn3-1)<(a0.els.length:Int)) (.br (((a0.els.getD (Apj (Api .i64 (nn3-1))) D.nil).toInt)==0) (Ym n m2 a0 (Api .i64 (nn3-1)))
 (kK (0≤nn3) (kK (nn3≤nn3) (kK (nn3≤(a0.els.length:Int)) (.ret [D.sl (a0.els.take (Apj nn3))])))))))
 (kK (0≤nn3) (kK (nn3≤nn3) (kK (nn3≤(a0.els.length:Int)) (.ret [D.sl (a0.els.take (Apj nn3))])))):=by kernel_rfl
theorem AhK(n:Nat)(a0:D):fA Yn n 321 [] [a0] =
 Ym n n a0 (a0.els.length:Int):=by kernel_rfl
theorem Ah3(n:Nat)(a0 b1:D):fA [] n 323 [] [a0,b1] =
 cK 321 [a0] fun Y1 =>
 cK 321 [b1] fun Y2 =>
 .br ((((qA Y2).els).length:Int)==0) (.ret [D.sl [],D.sl [],D.bool false])
 (cK 302 [qA Y1,qA Y2] fun Y3 =>
 bK (((qA Y3).toInt)<0) (cK 299 [qA Y1] fun Y4 =>
 .ret [D.sl [],D.sl ((qA Y4).els),D.bool true])
 (.br ((((qA Y2).els).length:Int)==1) (cK 299 [qA Y1] fun Y5 =>
 kK (0≤0) (kK (0<(((qA Y2).els).length:Int)) (cK 331 [D.sl ((qA Y5).els),D.int ((((qA Y2).els).getD (Apj 0) D.nil).toInt)] fun Y6 =>
 cK 321 [D.sl ((qB Y6).els)] fun Y7 =>
 cK 299 [D.sl [D.int ((qA Y6).toInt)]] fun Y8 =>
 .ret [qA Y7,D.sl ((qA Y8).els),D.bool true])))
 (cK 332 [qA Y1,qA Y2] fun Y9 =>
 .ret [qA Y9,qB Y9,D.bool true]))):=by kernel_rfl
def X8:List (Nat×Orc):=[(8,⟨[(1,some 62),(5,none),(6,none),(30,none),(31,none)],[],[(.slot 5,1080,180)]⟩)]
noncomputable def Oc(n m8:Nat)(b1:D)(out5:List D)(carry6 t30 t31:Int):Tree :=
 lA (eA X8 n 325 [1,1,1,1,1,1,0,1,0,0]) (Al X8 8) m8 ⟨(.undef:: .d 62 b1::uA 3++(.row 1080:: .i .u32 carry6::uA 23++(.i .i64 t30:: .i .i64 t31::uA 33))),[(1080,.row 180 out5 true)],[1080],[],[]⟩
  (Aj 0 (An (jA X8 n 325 [1,1,1,1,1,1,1]) (rA 325 [62,62] [.tmp 4] [62])))
theorem US(n m8:Nat)(b1:D)(out5:List D)(carry6 t30 t31:Int):Oc n (m8+1) b1 out5 carry6 t30 t31 =
 bK (t31<t30) (bK (t31<(b1.els.length:Int)) (kK (0≤t31) (kK (t31<(b1.els.length:Int)) (kK (0≤t31) (kK (t31<(out5.length:Int)) (cK 333 [D.int ((out5.getD (Apj t31) D.nil).toInt),D.int ((b1.els.getD (Apj t31) D.nil).toInt),D.int carry6] fun Y3 =>
 kK (0≤t31) (kK (t31<(out5.length:Int)) (Oc n m8 b1 (out5.set (Apj t31) (D.int ((qA Y3).toInt))) ((qB Y3).toInt) t30 (Api .i64 (t31+1)))))))))
 (.br (carry6 == 0) (.br (carry6 != 0) (kK (out5.length + [D.int carry6].length≤Ak) (.ret [D.sl (out5++[D.int carry6])]))
 (.ret [D.sl out5]))
 (kK (0≤t31) (kK (t31<(out5.length:Int)) (cK 333 [D.int ((out5.getD (Apj t31) D.nil).toInt),D.int 0,D.int carry6] fun Y4 =>
 kK (0≤t31) (kK (t31<(out5.length:Int)) (Oc n m8 b1 (out5.set (Apj t31) (D.int ((qA Y4).toInt))) ((qB Y4).toInt) t30 (Api .i64 (t31+1)))))))))
 (.br (carry6 != 0) (kK (out5.length + [D.int carry6].length≤Ak) (.ret [D.sl (out5++[D.int carry6])]))
 (.ret [D.sl out5])):=by kernel_rfl
theorem Ah1(n:Nat)(a0 b1:D):fA X8 n 325 [] [a0,b1] =
 cK 321 [a0] fun Y1 =>
 cK 321 [b1] fun Y2 =>
 bK ((((qA Y1).els).length:Int)<(((qA Y2).els).length:Int)) (kK (0≤(((qA Y2).els).length:Int)) (kK ((((qA Y2).els).length:Int)≤Api .i64 ((((qA Y2).els).length:Int)+1)) (kK (Api .i64 ((((qA Y2).els).length:Int)+1)≤Ak) (Oc n n (qA Y1) (((qA Y2).els).take (Apl (Apj (((qA Y2).els).length:Int)) (D.int 0)).length++(Apl (Apj (((qA Y2).els).length:Int)) (D.int 0)).drop ((qA Y2).els).length) 0 ((((qA Y2).els).take (Apl (Apj (((qA Y2).els).length:Int)) (D.int 0)).length++(Apl (Apj (((qA Y2).els).length:Int)) (D.int 0)).drop ((qA Y2).els).length).length:Int) 0))))
 (kK (0≤(((qA Y1).els).length:Int)) (kK ((((qA Y1).els).length:Int)≤Api .i64 ((((qA Y1).els).length:Int)+1)) (kK (Api .i64 ((((qA Y1).els).length:Int)+1)≤Ak) (Oc n n (qA Y2) (((qA Y1).els).take (Apl (Apj (((qA Y1).els).length:Int)) (D.int 0)).length++(Apl (Apj (((qA Y1).els).length:Int)) (D.int 0)).drop ((qA Y1).els).length) 0 ((((qA Y1).els).take (Apl (Apj (((qA Y1).els).length:Int)) (D.int 0)).length++(Apl (Apj (((qA Y1).els).length:Int)) (D.int 0)).drop ((qA Y1).els).length).length:Int) 0)))):=by kernel_rfl
def Ye:List (Nat×Orc):=[(6,⟨[(1,some 62),(6,none),(7,none),(19,none),(20,none)],[],[(.slot 6,1060,180)]⟩)]
noncomputable def S5(n m6:Nat)(b1:D)(out6:List D)(borrow7 t19 t20:Int):Tree :=
 lA (eA Ye n 326 [1,1,1,1,0,1,0,0]) (Al Ye 6) m6 ⟨(.undef:: .d 62 b1::uA 4++(.row 1060:: .i .u32 borrow7::uA 11++(.i .i64 t19:: .i .i64 t20::uA 28))),[(1060,.row 180 out6 true)],[1060],[],[]⟩
  (Aj 0 (An (jA Ye n 326 [1,1,1,1,1]) (rA 326 [62,62] [.tmp 4,.tmp 5] [62,4])))
theorem UY(n m6:Nat)(b1:D)(out6:List D)(borrow7 t19 t20:Int):S5 n (m6+1) b1 out6 borrow7 t19 t20 =
 bK (t20<t19) (bK (t20<(b1.els.length:Int)) (kK (0≤t20) (kK (t20<(b1.els.length:Int)) (kK (0≤t20) (kK (t20<(out6.length:Int)) (cK 334 [D.int ((out6.getD (Apj t20) D.nil).toInt),D.int ((b1.els.getD (Apj t20) D.nil).toInt),D.int borrow7] fun Y4 =>
 kK (0≤t20) (kK (t20<(out6.length:Int)) (S5 n m6 b1 (out6.set (Apj t20) (D.int ((qA Y4).toInt))) ((qB Y4).toInt) t19 (Api .i64 (t20+1)))))))))
 (.br (borrow7 == 0) (cK 321 [D.sl out6] fun Y5 =>
 .ret [qA Y5,D.bool true])
 (kK (0≤t20) (kK (t20<(out6.length:Int)) (cK 334 [D.int ((out6.getD (Apj t20) D.nil).toInt),D.int 0,D.int borrow7] fun Y6 =>
 kK (0≤t20) (kK (t20<(out6.length:Int)) (S5 n m6 b1 (out6.set (Apj t20) (D.int ((qA Y6).toInt))) ((qB Y6).toInt) t19 (Api .i64 (t20+1)))))))))
 (cK 321 [D.sl out6] fun Y7 =>
 .ret [qA Y7,D.bool true]):=by kernel_rfl
theorem Ah9(n:Nat)(a0 b1:D):fA Ye n 326 [] [a0,b1] =
 cK 302 [a0,b1] fun Y1 =>
 bK (((qA Y1).toInt)<0) (.ret [D.sl [],D.bool false])
 (cK 299 [a0] fun Y2 =>
 cK 321 [b1] fun Y3 =>
 S5 n n (qA Y3) ((qA Y2).els) 0 (((qA Y2).els).length:Int) 0):=by kernel_rfl
def Yl:List (Nat×Orc):=[(1,⟨[(0,none),(1,none)],[],[]⟩)]
noncomputable def Yk(n m1:Nat)(a0 b1:Int):Tree :=
 lA (eA Yl n 327 [1,0,0,0]) (Al Yl 1) m1 ⟨(.i .u64 a0:: .i .u64 b1::uA 16),[],[],[],[]⟩
  (Aj 0 (An (jA Yl n 327 [1,1]) (rA 327 [22,22] [.tmp 4] [62])))
theorem AhH(n m1:Nat)(a0 b1:Int):Yk n (m1+1) a0 b1 =
 .br (b1 != 0) (.br (!(b1 == (0:Int))) (Yk n m1 b1 (Int.tmod a0 b1)) .fail)
 (kK (0≤32) (cK 299 [D.sl [D.int (Api .u32 a0),D.int (Api .u32 (Aqd a0 (2 ^ (min (Apj 32) (Apv .u64)))))]] fun Y1 =>
 .ret [D.sl ((qA Y1).els)])):=by kernel_rfl
theorem AhJ(n:Nat)(a0 b1:D):fA Yl n 327 [] [a0,b1] =
 Yk n n a0.toInt b1.toInt:=by kernel_rfl
def Yq:List (Nat×Orc):=[(3,⟨[(3,none),(6,some 62),(7,none),(8,none)],[],[]⟩)]
noncomputable def Qe(n m3:Nat)(out3:Int)(t6:D)(t7 t8:Int):Tree :=
 lA (eA Yq n 328 [1,1,0,1,0,0]) (Al Yq 3) m3 ⟨(uA 3++(.i .u64 out3:: .undef:: .undef:: .d 62 t6:: .i .i64 t7:: .i .i64 t8::uA 14)),[],[],[],[]⟩
  (Aj 0 (An (jA Yq n 328 [1,1,1]) (rA 328 [62] [.tmp 2] [22])))
theorem VF(n m3:Nat)(out3:Int)(t6:D)(t7 t8:Int):Qe n (m3+1) out3 t6 t7 t8 =
 bK (t8<t7) (kK (0≤t8) (kK (t8<(t6.els.length:Int)) (kK (0≤Api .u64 (Api .i64 (32*t8))) (Qe n m3 (Br .or .u64 out3 (Api .u64 ((Api .u64 ((t6.els.getD (Apj t8) D.nil).toInt))*2 ^ (min (Apj (Api .u64 (Api .i64 (32*t8)))) (Apv .u64))))) t6 t7 (Api .i64 (t8+1))))))
 (.ret [D.int out3]):=by kernel_rfl
theorem AhM(n:Nat)(a0:D):fA Yq n 328 [] [a0] =
 Qe n n 0 a0 (a0.els.length:Int) 0:=by kernel_rfl
def Yj:List (Nat×Orc):=[(3,⟨[(0,none),(1,none),(5,none),(6,none)],[],[(.slot 0,0,180)]⟩)]
noncomputable def Yi(n m3:Nat)(a0:List D)(by1 rest5 i6:Int):Tree :=
 lA (eA Yj n 331 [1,1,0,1,0,0]) (Al Yj 3) m3 ⟨(.row 0:: .i .u32 by1::uA 3++(.i .u64 rest5:: .i .i64 i6::uA 29)),[(0,.row 180 a0 true)],[0],[],[0]⟩
  (Aj 0 (An (jA Yj n 331 [1,1,1]) (rA 331 [62,180] [.tmp 4] [180])))
theorem VB(n m3:Nat)(a0:List D)(by1 rest5 i6:Int):Yi n (m3+1) a0 by1 rest5 i6 =
 bK (0≤i6) (kK (0≤32) (kK (0≤i6) (kK (i6<(a0.length:Int)) (.br (!((Api .u64 by1)==(0:Int))) (kK (0≤i6) (kK (i6<(a0.length:Int)) (.br (!((Api .u64 by1)==(0:Int))) (Yi n m3 (a0.set (Apj i6) (D.int (Api .u32 (Api .u64 (Int.tdiv (Br .or .u64 (Api .u64 (rest5*2 ^ (min (Apj 32) (Apv .u64)))) (Api .u64 ((a0.getD (Apj i6) D.nil).toInt))) (Api .u64 by1)))))) by1 (Int.tmod (Br .or .u64 (Api .u64 (rest5*2 ^ (min (Apj 32) (Apv .u64)))) (Api .u64 ((a0.getD (Apj i6) D.nil).toInt))) (Api .u64 by1)) (Api .i64 (i6-1))) .fail))) .fail))))
 (.ret [D.int (Api .u32 rest5),D.sl a0]):=by kernel_rfl
theorem AhG(n:Nat)(a0 by1:D):fA Yj n 331 [] [a0,by1] =
 Yi n n a0.els by1.toInt 0 (Api .i64 ((a0.els.length:Int)-1)):=by kernel_rfl
theorem Ad7(n:Nat)(x0 y1 carry2:D):fA [] n 333 [] [x0,y1,carry2] =
 kK (0≤32) (.ret [D.int (Api .u32 (Api .u64 ((Api .u64 ((Api .u64 x0.toInt)+(Api .u64 y1.toInt)))+(Api .u64 carry2.toInt)))),D.int (Api .u32 (Aqd (Api .u64 ((Api .u64 ((Api .u64 x0.toInt)+(Api .u64 y1.toInt)))+(Api .u64 carry2.toInt))) (2 ^ (min (Apj 32) (Apv .u64)))))]):=by kernel_rfl
theorem AdD(n:Nat)(x0 y1 borrow2:D):fA [] n 334 [] [x0,y1,borrow2] =
 kK (0≤31) (.ret [D.int (Api .u32 ((Api .u32 (x0.toInt-y1.toInt))-borrow2.toInt)),D.int (Aqd (Br .or .u32 (Br .and .u32 (Br .xor .u32 (IntKind.max .u32) x0.toInt) y1.toInt) (Br .and .u32 (Br .xor .u32 (IntKind.max .u32) (Br .xor .u32 x0.toInt y1.toInt)) (Api .u32 ((Api .u32 (x0.toInt-y1.toInt))-borrow2.toInt)))) (2 ^ (min (Apj 31) (Apv .u32))))]):=by kernel_rfl
theorem Ad8(n:Nat)(x0:D):fA [] n 335 [] [x0] =
 cK 341 [D.int x0.toInt] fun Y1 =>
 .ret [D.int (Api .i64 (32-((qA Y1).toInt)))]:=by kernel_rfl
def Yp:List (Nat×Orc):=[(4,⟨[(0,some 62),(1,none),(5,none),(6,none),(14,some 62),(15,none),(16,none)],[],[(.slot 5,1040,180)]⟩)]
noncomputable def Yo(n m4:Nat)(a0:D)(shift1:Int)(out5:List D)(carry6:Int)(t14:D)(t15 t16:Int):Tree :=
 lA (eA Yp n 336 [1,1,1,0,1,0,0]) (Al Yp 4) m4 ⟨(.d 62 a0:: .i .i64 shift1::uA 3++(.row 1040:: .i .u64 carry6::uA 7++(.d 62 t14:: .i .i64 t15:: .i .i64 t16::uA 26))),[(1040,.row 180 out5 true)],[1040],[],[]⟩
  (Aj 0 (An (jA Yp n 336 [1,1,1,1]) (rA 336 [62,3] [.tmp 4] [62])))
theorem VE(n m4:Nat)(a0:D)(shift1:Int)(out5:List D)(carry6:Int)(t14:D)(t15 t16:Int):Yo n (m4+1) a0 shift1 out5 carry6 t14 t15 t16 =
 bK (t16<t15) (kK (0≤t16) (kK (t16<(t14.els.length:Int)) (kK (0≤Api .u64 shift1) (kK (0≤t16) (kK (t16<(out5.length:Int)) (kK (0≤32) (Yo n m4 a0 shift1 (out5.set (Apj t16) (D.int (Api .u32 (Br .or .u64 (Api .u64 ((Api .u64 ((t14.els.getD (Apj t16) D.nil).toInt))*2 ^ (min (Apj (Api .u64 shift1)) (Apv .u64)))) carry6)))) (Aqd (Br .or .u64 (Api .u64 ((Api .u64 ((t14.els.getD (Apj t16) D.nil).toInt))*2 ^ (min (Apj (Api .u64 shift1)) (Apv .u64)))) carry6) (2 ^ (min (Apj 32) (Apv .u64)))) t14 t15 (Api .i64 (t16+1)))))))))
 (kK (0≤(a0.els.length:Int)) (kK ((a0.els.length:Int)<(out5.length:Int)) (.ret [D.sl (out5.set (Apj (a0.els.length:Int)) (D.int (Api .u32 carry6)))]))):=by kernel_rfl
theorem AhL(n:Nat)(a0 shift1:D):fA Yp n 336 [] [a0,shift1] =
 kK (0≤Api .i64 ((a0.els.length:Int)+1)) (kK (Api .i64 ((a0.els.length:Int)+1)≤Api .i64 ((a0.els.length:Int)+1)) (kK (Api .i64 ((a0.els.length:Int)+1)≤Ak) (Yo n n a0 shift1.toInt (Apl (Apj (Api .i64 ((a0.els.length:Int)+1))) (D.int 0)) 0 a0 (a0.els.length:Int) 0))):=by kernel_rfl
def Yh:List (Nat×Orc):=[(4,⟨[(0,some 62),(1,some 62),(5,none),(7,none),(8,none)],[],[]⟩)]
noncomputable def Qd(n m4:Nat)(a0 divisor1:D)(nn5 guess7 rest8:Int):Tree :=
 lA (eA Yh n 337 [1,1,1,1,0,0,0]) (Al Yh 4) m4 ⟨(.d 62 a0:: .d 62 divisor1::uA 3++(.i .i64 nn5:: .undef:: .i .u64 guess7:: .i .u64 rest8::uA 68)),[],[],[],[]⟩
  (Aj 0 (An (jA Yh n 337 [1,1,1,1,1]) (rA 337 [62,62] [.tmp 4] [22])))
theorem AhC(n m4:Nat)(a0 divisor1:D)(nn5 guess7 rest8:Int):Qd n (m4+1) a0 divisor1 nn5 guess7 rest8 =
 kK (0≤32) (.br ((Aqd guess7 (2 ^ (min (Apj 32) (Apv .u64))))!=0) (kK (0≤Api .i64 (nn5-1)) (kK (Api .i64 (nn5-1)<(divisor1.els.length:Int)) (kK (0≤32) (.br ((Aqd (Api .u64 (rest8+(Api .u64 ((divisor1.els.getD (Apj (Api .i64 (nn5-1))) D.nil).toInt)))) (2 ^ (min (Apj 32) (Apv .u64))))!=0) (.ret [D.int (Api .u64 (guess7-1))])
 (Qd n m4 a0 divisor1 nn5 (Api .u64 (guess7-1)) (Api .u64 (rest8+(Api .u64 ((divisor1.els.getD (Apj (Api .i64 (nn5-1))) D.nil).toInt)))))))))
 (kK (0≤Api .i64 (nn5-2)) (kK (Api .i64 (nn5-2)<(divisor1.els.length:Int)) (kK (0≤32) (kK (0≤Api .i64 (nn5-2)) (kK (Api .i64 (nn5-2)<(a0.els.length:Int)) (bK ((Br .or .u64 (Api .u64 (rest8*2 ^ (min (Apj 32) (Apv .u64)))) (Api .u64 ((a0.els.getD (Apj (Api .i64 (nn5-2))) D.nil).toInt)))<(Api .u64 (guess7*(Api .u64 ((divisor1.els.getD (Apj (Api .i64 (nn5-2))) D.nil).toInt))))) (kK (0≤Api .i64 (nn5-1)) (kK (Api .i64 (nn5-1)<(divisor1.els.length:Int)) (kK (0≤32) (.br ((Aqd (Api .u64 (rest8+(Api .u64 ((divisor1.els.getD (Apj (Api .i64 (nn5-1))) D.nil).toInt)))) (2 ^ (min (Apj 32) (Apv .u64))))!=0) (.ret [D.int (Api .u64 (guess7-1))])
 (Qd n m4 a0 divisor1 nn5 (Api .u64 (guess7-1)) (Api .u64 (rest8+(Api .u64 ((divisor1.els.getD (Apj (Api .i64 (nn5-1))) D.nil).toInt)))))))))
 (.ret [D.int guess7])))))))):=by kernel_rfl
theorem AhD(n:Nat)(a0 divisor1:D):fA Yh n 337 [] [a0,divisor1] =
 kK (0≤(divisor1.els.length:Int)) (kK ((divisor1.els.length:Int)<(a0.els.length:Int)) (kK (0≤32) (kK (0≤Api .i64 ((divisor1.els.length:Int)-1)) (kK (Api .i64 ((divisor1.els.length:Int)-1)<(a0.els.length:Int)) (kK (0≤Api .i64 ((divisor1.els.length:Int)-1)) (kK (Api .i64 ((divisor1.els.length:Int)-1)<(divisor1.els.length:Int)) (.br (!((Api .u64 ((divisor1.els.getD (Apj (Api .i64 ((divisor1.els.length:Int)-1))) D.nil).toInt))==(0:Int))) (kK (0≤Api .i64 ((divisor1.els.length:Int)-1)) (kK (Api .i64 ((divisor1.els.length:Int)-1)<(divisor1.els.length:Int)) (.br (!((Api .u64 ((divisor1.els.getD (Apj (Api .i64 ((divisor1.els.length:Int)-1))) D.nil).toInt))==(0:Int))) (Qd n n a0 divisor1 (divisor1.els.length:Int) (Api .u64 (Int.tdiv (Br .or .u64 (Api .u64 ((Api .u64 ((a0.els.getD (Apj (divisor1.els.length:Int)) D.nil).toInt))*2 ^ (min (Apj 32) (Apv .u64)))) (Api .u64 ((a0.els.getD (Apj (Api .i64 ((divisor1.els.length:Int)-1))) D.nil).toInt))) (Api .u64 ((divisor1.els.getD (Apj (Api .i64 ((divisor1.els.length:Int)-1))) D.nil).toInt)))) (Int.tmod (Br .or .u64 (Api .u64 ((Api .u64 ((a0.els.getD (Apj (divisor1.els.length:Int)) D.nil).toInt))*2 ^ (min (Apj 32) (Apv .u64)))) (Api .u64 ((a0.els.getD (Apj (Api .i64 ((divisor1.els.length:Int)-1))) D.nil).toInt))) (Api .u64 ((divisor1.els.getD (Apj (Api .i64 ((divisor1.els.length:Int)-1))) D.nil).toInt)))) .fail))) .fail))))))):=by kernel_rfl
def Yg:List (Nat×Orc):=[(4,⟨[(0,some 62),(1,none),(5,none),(6,none),(7,none)],[],[(.slot 5,1040,180)]⟩)]
noncomputable def Yf(n m4:Nat)(a0:D)(shift1:Int)(out5:List D)(above6 i7:Int):Tree :=
 lA (eA Yg n 340 [1,1,1,0,1,0,0]) (Al Yg 4) m4 ⟨(.d 62 a0:: .i .i64 shift1::uA 3++(.row 1040:: .i .u64 above6:: .i .i64 i7::uA 34)),[(1040,.row 180 out5 true)],[1040],[],[]⟩
  (Aj 0 (An (jA Yg n 340 [1,1,1,1]) (rA 340 [62,3] [.tmp 4] [62])))
theorem VA(n m4:Nat)(a0:D)(shift1:Int)(out5:List D)(above6 i7:Int):Yf n (m4+1) a0 shift1 out5 above6 i7 =
 bK (0≤i7) (kK (0≤32) (kK (0≤i7) (kK (i7<(a0.els.length:Int)) (kK (0≤Api .u64 shift1) (kK (0≤i7) (kK (i7<(out5.length:Int)) (kK (0≤i7) (kK (i7<(a0.els.length:Int)) (Yf n m4 a0 shift1 (out5.set (Apj i7) (D.int (Api .u32 (Aqd (Br .or .u64 (Api .u64 (above6*2 ^ (min (Apj 32) (Apv .u64)))) (Api .u64 ((a0.els.getD (Apj i7) D.nil).toInt))) (2 ^ (min (Apj (Api .u64 shift1)) (Apv .u64))))))) (Api .u64 ((a0.els.getD (Apj i7) D.nil).toInt)) (Api .i64 (i7-1)))))))))))
 (cK 321 [D.sl out5] fun Y1 =>
 .ret [qA Y1]):=by kernel_rfl
theorem AhA(n:Nat)(a0 shift1:D):fA Yg n 340 [] [a0,shift1] =
 kK (0≤(a0.els.length:Int)) (kK ((a0.els.length:Int)≤(a0.els.length:Int)) (kK ((a0.els.length:Int)≤Ak) (Yf n n a0 shift1.toInt (Apl (Apj (a0.els.length:Int)) (D.int 0)) 0 (Api .i64 ((a0.els.length:Int)-1))))):=by kernel_rfl
theorem Ad_(n:Nat)(x0:D):fA [] n 341 [] [x0] =
 bK (65536≤x0.toInt) (kK (0≤16) (bK (256≤(Aqd x0.toInt (2 ^ (min (Apj 16) (Apv .u32))))) (kK (0≤8) (kK (0≤Api .u8 (Aqd (Aqd x0.toInt (2 ^ (min (Apj 16) (Apv .u32)))) (2 ^ (min (Apj 8) (Apv .u32))))) (kK (Api .u8 (Aqd (Aqd x0.toInt (2 ^ (min (Apj 16) (Apv .u32)))) (2 ^ (min (Apj 8) (Apv .u32))))<(K3.size:Int)) (.ret [D.int (Api .i64 ((Api .i64 (16+8))+(Api .i64 (((K3.data.toList.getD (Apj (Api .u8 (Aqd (Aqd x0.toInt (2 ^ (min (Apj 16) (Apv .u32)))) (2 ^ (min (Apj 8) (Apv .u32)))))) 0).toNat:Nat):Int))))]))))
 (kK (0≤Api .u8 (Aqd x0.toInt (2 ^ (min (Apj 16) (Apv .u32))))) (kK (Api .u8 (Aqd x0.toInt (2 ^ (min (Apj 16) (Apv .u32))))<(K3.size:Int)) (.ret [D.int (Api .i64 (16+(Api .i64 (((K3.data.toList.getD (Apj (Api .u8 (Aqd x0.toInt (2 ^ (min (Apj 16) (Apv .u32)))))) 0).toNat:Nat):Int))))])))))
 (bK (256≤x0.toInt) (kK (0≤8) (kK (0≤Api .u8 (Aqd x0.toInt (2 ^ (min (Apj 8) (Apv .u32))))) (kK (Api .u8 (Aqd x0.toInt (2 ^ (min (Apj 8) (Apv .u32))))<(K3.size:Int)) (.ret [D.int (Api .i64 ((Api .i64 (0+8))+(Api .i64 (((K3.data.toList.getD (Apj (Api .u8 (Aqd x0.toInt (2 ^ (min (Apj 8) (Apv .u32)))))) 0).toNat:Nat):Int))))]))))
 (kK (0≤Api .u8 x0.toInt) (kK (Api .u8 x0.toInt<(K3.size:Int)) (.ret [D.int (Api .i64 (0+(Api .i64 (((K3.data.toList.getD (Apj (Api .u8 x0.toInt)) 0).toNat:Nat):Int))))])))):=by kernel_rfl
def B:Nat:=4294967296
theorem A0:B=4294967296:=rfl
theorem B1:0<B:=by decide
theorem Bp(i:Nat):0<B ^ i:=Nat.pow_pos B1
theorem Fe(x:Aq):x.toNat<B:=x.isLt
def nv:List Aq→Nat
 | []=>0
 | x::l=>x.toNat+B*nv l
@[simp] theorem IW:nv []=0:=rfl
theorem Ih(l m:List Aq):nv (l++m)=nv l+B ^ l.length*nv m:=by
 induction l with
 | nil=>simp
 | cons x l ih =>
  simp only[List.cons_append,nv,ih,App,Aqr,Nat.mul_add]
  rw[Aqg (B ^ l.length) B,Nat.mul_assoc];omega
theorem Jv(l:List Aq)(x:Aq):nv (l++[x])=nv l+B ^ l.length*x.toNat:=by rw[Ih];simp[nv]
theorem Cc(l:List Aq):nv l<B ^ l.length:=by
 induction l with
 | nil=>simp
 | cons x l ih =>
  simp only[nv,App,Aqr]
  have hx:=Fe x
  have:B*(nv l+1)≤B*B ^ l.length:=Nat.mul_le_mul_left _ ih
  rw[Aqg (B ^ l.length) B]
  rw[Nat.mul_add]at this
  omega
theorem Yu(l:List Aq)(i:Nat):nv (l.drop i)=nv l / B ^ i:=by
 induction i generalizing l with
 | zero=>simp
 | succ i ih =>
  cases l with
  | nil=>simp
  | cons x l =>
   rw[List.drop_succ_cons,ih,Aqr,Aqg,← Aqm]
   simp only[nv]
   rw[Nat.add_mul_div_left _ _ B1,Nat.div_eq_of_lt (Fe x),Aqv]
theorem Eh(l:List Aq)(i:Nat)(hi:i<l.length):(l[i]).toNat=nv l / B ^ i % B:=by
 rw[← Yu,Aqa hi,nv,Nat.add_mul_mod_self_left,Aqc (Fe _)]
theorem IV(l:List Aq)(i:Nat)(hi:l.length≤i):nv l / B ^ i % B=0:=by
 rw[← Yu,List.drop_eq_nil_of_le hi];rfl
theorem Yv(k:Nat):nv (Apl k 0)=0:=by
 induction k with
 | zero=>rfl
 | succ k ih=>rw[List.replicate_succ,nv,ih];rfl
theorem S6{out:List Aq}{z i:Nat}{d:Aq}(hl:out.length=i)(h:nv out=z % B ^ i)(hd:d.toNat=z / B ^ i % B):nv (out++[d])=z % B ^ (i+1):=by
 rw[Jv,hl,h,hd,Nat.mod_pow_succ]
def lb(n:Nat):List Aq:=if h:n=0 then [] else Ap5 32 n::lb (n / B)
termination_by n
decreasing_by exact Nat.div_lt_self (Nat.pos_of_ne_zero h) (by decide)
theorem Da:lb 0 = []:=by rw[lb];simp
theorem P0{n:Nat}(h:n≠0):lb n=Ap5 32 n::lb (n / B):=by rw[lb,dif_neg h]
theorem Bv(n:Nat):nv (lb n)=n:=by
 induction n using Nat.strongRecOn with
 | _ n ih =>
  by_cases h:n=0
  · subst h;rw[Da];rfl
  · rw[P0 h,nv,ih _ (Nat.div_lt_self (Nat.pos_of_ne_zero h) (by decide)),BitVec.toNat_ofNat]
    exact Nat.mod_add_div n B
theorem Ba{n k:Nat} : (lb n).length≤k↔n<B ^ k:=by
 induction k generalizing n with
 | zero =>
  by_cases h:n=0
  · subst h;simp[Da]
  · rw[P0 h];simp;omega
 | succ k ih =>
  by_cases h:n=0
  · subst h;simp[Da,Bp]
  · rw[P0 h,App,Nat.succ_le_succ_iff,ih,Aqu B1,Aqr]
theorem HY{n:Nat} : lb n = []↔n=0:=by
 constructor
 · intro h;have:=Bv n;rw[h]at this;simpa using this.symm
 · rintro rfl;exact Da
theorem Hl{n:Nat} : (lb n).length=0↔n=0:=by rw[Aqb,HY]
theorem TF{l:List Aq}(h : ∀ hne:l≠[],l.getLast hne≠0):lb (nv l)=l:=by
 induction l with
 | nil=>simp[Da]
 | cons x l ih =>
  have ihl:=ih (fun hne=>by have:=h (by simp);rwa[List.getLast_cons hne]at this)
  have hpos:nv (x::l)≠0:=by
   intro h0
   simp only[nv]at h0
   cases l with
   | nil =>
    have:=h (by simp)
    simp only[List.getLast_singleton]at this
    exact this (BitVec.eq_of_toNat_eq (by simp;omega))
   | cons y m =>
    have hv:nv (y::m)=0:=by
     rcases Nat.eq_zero_or_pos (nv (y::m)) with h | h
     · exact h
     · have:=Nat.mul_le_mul_left B h;rw[A0]at this h0;omega
    rw[hv,Da]at ihl
    cases ihl
  rw[P0 hpos]
  have e2:nv (x::l) / B=nv l:=by simp only[nv];rw[Nat.add_mul_div_left _ _ B1,Nat.div_eq_of_lt (Fe x),Aqv]
  rw[e2,ihl]
  congr 1
  apply BitVec.eq_of_toNat_eq
  simp only[nv,BitVec.toNat_ofNat]
  show (x.toNat+B*nv l) % B=x.toNat
  rw[Nat.add_mul_mod_self_left,Aqc (Fe x)]
theorem Xq{l:List Aq}{k:Nat}(hk:k≤l.length)(hz : ∀ i,k≤i→(hi:i<l.length)→l[i]=0)(ht : ∀ (hi:k-1<l.length),0<k→l[k-1]≠0):lb (nv l)=l.take k:=by
 have e:nv l=nv (l.take k):=by
  have:=Ih (l.take k) (l.drop k)
  rw[Aqf]at this
  have hd:l.drop k=Apl (l.length-k) 0:=by
   apply List.ext_getElem
   · simp
   · intro i h1 h2
     simp only[List.getElem_drop,List.getElem_replicate]
     exact hz _ (by omega) _
  rw[this,hd,Yv];simp
 rw[e]
 apply TF
 intro hne
 have hk0:0<k:=by
  rcases Nat.eq_zero_or_pos k with h | h
  · subst h;simp at hne
  · exact h
 rw[List.getLast_eq_getElem]
 simp only[List.getElem_take,Ap0]
 have:=ht (by omega) hk0
 have he:min k l.length-1=k-1:=by omega
 simp only[he]
 exact this
theorem DZ(x y i:Nat):(x+y) / B ^ i % B=(x / B ^ i % B+y / B ^ i % B+(x % B ^ i+y % B ^ i) / B ^ i) % B:=by
 have h1:(x+y) / B ^ i=x / B ^ i+y / B ^ i+(x % B ^ i+y % B ^ i) / B ^ i:=by
  have hx:=Nat.div_add_mod x (B ^ i)
  have hy:=Nat.div_add_mod y (B ^ i)
  conv=>lhs;rw[← hx,← hy]
  rw[show B ^ i*(x / B ^ i)+x % B ^ i+(B ^ i*(y / B ^ i)+y % B ^ i)=(x % B ^ i+y % B ^ i)+B ^ i*(x / B ^ i+y / B ^ i) by rw[Nat.mul_add];omega,Nat.add_mul_div_left _ _ (Bp i)]
  omega
 rw[h1]
 simp[Nat.add_mod]
theorem DY(x y i:Nat):(x % B ^ (i+1)+y % B ^ (i+1)) / B ^ (i+1)=(x / B ^ i % B+y / B ^ i % B+(x % B ^ i+y % B ^ i) / B ^ i) / B:=by
 rw[Nat.mod_pow_succ,Nat.mod_pow_succ,Aqr,← Aqm]
 congr 1
 rw[show x % B ^ i+B ^ i*(x / B ^ i % B)+(y % B ^ i+B ^ i*(y / B ^ i % B))=(x % B ^ i+y % B ^ i)+B ^ i*(x / B ^ i % B+y / B ^ i % B) by rw[Nat.mul_add];omega,Nat.add_mul_div_left _ _ (Bp i)]
 omega
theorem Xt{x y b:Nat}(h:x / b<y / b):x<y:=by
 rcases Nat.lt_or_ge x y with h1 | h1
 · exact h1
 · have:=Nat.div_le_div_right (c:=b) h1;omega
theorem AbN{x y:Nat}(h:y≤x)(i:Nat) : ∃ zi c c',zi=(x-y) / B ^ i % B∧c=((x-y) % B ^ i+y % B ^ i) / B ^ i∧c'=((x-y) % B ^ (i+1)+y % B ^ (i+1)) / B ^ (i+1)∧c'≤1∧x / B ^ i % B+B*c'=zi+y / B ^ i % B+c:=by
 refine ⟨_,_,_,rfl,rfl,rfl,?_,?_⟩
 · have h1:=Aqe (x-y) (Bp (i+1))
   have h2:=Aqe y (Bp (i+1))
   have:((x-y) % B ^ (i+1)+y % B ^ (i+1)) / B ^ (i+1)<2:=by rw[Aqu (Bp _)];omega
   omega
 · have h1:=DZ (x-y) y i
   rw[Nat.sub_add_cancel h]at h1
   rw[DY,h1]
   exact Nat.mod_add_div _ _
theorem Aou(x b i:Nat):(2*x+b) / B ^ i % B=(2*(x / B ^ i % B)+(2*(x % B ^ i)+b) / B ^ i) % B:=by
 have h1:(2*x+b) / B ^ i=2*(x / B ^ i)+(2*(x % B ^ i)+b) / B ^ i:=by
  have hx:=Nat.div_add_mod x (B ^ i)
  conv=>lhs;rw[← hx]
  rw[show 2*(B ^ i*(x / B ^ i)+x % B ^ i)+b=(2*(x % B ^ i)+b)+B ^ i*(2*(x / B ^ i)) by rw[Nat.mul_add,Nat.mul_left_comm];omega,Nat.add_mul_div_left _ _ (Bp i)]
  omega
 rw[h1]
 simp[Nat.add_mod,Nat.mul_mod]
theorem Aot(x b i:Nat):(2*(x % B ^ (i+1))+b) / B ^ (i+1)=(2*(x / B ^ i % B)+(2*(x % B ^ i)+b) / B ^ i) / B:=by
 rw[Nat.mod_pow_succ,Aqr,← Aqm]
 congr 1
 rw[show 2*(x % B ^ i+B ^ i*(x / B ^ i % B))+b=(2*(x % B ^ i)+b)+B ^ i*(2*(x / B ^ i % B)) by rw[Nat.mul_add,Nat.mul_left_comm];omega,Nat.add_mul_div_left _ _ (Bp i)]
 omega
theorem MS(i:Nat):B ^ i=2 ^ (32*i):=by rw[Nat.pow_mul];rfl
theorem Ad6(x i:Nat):x / B ^ (i / 32) % B / 2 ^ (i % 32) % 2=x / 2 ^ i % 2:=by
 have h1:=Nat.toNat_testBit (x / B ^ (i / 32) % B) (i % 32)
 have h2:=Nat.toNat_testBit x i
 rw[← h1,← h2]
 congr 1
 rw[show B=2 ^ 32 from rfl,Nat.testBit_mod_two_pow,← Nat.pow_mul,Nat.testBit_div_two_pow]
 have:i % 32<32:=Aqe _ (by decide)
 simp only[this,decide_true,Bool.true_and]
 congr 1
 omega
theorem Ahb{x y:Nat}(h:y≠0)(h2:x % y≠0):2*(y % (x % y))<y:=by
 have h1:=Aqe x (Nat.pos_of_ne_zero h)
 rcases Nat.lt_or_ge y (2*(x % y)) with h3 | h3
 · have:y % (x % y)=y-x % y:=by
    rw[Nat.mod_eq_sub_mod (by omega),Aqc (by omega)]
   omega
 · have:=Aqe y (Nat.pos_of_ne_zero h2)
   omega
theorem E0{t:Nat}(h:t<B):D.int (t:Int)=dB (Ap5 32 t):=by
 show _=D.int ((Ap5 32 t).toNat:Int)
 rw[show (Ap5 32 t).toNat=t by rw[BitVec.toNat_ofNat];exact Aqc h]
theorem ofNat_lt{t:Nat}(h:t<B):(Ap5 32 t).toNat=t:=by rw[BitVec.toNat_ofNat];exact Aqc h
theorem AcD(k:Nat)(h:k<9223372036854775807):Api .i64 (((k+1:Nat):Int)-1)=(k:Int):=by rw[Aw (by omega) (by omega)];omega
theorem V7(l:List Aq)(k:Nat):D.sl ((l.map dB).take k)=dL (l.take k):=by rw[dL,List.map_take]
theorem Ol(l:List Aq)(hl:l.length≤1000000):Sp 265 [dL l] [dL (lb (nv l))]:=by
 refine Af (l.length+1) (Ak2 _ _) ?_
 have:=Js (P:=Tryz.prog) (md:=md) (fun m k (_:Unit)=>Z8 (l.length+1) m (dL l) (k:Int)) (fun _ _=>[dL (lb (nv l))]) (fun k _=>k≤l.length∧∀ i,k≤i→(hi:i<l.length)→l[i]=0)
  (fun m s ⟨h1,h2⟩=>by
   simp only[ZA,B5,Apm,Ap0]
   refine Ar (Ad (Ad (Ay (by simp[Ak]) (Ac ?_))))
   rw[Xq (k:=0) (by omega) h2 (fun _ h=>by omega),V7];rfl)
  (fun m k s ⟨h1,h2⟩ ih=>by
   have hk:l[k]? = some l[k]:=Apk _
   simp only[ZA,B5,Apm,Ap0,AcD k (by omega),Apr,Au hk,Ej,Cp]
   refine Ad (Ad (Ad (Ae (fun h=> ?_) (fun h=> ?_))))
   · refine ih () ⟨by omega,fun i hi hlt=> ?_⟩
     by_cases he:i=k
     · subst he;exact BitVec.eq_of_toNat_eq (by simp;omega)
     · exact h2 i (by omega) hlt
   · refine Ad (Ad (Ay (by unfold Ak;omega) (Ac ?_)))
     rw[Xq (k:=k+1) (by omega) h2 (fun _ _ hc=>h (by have hc':l[k]=0:=hc;rw[hc'];rfl)),V7])
  (l.length+1) l.length () (by omega) ⟨Apx _,fun i h1 h2=>by omega⟩
 simpa using this
theorem Kw(l:List Aq)(i:Nat)(hi:i<9223372036854775807):Sp 311 [dL l,.int i] [.int ((nv l / B ^ i % B:Nat):Int)]:=by
 refine Af 0 (Ak6 _ _ _) ?_
 simp only[B5,Apm,Ao,Apr]
 refine Ae (fun h=> ?_) (fun h=> ?_)
 · have hk:l[i]? = some (l[i]'(by omega)):=Apk _
   refine Ad (Ad (Ac ?_))
   have:=Fe l[i]
   rw[Au hk,Ej,Bs (by omega) (by rw[A0]at this;omega),Eh]
 · refine Ac ?_
   rw[IV _ _ (by omega)];rfl
theorem Tn(a b:List Aq):Sp 310 [dL a,dL b] [.int ((max a.length b.length:Nat):Int)]:=by
 refine Af 0 (Ak7 _ _ _) ?_
 simp only[B5,Apm]
 refine Ae (fun h=>Ac ?_) (fun h=>Ac ?_)
 · rw[Nat.max_eq_left (by omega)]
 · rw[Nat.max_eq_right (by omega)]
def D8(a b:Nat):Int:=if a<b then -1 else if a=b then 0 else 1
theorem YY(a b:List Aq)(ha:a.length≤1000000)(hb:b.length≤1000000):Sp 320 [dL a,dL b] [.int (D8 (nv a) (nv b))]:=by
 refine Af (max a.length b.length+1) (Aky _ _ _) (Aa (Tn a b) ?_)
 simp only[Ag,Ao]
 have key:=Js (P:=Tryz.prog) (md:=md) (fun m k (_:Unit)=>Z4 (max a.length b.length+1) m (dL a) (dL b) ((k:Int)-1)) (fun _ _=>[.int (D8 (nv a) (nv b))]) (fun k _=>k≤1000000∧nv a / B ^ k=nv b / B ^ k)
  (fun m s ⟨_,h⟩=>by
   simp only[YX]
   refine Ar (Ac ?_)
   simp at h
   simp[D8,h])
  (fun m k s ⟨h0,h⟩ ih=>by
   simp only[YX,show ((k+1:Nat):Int)-1=(k:Int) by omega]
   have ea:=Nat.div_add_mod (nv a / B ^ k) B
   have eb:=Nat.div_add_mod (nv b / B ^ k) B
   rw[Aqm,← Aqr]at ea eb
   rw[h]at ea
   generalize B*(nv b / B ^ (k+1))=q at ea eb
   refine Ad (Aa (Kw a k (by omega)) (Aa (Kw b k (by omega)) ?_))
   simp only[Ag,Ao]
   refine Ae (fun h'=>Ac ?_) (fun h'=>Aa (Kw a k (by omega)) (Aa (Kw b k (by omega)) ?_))
   · have hlt:=Xt (show nv a / B ^ k<nv b / B ^ k by omega)
     simp only[D8];rw[if_pos hlt]
   · simp only[Ag,Ao]
     refine Ae (fun h2=>Ac ?_) (fun h2=> ?_)
     · have hlt:=Xt (show nv b / B ^ k<nv a / B ^ k by omega)
       simp only[D8];rw[if_neg (by omega),if_neg (by omega)]
     · rw[Aw (by omega) (by omega)]
       exact ih () ⟨by omega,by omega⟩)
  (max a.length b.length+1) (max a.length b.length) () (by omega) ⟨by omega,by
   rw[Nat.div_eq_of_lt,Nat.div_eq_of_lt]
   · exact Aqk (Cc b) (Nat.pow_le_pow_right B1 (Nat.le_max_right _ _))
   · exact Aqk (Cc a) (Nat.pow_le_pow_right B1 (Nat.le_max_left _ _))⟩
 rw[Aw (by omega) (by omega)]
 exact key
theorem YV(a b:List Aq)(ha:a.length≤100000)(hb:b.length≤100000):Sp 268 [dL a,dL b] [dL (lb (nv a+nv b))]:=by
 refine Af (max a.length b.length+3) (Akv _ _ _) ?_
 have hmx:max a.length b.length≤100000:=by omega
 have hlt:nv a+nv b<B ^ (max a.length b.length+1):=by
  have h1:nv a<B ^ max a.length b.length:=Aqk (Cc a) (Nat.pow_le_pow_right B1 (Nat.le_max_left _ _))
  have h2:nv b<B ^ max a.length b.length:=Aqk (Cc b) (Nat.pow_le_pow_right B1 (Nat.le_max_right _ _))
  rw[Aqr,A0];rw[A0]at h1 h2;omega
 have key:=Di (max a.length b.length+1) (fun m k (s:List Aq×Nat)=>Z0 (max a.length b.length+3) m (dL a) (dL b) (s.1.map dB) (s.2:Int) (k:Int)) (fun _ _=>[dL (lb (nv a+nv b))])
  (fun k s=>s.1.length=k∧nv s.1=(nv a+nv b) % B ^ k∧s.2=(nv a % B ^ k+nv b % B ^ k) / B ^ k)
  (fun m s ⟨h1,h2,h3⟩=>by
   simp only[YU]
   refine Aa (Tn a b) ?_
   simp only[Ag,Ao]
   refine Ar (Aa (Ol s.1 (by omega)) (Ac ?_))
   rw[h2,Aqc hlt];rfl)
  (fun m k s hk ⟨h1,h2,h3⟩ ih=>by
   simp only[YU]
   refine Aa (Tn a b) ?_
   simp only[Ag,Ao]
   refine Ad (Aa (Kw a k (by omega)) (Aa (Kw b k (by omega)) ?_))
   simp only[Ag,Ao]
   have hd:=DZ (nv a) (nv b) k
   have hc:=DY (nv a) (nv b) k
   have la:=Aqe (nv a / B ^ k) B1
   have lb':=Aqe (nv b / B ^ k) B1
   have lc:s.2≤1:=by
    rw[h3]
    have r1:=Aqe (nv a) (Bp k)
    have r2:=Aqe (nv b) (Bp k)
    have:(nv a % B ^ k+nv b % B ^ k) / B ^ k<2:=by rw[Aqu (Bp k)];omega
    omega
   rw[← h3]at hd hc
   generalize nv a / B ^ k % B=x at *
   generalize nv b / B ^ k % B=y at *
   have hB:=A0
   rw[show (x+y+s.2) / B=(x+y+s.2) / 4294967296 from rfl]at hc
   have t1:Api .u64 (Api .u64 ((x:Int)+(y:Int))+(s.2:Int))=((x+y+s.2:Nat):Int):=by
    rw[Bs (x:=(x:Int)+y) (by omega) (by omega),Bs (by omega) (by omega)];omega
   rw[t1,Int.tmod_eq_emod_of_nonneg (by omega),Int.tdiv_eq_ediv_of_nonneg (by omega),show (((x+y+s.2:Nat):Int) % 4294967296)=(((x+y+s.2) % B:Nat):Int) by rw[A0];omega,
    show (((x+y+s.2:Nat):Int) / 4294967296)=(((x+y+s.2) / 4294967296:Nat):Int) by omega]
   have hm:=Aqe (x+y+s.2) B1
   rw[Fw (x:=(((x+y+s.2) % B:Nat):Int)) (by omega) (by generalize (x+y+s.2) % B=z at *; omega),Bs (x:=(((x+y+s.2) / 4294967296:Nat):Int)) (by omega) (by omega),Ey (by omega),E0 hm]
   simp only[Apm,List.length_singleton]
   refine Bi (by decide) (Ay (by unfold Ak;omega) (Bi (by decide) ?_))
   have:=ih (s.1++[Ap5 32 ((x+y+s.2) % B)],(x+y+s.2) / 4294967296) ⟨by simp[h1],S6 h1 h2 (by rw[ofNat_lt hm,hd]),by rw[hc]⟩
   simpa using this)
  (max a.length b.length+3) 0 ([],0) (by omega) (by omega) ⟨rfl,by simp[Nat.mod_one],by simp[Nat.mod_one]⟩
 exact key
theorem An0{x y zi c c':Nat}(hx:x<B)(hy:y<B)(hz:zi<B)(hc:c≤1)(hc':c'≤1)(e:x+B*c'=zi+y+c) :
  Api .u32 (Int.tmod (Api .u64 (Api .u64 (Api .u64 (4294967296+(x:Int))-(y:Int))-(c:Int))) 4294967296)=(zi:Int) ∧
  Api .u64 (1-Api .u64 (Int.tdiv (Api .u64 (Api .u64 (Api .u64 (4294967296+(x:Int))-(y:Int))-(c:Int))) 4294967296))=(c':Int):=by
 rw[A0]at hx hy hz e
 have t1:Api .u64 (Api .u64 (Api .u64 (4294967296+(x:Int))-(y:Int))-(c:Int))=(zi:Int)+4294967296*(1-(c':Int)):=by
  rw[Bs (x:=4294967296+(x:Int)) (by omega) (by omega),Bs (x:=4294967296+(x:Int)-y) (by omega) (by omega),Bs (by omega) (by omega)];omega
 rw[t1,Int.tmod_eq_emod_of_nonneg (by omega),Int.tdiv_eq_ediv_of_nonneg (by omega),show ((zi:Int)+4294967296*(1-(c':Int))) % 4294967296=(zi:Int) by omega,show ((zi:Int)+4294967296*(1-(c':Int))) / 4294967296=1-(c':Int) by omega]
 rw[Fw (x:=(zi:Int)) (by omega) (by omega),Bs (x:=1-(c':Int)) (by omega) (by omega),show (1:Int)-(1-(c':Int))=(c':Int) by omega,Bs (x:=(c':Int)) (by omega) (by omega)]
 exact ⟨rfl,rfl⟩
theorem KJ(a b:List Aq)(ha:a.length≤100000)(hb:b.length≤100000):Sp 297 [dL a,dL b] [dL (lb (nv a-nv b)),.bool (decide (nv b≤nv a))]:=by
 refine Af (max a.length b.length+3) (Ak5 _ _ _) (Aa (YY a b (by omega) (by omega)) ?_)
 have hmx:max a.length b.length≤100000:=by omega
 simp only[Ag,Ao]
 refine Ae (fun h=>Ac ?_) (fun h=> ?_)
 · have hlt:nv a<nv b:=by
    unfold D8 at h
    rcases Nat.lt_or_ge (nv a) (nv b) with h1 | h1
    · exact h1
    · rw[if_neg (by omega)]at h;split at h <;> omega
   rw[Nat.sub_eq_zero_of_le (by omega),Da,decide_eq_false (by omega)];rfl
 · have hge:nv b≤nv a:=by
    unfold D8 at h
    rcases Nat.lt_or_ge (nv a) (nv b) with h1 | h1
    · rw[if_pos h1]at h;omega
    · exact h1
   rw[decide_eq_true hge]
   have hlt:nv a-nv b<B ^ max a.length b.length:=by
    have h1:nv a<B ^ max a.length b.length:=Aqk (Cc a) (Nat.pow_le_pow_right B1 (Nat.le_max_left _ _))
    omega
   have key:=Di (max a.length b.length) (fun m k (s:List Aq×Nat)=>AB (max a.length b.length+3) m (dL a) (dL b) (s.1.map dB) (s.2:Int) (k:Int)) (fun _ _=>[dL (lb (nv a-nv b)),.bool true])
    (fun k s=>s.1.length=k∧nv s.1=(nv a-nv b) % B ^ k∧s.2=((nv a-nv b) % B ^ k+nv b % B ^ k) / B ^ k)
    (fun m s ⟨h1,h2,h3⟩=>by
     simp only[ZC]
     refine Aa (Tn a b) ?_
     simp only[Ag,Ao]
     refine Ar (Aa (Ol s.1 (by omega)) (Ac ?_))
     rw[h2,Aqc hlt];rfl)
    (fun m k s hk ⟨h1,h2,h3⟩ ih=>by
     simp only[ZC]
     refine Aa (Tn a b) ?_
     simp only[Ag,Ao]
     refine Ad (Aa (Kw a k (by omega)) (Aa (Kw b k (by omega)) ?_))
     simp only[Ag,Ao]
     obtain ⟨zi,c,c',e1,e2,e3,e4,e5⟩:=AbN hge k
     have la:=Aqe (nv a / B ^ k) B1
     have lb':=Aqe (nv b / B ^ k) B1
     have lz:=Aqe ((nv a-nv b) / B ^ k) B1
     rw[← e1]at lz
     rw[← e2]at h3
     have hB:=A0
     have lc:c≤1:=by
      rw[e2]
      have r1:=Aqe (nv a-nv b) (Bp k)
      have r2:=Aqe (nv b) (Bp k)
      have:((nv a-nv b) % B ^ k+nv b % B ^ k) / B ^ k<2:=by rw[Aqu (Bp k)];omega
      omega
     rw[h3]
     generalize nv a / B ^ k % B=x at *
     generalize nv b / B ^ k % B=y at *
     obtain ⟨t1,t2⟩:=An0 la lb' lz lc e4 e5
     rw[t1,t2,Ey (by omega),E0 lz]
     simp only[Apm,List.length_singleton]
     refine Bi (by decide) (Ay (by unfold Ak;omega) (Bi (by decide) ?_))
     have:=ih (s.1++[Ap5 32 zi],c') ⟨by simp[h1],S6 h1 h2 (by rw[ofNat_lt lz,e1]),e3⟩
     simpa using this)
    (max a.length b.length+3) 0 ([],0) (by omega) (by omega) ⟨rfl,by simp[Nat.mod_one],by simp[Nat.mod_one]⟩
   exact key
theorem KK(a:List Aq)(b:Nat)(hb:b≤1)(ha:a.length≤100000):Sp 295 [dL a,.int b] [dL (lb (2*nv a+b))]:=by
 refine Af (a.length+3) (Ak8 _ _ _) ?_
 have hlt:2*nv a+b<B ^ (a.length+1):=by
  have:=Cc a
  rw[Aqr,A0];rw[A0]at this;omega
 have key:=Di (a.length+1) (fun m k (s:List Aq×Nat)=>AD (a.length+3) m (dL a) (s.1.map dB) (s.2:Int) (k:Int)) (fun _ _=>[dL (lb (2*nv a+b))])
  (fun k s=>s.1.length=k∧nv s.1=(2*nv a+b) % B ^ k∧s.2=(2*(nv a % B ^ k)+b) / B ^ k)
  (fun m s ⟨h1,h2,h3⟩=>by
   simp only[ZD,B5,Apm]
   refine Ar (Aa (Ol s.1 (by omega)) (Ac ?_))
   rw[h2,Aqc hlt];rfl)
  (fun m k s hk ⟨h1,h2,h3⟩ ih=>by
   simp only[ZD,B5,Apm]
   refine Ad (Aa (Kw a k (by omega)) ?_)
   simp only[Ag,Ao]
   have hd:=Aou (nv a) b k
   have hc:=Aot (nv a) b k
   have la:=Aqe (nv a / B ^ k) B1
   have hB:=A0
   have lc:s.2≤1:=by
    rw[h3]
    have r1:=Aqe (nv a) (Bp k)
    have:(2*(nv a % B ^ k)+b) / B ^ k<2:=by rw[Aqu (Bp k)];omega
    omega
   rw[← h3]at hd hc
   generalize nv a / B ^ k % B=x at *
   rw[show (2*x+s.2) / B=(2*x+s.2) / 4294967296 from rfl]at hc
   have t1:Api .u64 (Api .u64 (2*(x:Int))+(s.2:Int))=((2*x+s.2:Nat):Int):=by
    rw[Bs (x:=2*(x:Int)) (by omega) (by omega),Bs (by omega) (by omega)];omega
   rw[t1,Int.tmod_eq_emod_of_nonneg (by omega),Int.tdiv_eq_ediv_of_nonneg (by omega),show (((2*x+s.2:Nat):Int) % 4294967296)=(((2*x+s.2) % B:Nat):Int) by rw[A0];omega,
    show (((2*x+s.2:Nat):Int) / 4294967296)=(((2*x+s.2) / 4294967296:Nat):Int) by omega]
   have hm:=Aqe (2*x+s.2) B1
   rw[Fw (x:=(((2*x+s.2) % B:Nat):Int)) (by omega) (by generalize (2*x+s.2) % B=z at *; omega),Bs (x:=(((2*x+s.2) / 4294967296:Nat):Int)) (by omega) (by omega),Ey (by omega),E0 hm]
   simp only[List.length_singleton]
   refine Bi (by decide) (Ay (by unfold Ak;omega) (Bi (by decide) ?_))
   have:=ih (s.1++[Ap5 32 ((2*x+s.2) % B)],(2*x+s.2) / 4294967296) ⟨by simp[h1],S6 h1 h2 (by rw[ofNat_lt hm,hd]),by rw[hc]⟩
   simpa using this)
  (a.length+3) 0 ([],b) (by omega) (by omega) ⟨rfl,by simp[Nat.mod_one],by simp[Nat.mod_one]⟩
 simp only[Ao]
 rw[Bs (by omega) (by omega)]
 exact key
theorem Akw(a:List Aq)(i:Nat)(hi:i<9223372036854775807):Sp 296 [dL a,.int i] [.int ((nv a / 2 ^ i % 2:Nat):Int)]:=by
 refine Af 40 (Akx _ _ _) (Bi (by decide) ?_)
 simp only[Ao]
 rw[Int.tdiv_eq_ediv_of_nonneg (by omega),show (i:Int) / 32=((i / 32:Nat):Int) by omega,Aw (by omega) (by omega)]
 refine Aa (Kw a (i / 32) (by omega)) ?_
 simp only[Ag,Ao]
 have hm:Int.tmod (i:Int) 32=((i % 32:Nat):Int):=by rw[Int.tmod_eq_emod_of_nonneg (by omega)];omega
 have key:=Di (i % 32) (fun m k (v:Nat)=>Z2 40 m (i:Int) (v:Int) (k:Int)) (fun k v=>[.int ((v / 2 ^ (i % 32-k) % 2:Nat):Int)]) (fun _ v=>v<4294967296)
  (fun m v hv=>by
   simp only[YW,hm]
   refine Bi (by decide) (Ar (Bi (by decide) (Ac ?_)))
   rw[Int.tmod_eq_emod_of_nonneg (by omega),show (v:Int) % 2=((v % 2:Nat):Int) by omega,Fw (by omega) (by omega)]
   simp)
  (fun m k v hk hv ih=>by
   simp only[YW,hm]
   refine Bi (by decide) (Ad (Bi (by decide) ?_))
   rw[Ey (by omega),Int.tdiv_eq_ediv_of_nonneg (by omega),show (v:Int) / 2=((v / 2:Nat):Int) by omega,Bs (by omega) (by omega)]
   have:=ih (v / 2) (by omega)
   rw[show i % 32-k=(i % 32-(k+1))+1 by omega,Aqr,Aqg,← Aqm]
   exact this)
  40 0 (nv a / B ^ (i / 32) % B) (by omega) (by omega) (Aqe _ B1)
 rw[Nat.sub_zero,Ad6]at key
 exact key
theorem KH(a b:List Aq)(ha:a.length≤10000)(hb:b.length≤10000):Sp 244 [dL a,dL b] [dL (lb (nv a / nv b)),dL (lb (if nv b=0 then 0 else nv a % nv b)),.bool (decide (nv b≠0))]:=by
 refine Af (32*a.length+1) (Akz _ _ _) (Aa (Ol b (by omega)) ?_)
 simp only[Ag,B5,Apm,Cp]
 refine Ae (fun h=>Ac ?_) (fun h=> ?_)
 · have h0:nv b=0:=Hl.1 (by omega)
   simp[h0,Da,dL]
 · have h0:nv b≠0:=fun hh=>h (by rw[hh,Da];rfl)
   rw[decide_eq_true h0,if_neg h0]
   have key:=Js (P:=Tryz.prog) (md:=md) (fun m k (s:Nat×Nat)=>Tm (32*a.length+1) m (dL a) (dL b) (dL (lb s.1)) (dL (lb s.2)) ((k:Int)-1)) (fun _ _=>[dL (lb (nv a / nv b)),dL (lb (nv a % nv b)),.bool true])
    (fun k s=>k≤320000∧nv a / 2 ^ k=nv b*s.1+s.2∧s.2<nv b)
    (fun m s ⟨_,h1,h2⟩=>by
     simp only[YZ]
     refine Ar (Ac ?_)
     simp only[Nat.pow_zero,Nat.div_one]at h1
     rw[h1,Nat.mul_add_div (Nat.pos_of_ne_zero h0),Nat.div_eq_of_lt h2,Nat.mul_add_mod,Aqc h2];simp)
    (fun m k s ⟨hk,h1,h2⟩ ih=>by
     simp only[YZ,show ((k+1:Nat):Int)-1=(k:Int) by omega]
     have hr:(lb s.2).length≤b.length:=Ba.2 (Nat.lt_trans h2 (Cc b))
     have hq:(lb s.1).length≤a.length:=by
       refine Ba.2 (Nat.lt_of_le_of_lt ?_ (Cc a))
       have h3:nv a / 2 ^ (k+1)≤nv a:=Nat.div_le_self _ _
       have h4:=Nat.le_mul_of_pos_left s.1 (Nat.pos_of_ne_zero h0)
       omega
     have hbit:nv a / 2 ^ k % 2≤1:=by omega
     have hdec:nv a / 2 ^ k=2*(nv a / 2 ^ (k+1))+nv a / 2 ^ k % 2:=by
       rw[Aqr,← Aqm];omega
     generalize hbt:nv a / 2 ^ k % 2=bt at *
     have hlen2:(lb (2*s.2+bt)).length≤b.length+1:=by
       refine Ba.2 ?_
       have:=Cc b
       rw[Aqr,A0];rw[A0]at this;omega
     have sp1:=Akw a k (by omega)
     rw[hbt]at sp1
     refine Ad (Aa sp1 ?_)
     simp only[Ag,Ao]
     refine Aa (KK (lb s.2) bt hbit (by omega)) ?_
     simp only[Ag,Bv]
     refine Aa (KJ (lb (2*s.2+bt)) b (by omega) (by omega)) ?_
     simp only[Ag,C5,Bc,Bv]
     refine Ae (fun h3=> ?_) (fun h3=> ?_)
     · refine Aa (KK (lb s.1) 1 (by omega) (by omega)) ?_
       simp only[Ag,Bv]
       rw[Aw (by omega) (by omega)]
       refine ih (2*s.1+1,2*s.2+bt-nv b) ⟨by omega,?_,by simp only;omega⟩
       simp only
       rw[hdec,h1,Nat.mul_add,Nat.mul_add,Nat.mul_left_comm];omega
     · refine Aa (KK (lb s.1) 0 (by omega) (by omega)) ?_
       simp only[Ag,Bv]
       rw[Aw (by omega) (by omega)]
       refine ih (2*s.1+0,2*s.2+bt) ⟨by omega,?_,by simp only;omega⟩
       simp only
       rw[hdec,h1,Nat.mul_add,Nat.add_zero,Nat.mul_left_comm];omega)
    (32*a.length+1) (32*a.length) (0,0) (by omega) ⟨by omega,by
     rw[← MS,Nat.div_eq_of_lt (Cc a)];rfl,Nat.pos_of_ne_zero h0⟩
   rw[Aw (x:=32*(a.length:Int)) (by omega) (by omega),Aw (by omega) (by omega)]
   simp only[Da]at key
   exact key
theorem Ak0(a b:List Aq)(ha:a.length≤1000)(hb:b.length≤1000):Sp 243 [dL a,dL b] [dL (lb (Nat.gcd (nv a) (nv b)))]:=by
 obtain ⟨K,hK⟩ : ∃ K,K=1000:=⟨_,rfl⟩
 obtain ⟨J,hJ⟩ : ∃ J,J=32000:=⟨_,rfl⟩
 refine Af 100001 (Ak1 _ _ _) (Aa (Ol a (by omega)) (Aa (Ol b (by omega)) ?_))
 simp only[Ag]
 have key : ∀ (j k m x y:Nat),(lb x).length≤K→(lb y).length≤K→y<2 ^ j→k+2*j+2≤99000→2*j+1<m→Tw (Ok 100001 m (dL (lb x)) (dL (lb y)) (k:Int)) [dL (lb (Nat.gcd x y))]:=by
  intro j
  induction j with
  | zero =>
   intro k m x y _ _ hy hk hm
   obtain ⟨m,rfl⟩ : ∃ m',m=m'+1:=⟨m-1,by omega⟩
   have:y=0:=by simpa using hy
   subst this
   simp only[KI,B5,Apm,Da,Ap1]
   refine Ad (Ar (Ac ?_))
   rw[Nat.gcd_zero_right]
  | succ j ih =>
   intro k m x y hx hy hlt hk hm
   have stop : ∀ (k m x:Nat),k<100000→0<m→Tw (Ok 100001 m (dL (lb x)) (dL (lb 0)) (k:Int)) [dL (lb (Nat.gcd x 0))]:=by
     intro k m x hk hm
     obtain ⟨m,rfl⟩ : ∃ m',m=m'+1:=⟨m-1,by omega⟩
     simp only[KI,B5,Apm,Da,Ap1]
     refine Ad (Ar (Ac ?_))
     rw[Nat.gcd_zero_right]
   have step : ∀ (k m x y:Nat),k<100000→(lb x).length≤K→(lb y).length≤K→y≠0→Tw (Ok 100001 m (dL (lb y)) (dL (lb (x % y))) ((k+1:Nat):Int)) [dL (lb (Nat.gcd y (x % y)))]→Tw (Ok 100001 (m+1) (dL (lb x)) (dL (lb y)) (k:Int)) [dL (lb (Nat.gcd x y))]:=by
     intro k m x y hk hx hy h0 hw
     simp only[Tw,KI,B5,Apm]
     have hne:(lb y).length≠0:=fun hh=>h0 (Hl.1 hh)
     have sp:=KH (lb x) (lb y) (by omega) (by omega)
     rw[Bv,Bv,if_neg h0]at sp
     refine Ad (Ad (Aa sp ?_))
     simp only[C5]
     rw[Ey (by omega),Nat.gcd_comm x y,Nat.gcd_rec,Nat.gcd_comm]
     exact hw
   by_cases h0:y=0
   · subst h0;exact stop k m x (by omega) (by omega)
   · obtain ⟨m,rfl⟩ : ∃ m',m=m'+2:=⟨m-2,by omega⟩
     have hl1:(lb (x % y)).length≤K:=Ba.2 (Nat.lt_of_le_of_lt (Nat.le_of_lt (Aqe x (Nat.pos_of_ne_zero h0))) (Ba.1 hy))
     refine step k (m+1) x y (by omega) hx hy h0 ?_
     by_cases h1:x % y=0
     · rw[h1];exact stop (k+1) (m+1) y (by omega) (by omega)
     · refine step (k+1) m y (x % y) (by omega) hy hl1 h1 ?_
       have hh:=Ahb h0 h1
       refine ih (k+1+1) m (x % y) (y % (x % y)) hl1 (Ba.2 (Nat.lt_trans (Aqe y (Nat.pos_of_ne_zero h1)) (Ba.1 hl1))) ?_ (by omega) (by omega)
       rw[Aqr]at hlt;omega
 have h1:(lb (nv a)).length≤K:=Nat.le_trans (Ba.2 (Cc a)) (by omega)
 have h2:(lb (nv b)).length≤K:=Nat.le_trans (Ba.2 (Cc b)) (by omega)
 have hlt:nv b<2 ^ J:=by
  refine Aqk (Cc b) ?_
  rw[MS]
  exact Nat.pow_le_pow_right (by decide) (by omega)
 exact key J 0 100001 _ _ h1 h2 hlt (by omega) (by omega)
theorem We{α:Type} [DecidableEq α] {P:Program}{md:Nat→FMode}(f:α→D)(hf : ∀ x y,(f x).toInt=(f y).toInt→x=y)(a b:List α)(hlen:a.length=b.length)(hbig:a.length≤9223372036854775807)(L:Nat→Int→Tree)
  (hL : ∀ m i,L (m+1) i = .br (decide (i<((a.map f).length:Int))) (.br (decide (0≤i)) (.br (decide (i<((a.map f).length:Int))) (.br (decide (0≤i)) (.br (decide (i<((b.map f).length:Int)))
   (.br ((((a.map f).getD (Apj i) D.nil).toInt)!=(((b.map f).getD (Apj i) D.nil).toInt)) (.ret [D.bool false]) (L m (Api .i64 (i+1)))) .fail) .fail) .fail) .fail) (.ret [D.bool true])) :
  (L (a.length+1) 0).wp P md (fun zs=>zs = [.bool (decide (a=b))]):=by
 have key:=Xs (P:=P) (md:=md) a.length (fun m k (_:Unit)=>L m (k:Int)) (fun _ _=>[.bool (decide (a=b))]) (fun k _=>a.take k=b.take k)
  (fun m s h=>by
   simp only[hL,Apm]
   refine Ar (Ac ?_)
   rw[Aqh (Apx _),Aqh (by omega)]at h
   rw[decide_eq_true h])
  (fun m k s hk h ih=>by
   have ha:a[k]? = some a[k]:=Apk _
   have hb:b[k]? = some (b[k]'(by omega)):=Apk _
   simp only[hL,Apm,Apr,Au ha,Au hb,Do]
   refine Ad (Ad (Ad (Ad (Ad (Ae (fun hne=>Ac ?_) (fun heq=> ?_))))))
   · rw[decide_eq_false]
     rintro rfl
     exact hne rfl
   · rw[Ey (by omega)]
     refine ih () ?_
     have:a[k]=b[k]:=hf _ _ (Apw.1 heq)
     rw[List.take_succ_eq_append_getElem hk,List.take_succ_eq_append_getElem (by omega),h,this])
  (a.length+1) 0 () (by omega) (by omega) (by simp)
 exact key
theorem PN{k:Nat}(x y:BitVec k)(h:(dB x).toInt=(dB y).toInt):x=y:=BitVec.eq_of_toNat_eq (Int.ofNat.inj h)
theorem PX(x y:Int)(h:(D.int x).toInt=(D.int y).toInt):x=y:=h
theorem ZB(a b:List Aq)(ha:a.length≤9223372036854775807):Sp 211 [dL a,dL b] [.bool (decide (a=b))]:=by
 refine Af (a.length+1) (Ak4 _ _ _) ?_
 simp only[B5,Apm,Do]
 refine Ae (fun h=>Ac ?_) (fun h=> ?_)
 · rw[decide_eq_false];rintro rfl;exact h rfl
 · exact We dB PN a b (by omega) ha (fun m i=>Z_ (a.length+1) m (dL a) (dL b) i) (fun m i=>Ak3 _ _ _ _ _)
structure Wh where
 neg:Bool
 mag:List Aq
def dW(w:Wh):D:= .agg [.bool w.neg,dL w.mag]
def zv(w:Wh):Int:=if w.neg then -(nv w.mag:Int) else (nv w.mag:Int)
def wz(z:Int):Wh:=⟨decide (z<0),lb z.natAbs⟩
@[simp] theorem F0 (w:Wh):(dW w).fld 0 = .bool w.neg:=rfl
@[simp] theorem Fo (w:Wh):(dW w).fld 1=dL w.mag:=rfl
theorem Ae2(b:Bool)(l:List Aq):D.agg [.bool b,dL l]=dW ⟨b,l⟩:=rfl
theorem V8:D.agg [.bool false,.sl []]=dW (wz 0):=by simp[dW,wz,Da,dL]
theorem Ma(w:Wh):(zv w).natAbs=nv w.mag:=by unfold zv;split <;> omega
theorem Iv(w:Wh):(lb (zv w).natAbs).length≤w.mag.length:=by rw[Ma];exact Ba.2 (Cc _)
theorem Dg(z:Int):zv (wz z)=z:=by
 unfold zv wz
 simp only[Bv,decide_eq_true_eq]
 split <;> omega
theorem Uz(b:Bool)(n:Nat):zv ⟨b,lb n⟩=if b then -(n:Int) else (n:Int):=by simp only[zv,Bv]
theorem Apa:wz 0=⟨false,[]⟩:=by simp[wz,Da]
theorem AcE(b:Bool){n:Nat}(h:n≠0):wz (if b then -(n:Int) else (n:Int))=⟨b,lb n⟩:=by
 cases b <;> simp[wz] <;> omega
theorem AcF(w:Wh):wz (zv w)=if nv w.mag=0 then ⟨false,[]⟩ else ⟨w.neg,lb (nv w.mag)⟩:=by
 split
 · rename_i h
   unfold zv;rw[h];simp[Apa]
 · rename_i h
   unfold zv
   exact AcE _ h
theorem Rx(a b:Bool):(a == b)=decide (a=b):=by cases a <;> cases b <;> rfl
def Bd(z:Int):Prop:= -9223372036854775808≤z∧z≤9223372036854775807
instance (z:Int):Decidable (Bd z):=by unfold Bd;infer_instance
def Gl(z:Int):List D:=if Bd z then [.int z,.bool true] else [.int 0,.bool false]
def E8(z:Int):Int:=if z<0 then -1 else if z=0 then 0 else 1
def Cv(x y:Int):Int:=if x<y then -1 else if x=y then 0 else 1
theorem G6(w:Wh)(h:w.mag.length≤1000000):Sp 223 [dW w] [dW (wz (zv w))]:=by
 refine Af 0 (AkD _ _) (Aa (Ol w.mag h) ?_)
 simp only[Ag,B5,Apm,Cp,F0,Bc]
 refine Ae (fun h=>Ac ?_) (fun h=>Ac ?_)
 · have h0:nv w.mag=0:=Hl.1 (by omega)
   rw[AcF,if_pos h0];rfl
 · have h0:nv w.mag≠0:=fun hh=>h (by rw[hh,Da];rfl)
   rw[AcF,if_neg h0];rfl
theorem Um{n:Nat}(h:n<18446744073709551616):nv [Ap5 32 (n % 4294967296),Ap5 32 (n / 4294967296)]=n:=by
 simp only[nv,IW]
 rw[ofNat_lt (by rw[A0];omega),ofNat_lt (by rw[A0];omega),A0];omega
theorem KL(z:Int)(h:Bd z):Sp 225 [.int z] [dW (wz z)]:=by
 unfold Bd at h
 refine Af 0 (AkE _ _) ?_
 simp only[Ao]
 refine Ae (fun h0=> ?_) (fun h0=> ?_)
 · obtain ⟨n,rfl⟩ : ∃ n:Nat,z=n:=⟨z.toNat,by omega⟩
   have e : [D.int (Api .u32 (Int.tmod (n:Int) 4294967296)),D.int (Api .u32 (Api .i64 (Int.tdiv (n:Int) 4294967296)))] = [Ap5 32 (n % 4294967296),Ap5 32 (n / 4294967296)].map dB:=by
    rw[Int.tmod_eq_emod_of_nonneg (by omega),Int.tdiv_eq_ediv_of_nonneg (by omega),show (n:Int) % 4294967296=((n % 4294967296:Nat):Int) by omega,show (n:Int) / 4294967296=((n / 4294967296:Nat):Int) by omega,
     Aw (by omega) (by omega),Fw (by omega) (by omega),Fw (by omega) (by omega),E0 (by rw[A0];omega),E0 (by rw[A0];omega)];rfl
   rw[e]
   have hv:=Um (n:=n) (by omega)
   refine Bi (by decide) (Bi (by decide) (Aa (G6 ⟨false,[Ap5 32 (n % 4294967296),Ap5 32 (n / 4294967296)]⟩ (by simp)) (Ac ?_)))
   simp only[Ag,zv,hv];rfl
 · obtain ⟨n,rfl⟩ : ∃ n:Nat,z = -1-(n:Int):=⟨(-1-z).toNat,by omega⟩
   have e : [D.int (Api .u32 (Int.tmod (Api .i64 (-1-(-1-(n:Int)))) 4294967296)),D.int (Api .u32 (Api .i64 (Int.tdiv (Api .i64 (-1-(-1-(n:Int)))) 4294967296)))] = [Ap5 32 (n % 4294967296),Ap5 32 (n / 4294967296)].map dB:=by
    rw[show (-1:Int)-(-1-(n:Int))=(n:Int) by omega,Aw (x:=(n:Int)) (by omega) (by omega),Int.tmod_eq_emod_of_nonneg (by omega),Int.tdiv_eq_ediv_of_nonneg (by omega),show (n:Int) % 4294967296=((n % 4294967296:Nat):Int) by omega,show (n:Int) / 4294967296=((n / 4294967296:Nat):Int) by omega,
     Aw (by omega) (by omega),Fw (by omega) (by omega),Fw (by omega) (by omega),E0 (by rw[A0];omega),E0 (by rw[A0];omega)];rfl
   rw[e]
   have hv:=Um (n:=n) (by omega)
   have sp:=YV [Ap5 32 (n % 4294967296),Ap5 32 (n / 4294967296)] [1] (by simp) (by simp)
   rw[hv,show nv [1]=1 from rfl]at sp
   refine Bi (by decide) (Bi (by decide) (Aa sp ?_))
   simp only[Ag]
   have hl:(lb (n+1)).length≤3:=Ba.2 (by show n+1<79228162514264337593543950336;omega)
   refine Aa (G6 ⟨true,lb (n+1)⟩ (by simp only;omega)) (Ac ?_)
   simp only[Ag,Uz,if_true]
   rw[show -((n+1:Nat):Int) = -1-(n:Int) by omega]
theorem AkB(w:Wh)(h:w.mag.length≤1000000):Sp 309 [dW w] [dW (wz (-zv w))]:=by
 refine Af 0 (AkC _ _) ?_
 simp only[F0,Fo,Bc]
 refine Aa (G6 ⟨!w.neg,w.mag⟩ h) (Ac ?_)
 simp only[Ag]
 rw[show zv ⟨!w.neg,w.mag⟩ = -zv w by unfold zv;cases w.neg <;> simp]
theorem Ak9(a b:Wh)(ha:a.mag.length≤10000)(hb:b.mag.length≤10000):Sp 308 [dW a,dW b] [dW (wz (zv a+zv b))]:=by
 refine Af 0 (Ak_ _ _ _) (Aa (G6 a (by omega)) (Aa (G6 b (by omega)) ?_))
 have la:=Iv a
 have lb':=Iv b
 generalize zv a=x at *
 generalize zv b=y at *
 simp only[Ag,F0,Fo,Bc,Rx,wz]
 have hadd:(lb (x.natAbs+y.natAbs)).length≤10001:=by
   refine Ba.2 ?_
   have h1:=Ba.1 (Nat.le_trans la ha)
   have h2:=Ba.1 (Nat.le_trans lb' hb)
   obtain ⟨K,hK⟩ : ∃ K,K=10000:=⟨_,rfl⟩
   rw[← hK]at h1 h2
   rw[show 10001=K+1 by omega,Aqr,A0]
   rw[A0]at h1 h2
   omega
 have hsub : ∀ p q:Nat,(lb p).length≤10000→(lb (p-q)).length≤10000:=fun p q hp=>by
   obtain ⟨K,hK⟩ : ∃ K,K=10000:=⟨_,rfl⟩
   rw[← hK]at hp ⊢
   exact Ba.2 (Nat.lt_of_le_of_lt (Nat.sub_le _ _) (Ba.1 hp))
 refine Ae (fun h=> ?_) (fun h=> ?_)
 · have sp:=YV (lb x.natAbs) (lb y.natAbs) (by omega) (by omega)
   rw[Bv,Bv]at sp
   refine Aa sp ?_
   simp only[Ag]
   refine Aa (G6 ⟨decide (x<0),lb (x.natAbs+y.natAbs)⟩ (by simp only;omega)) (Ac ?_)
   simp only[Ag,Uz]
   have h':x<0↔y<0:=by simpa using h
   congr 2
   rw[show (if decide (x<0)=true then -((x.natAbs+y.natAbs:Nat):Int) else ((x.natAbs+y.natAbs:Nat):Int))=x+y by
     by_cases hx:x<0 <;> simp[hx] <;> omega]
   rfl
 · have h' : ¬ (x<0↔y<0):=by simpa using h
   have sp:=YY (lb x.natAbs) (lb y.natAbs) (by omega) (by omega)
   rw[Bv,Bv]at sp
   refine Aa sp ?_
   simp only[Ag,Ao,D8]
   refine Ae (fun h2=> ?_) (fun h2=> ?_)
   · have sp:=KJ (lb x.natAbs) (lb y.natAbs) (by omega) (by omega)
     rw[Bv,Bv]at sp
     refine Aa sp ?_
     simp only[Ag]
     refine Aa (G6 ⟨decide (x<0),lb (x.natAbs-y.natAbs)⟩ (by simp only;have:=hsub x.natAbs y.natAbs (by omega);omega)) (Ac ?_)
     simp only[Ag,Uz]
     have hge:y.natAbs≤x.natAbs:=by split at h2 <;> omega
     rw[show (if decide (x<0)=true then -((x.natAbs-y.natAbs:Nat):Int) else ((x.natAbs-y.natAbs:Nat):Int))=x+y by
      by_cases hx:x<0 <;> simp[hx] <;> omega]
     rfl
   · have sp:=KJ (lb y.natAbs) (lb x.natAbs) (by omega) (by omega)
     rw[Bv,Bv]at sp
     refine Aa sp ?_
     simp only[Ag]
     refine Aa (G6 ⟨decide (y<0),lb (y.natAbs-x.natAbs)⟩ (by simp only;have:=hsub y.natAbs x.natAbs (by omega);omega)) (Ac ?_)
     simp only[Ag,Uz]
     have hge:x.natAbs<y.natAbs:=by
      rcases Nat.lt_or_ge x.natAbs y.natAbs with h3 | h3
      · exact h3
      · rw[if_neg (by omega)]at h2;split at h2 <;> omega
     rw[show (if decide (y<0)=true then -((y.natAbs-x.natAbs:Nat):Int) else ((y.natAbs-x.natAbs:Nat):Int))=x+y by
      by_cases hx:y<0 <;> simp[hx] <;> omega]
     rfl
theorem AkJ(a b:Wh)(ha:a.mag.length≤10000)(hb:b.mag.length≤10000):Sp 267 [dW a,dW b] [dW (wz (zv a-zv b))]:=by
 refine Af 0 (AkK _ _ _) (Aa (AkB b (by omega)) ?_)
 simp only[Ag]
 have:=Iv b
 refine Aa (Ak9 a (wz (-zv b)) ha (by simp only[wz,Int.natAbs_neg];omega)) (Ac ?_)
 simp only[Ag,Dg,← Int.sub_eq_add_neg]
theorem AkF(a:Wh)(ha:a.mag.length≤1000000):Sp 266 [dW a] [.int (E8 (zv a))]:=by
 refine Af 0 (AkG _ _) (Aa (G6 a ha) ?_)
 generalize zv a=x
 simp only[Ag,F0,Fo,B5,Apm,Cp,Bc,wz]
 have h0:((lb x.natAbs).length:Int)=0↔x=0:=by rw[Int.natCast_eq_zero,Hl];omega
 unfold E8
 refine Ae (fun h=>Ac ?_) (fun h=>Ae (fun h2=>Ac ?_) (fun h2=>Ac ?_))
 · rw[if_neg (by have:=h0.1 h;omega),if_pos (h0.1 h)]
 · rw[if_pos h2]
 · rw[if_neg h2,if_neg (fun hh=>h (h0.2 hh))]
theorem An3{a b:Wh}{k:Nat}(ha:a.mag.length≤k)(hb:b.mag.length≤k):(wz (zv a-zv b)).mag.length≤k+1:=by
 simp only[wz]
 refine Ba.2 ?_
 have h1:=Ba.1 (Nat.le_trans (Iv a) ha)
 have h2:=Ba.1 (Nat.le_trans (Iv b) hb)
 rw[Aqr,A0]
 rw[A0]at h1 h2
 omega
theorem ZE(a b:Wh)(ha:a.mag.length≤10000)(hb:b.mag.length≤10000):Sp 224 [dW a,dW b] [.int (Cv (zv a) (zv b))]:=by
 refine Af 0 (AkA _ _ _) (Aa (AkJ a b ha hb) ?_)
 simp only[Ag]
 have:=An3 ha hb
 refine Aa (AkF _ (by omega)) (Ac ?_)
 simp only[Ag,Ao,Dg]
 congr 2
 unfold E8 Cv
 split <;> split <;> first | rfl | omega | (split <;> split <;> first | rfl | omega) | (split <;> first | rfl | omega)
theorem AkH(a:Wh)(ha:a.mag.length≤10000):Sp 163 [dW a] (Gl (zv a)):=by
 refine Af 10 (AkI _ _) (Aa (G6 a (by omega)) ?_)
 generalize zv a=z
 simp only[Ag,F0,Fo,B5,Apm]
 refine Ae (fun h=>Ac ?_) (fun h=> ?_)
 · have : ¬ (lb z.natAbs).length≤2:=by simp only[wz]at h;omega
   rw[Ba]at this
   have : ¬ Bd z:=by
     intro hr
     apply this
     unfold Bd at hr
     show z.natAbs<18446744073709551616
     omega
   rw[Gl,if_neg this]
 · have hl:(wz z).mag.length≤2:=by omega
   have hof : ∀ y,Bd y→(wz y).mag.length≤2:=fun y hy=>Ba.2 (by unfold Bd at hy;show y.natAbs<18446744073709551616;omega)
   have r1:Bd 9223372036854775807:=by decide
   have r2:Bd (-9223372036854775808):=by decide
   refine Aa (KL _ r1) (Aa (ZE (wz z) (wz 9223372036854775807) (by omega) (by have:=hof _ r1;omega)) ?_)
   simp only[Ag,Ao,Dg,Cv]
   refine Ae (fun h2=>Ac ?_) (fun h2=> ?_)
   · rw[Gl,if_neg]
     unfold Bd
     split at h2
     · omega
     · split at h2 <;> omega
   · refine Aa (KL _ r2) (Aa (ZE (wz z) (wz (-9223372036854775808)) (by omega) (by have:=hof _ r2;omega)) ?_)
     simp only[Ag,Ao,Dg,Cv]
     refine Ae (fun h3=>Ac ?_) (fun h3=> ?_)
     · rw[Gl,if_neg]
       unfold Bd
       split at h3
       · omega
       · split at h3 <;> omega
     · have hz:Bd z:=by
        unfold Bd
        constructor
        · split at h3 <;> omega
        · split at h2
          · omega
          · split at h2 <;> omega
       rw[Gl,if_pos hz]
       have key:=Js (P:=Tryz.prog) (md:=md) (fun m k (x:Int)=>To 10 m x ((k:Int)-1) (dW (wz z))) (fun _ _=>[.int z,.bool true])
        (fun k x=>k≤(wz z).mag.length∧x=if z<0 then -((z.natAbs / B ^ k:Nat):Int) else ((z.natAbs / B ^ k:Nat):Int))
        (fun m x ⟨_,hx⟩=>by
          simp only[ZF]
          refine Ar (Ac ?_)
          rw[hx]
          simp only[Nat.pow_zero,Nat.div_one]
          congr 2
          split <;> omega)
        (fun m k x ⟨hk,hx⟩ ih=>by
          have hk':k<(lb z.natAbs).length:=hk
          have hg:(lb z.natAbs)[k]? = some (lb z.natAbs)[k]:=Apk _
          simp only[ZF,show ((k+1:Nat):Int)-1=(k:Int) by omega,F0,Fo,B5,Apm,Bc,Apr]
          have e1:(wz z).mag=lb z.natAbs:=rfl
          have e2:(wz z).neg=decide (z<0):=rfl
          rw[e1,e2,Au hg,Ej,Eh,Bv]
          have hd:=Nat.mod_add_div (z.natAbs / B ^ k) B
          rw[Aqm,← Aqr]at hd
          have hle:z.natAbs / B ^ k≤z.natAbs:=Nat.div_le_self _ _
          have hm:=Aqe (z.natAbs / B ^ k) B1
          unfold Bd at hz
          have ih':=ih (if z<0 then -((z.natAbs / B ^ k:Nat):Int) else ((z.natAbs / B ^ k:Nat):Int)) ⟨by omega,rfl⟩
          generalize z.natAbs / B ^ k=p at *
          generalize z.natAbs / B ^ (k+1)=q at *
          generalize p % B=r at *
          rw[A0]at hd hm
          refine Ad (Ae (fun hn=> ?_) (fun hn=> ?_))
          · rw[if_pos hn]at hx ih'
            refine Ad (Ad ?_)
            rw[hx,Aw (x:= -(q:Int)*4294967296) (by omega) (by omega),Aw (x:=(r:Int)) (by omega) (by omega),Aw (x:= -(q:Int)*4294967296-r) (by omega) (by omega),Aw (by omega) (by omega),show -(q:Int)*4294967296-(r:Int) = -(p:Int) by omega]
            exact ih'
          · rw[if_neg hn]at hx ih'
            refine Ad (Ad ?_)
            rw[hx,Aw (x:=(q:Int)*4294967296) (by omega) (by omega),Aw (x:=(r:Int)) (by omega) (by omega),Aw (x:=(q:Int)*4294967296+r) (by omega) (by omega),Aw (by omega) (by omega),show (q:Int)*4294967296+(r:Int)=(p:Int) by omega]
            exact ih')
        10 (wz z).mag.length 0 (by omega) ⟨Apx _,by
          have:z.natAbs / B ^ (wz z).mag.length=0:=Nat.div_eq_of_lt (Ba.1 (Apx _))
          rw[this];simp⟩
       rw[Aw (by omega) (by omega)]
       exact key
theorem F7(l:List Aq)(hl:l.length<9223372036854775807):Sp 321 [dL l] [dL (lb (nv l))]:=by
 refine Af (l.length+1) (AhK _ _) ?_
 have:=Js (P:=Tryz.prog) (md:=md) (fun m k (_:Unit)=>Ym (l.length+1) m (dL l) (k:Int)) (fun _ _=>[dL (lb (nv l))]) (fun k _=>k≤l.length∧∀ i,k≤i→(hi:i<l.length)→l[i]=0)
  (fun m s ⟨h1,h2⟩=>by
   simp only[VC,B5,Apm,Ap0]
   refine Ar (Ad (Ad (Ad (Ac ?_))))
   rw[Xq (k:=0) (by omega) h2 (fun _ h=>by omega),V7];rfl)
  (fun m k s ⟨h1,h2⟩ ih=>by
   have hk:l[k]? = some l[k]:=Apk _
   simp only[VC,B5,Apm,Ap0,AcD k (by omega),Apr,Au hk,Ej,Cp]
   refine Ad (Ad (Ad (Ae (fun h=> ?_) (fun h=> ?_))))
   · refine ih () ⟨by omega,fun i hi hlt=> ?_⟩
     by_cases he:i=k
     · subst he;exact BitVec.eq_of_toNat_eq (by simp;omega)
     · exact h2 i (by omega) hlt
   · refine Ad (Ad (Ad (Ac ?_)))
     rw[Xq (k:=k+1) (by omega) h2 (fun _ _ hc=>h (by have hc':l[k]=0:=hc;rw[hc'];rfl)),V7])
  (l.length+1) l.length () (by omega) ⟨Apx _,fun i h1 h2=>by omega⟩
 simpa using this
theorem Ig(l:List Aq)(hl:l.length≤1000000):Sp 299 [dL l] [dL (lb (nv l))]:=by
 refine Af 0 (Ah8 _ _) (Aa (F7 l (by omega)) ?_)
 have h1:(lb (nv l)).length≤l.length:=Ba.2 (Cc l)
 simp only[Ag,B5,Apm,Aqp,Apr]
 refine Ad (Ad (Ay (by unfold Ak;omega) (Ac ?_)))
 rw[Aqh (by simp),List.drop_eq_nil_of_le (by simp),Ap6];rfl
theorem L7(b:Bool)(n:Nat):Sp 298 [.bool b,dL (lb n)] [dW (wz (if b then -(n:Int) else (n:Int)))]:=by
 refine Af 0 (AoW _ _ _) ?_
 simp only[B5,Apm,Cp,Bc]
 refine Ae (fun h=>Ac ?_) (fun h=>Ac ?_)
 · have:n=0:=Hl.1 (by omega)
   subst this
   simp[V8]
 · have:n≠0:=fun hh=>h (by rw[hh,Da];rfl)
   rw[AcE _ this];rfl
theorem DH(w:Wh)(h:w.mag.length≤1000000):Sp 269 [dW w] [dW (wz (zv w))]:=by
 refine Af 0 (AoO _ _) (Aa (Ig w.mag h) ?_)
 simp only[Ag,F0,Bc]
 exact Aa (L7 w.neg (nv w.mag)) (Ac rfl)
theorem Po(x:Nat):Aqd (x:Int) (2 ^ (min (Apj 32) (Apv .u64)))=((x / 4294967296:Nat):Int):=by
 show Aqd (x:Int) 4294967296=_
 rw[Int.fdiv_eq_ediv_of_nonneg _ (by omega)];omega
theorem Aov{z:Int}(h:z<0)(h2 : -9223372036854775808≤z):Api .u64 (0-Api .u64 z) = -z:=by
 rw[IntKind.wrap_u64,IntKind.wrap_u64];omega
theorem Uu(z:Int)(h:Bd z):Sp 246 [.int z] [dW (wz z)]:=by
 unfold Bd at h
 refine Af 0 (AoP _ _) ?_
 simp only[Ao]
 have main : ∀ n:Nat,n<18446744073709551616→[D.int (Api .u32 (n:Int)),D.int (Api .u32 (Aqd (n:Int) (2 ^ (min (Apj 32) (Apv .u64)))))] = [Ap5 32 (n % 4294967296),Ap5 32 (n / 4294967296)].map dB:=by
   intro n hn
   rw[Po,Fw (x:=((n / 4294967296:Nat):Int)) (by omega) (by omega),E0 (t:=n / 4294967296) (by rw[A0];omega),show Api .u32 (n:Int)=((n % 4294967296:Nat):Int) by rw[IntKind.wrap_u32];omega,E0 (t:=n % 4294967296) (by rw[A0];omega)];rfl
 refine Ae (fun h0=> ?_) (fun h0=> ?_)
 · obtain ⟨n,hn⟩ : ∃ n:Nat,-z=n:=⟨(-z).toNat,by omega⟩
   rw[Aov h0 h.1,hn,main n (by omega)]
   simp only[h0,decide_true]
   have sp:=Ig [Ap5 32 (n % 4294967296),Ap5 32 (n / 4294967296)] (by simp)
   rw[Um (by omega)]at sp
   refine Ad (Aa sp ?_)
   simp only[Ag]
   refine Aa (L7 true n) (Ac ?_)
   simp only[Ag,if_true]
   rw[show -(n:Int)=z by omega]
 · obtain ⟨n,rfl⟩ : ∃ n:Nat,z=n:=⟨z.toNat,by omega⟩
   rw[Bs (by omega) (by omega),main n (by omega)]
   simp only[h0,decide_false]
   have sp:=Ig [Ap5 32 (n % 4294967296),Ap5 32 (n / 4294967296)] (by simp)
   rw[Um (by omega)]at sp
   refine Ad (Aa sp ?_)
   simp only[Ag]
   exact Aa (L7 false n) (Ac rfl)
theorem JH{x d:Nat}(hx:x<4294967296)(hd:d<4294967296):Br .or .u64 (x:Int) ((d*4294967296:Nat):Int)=((x+d*4294967296:Nat):Int):=by
 have h:=JG (Ap5 64 x) (Ap5 64 (d*4294967296))
 rw[BitVec.toNat_or,BitVec.toNat_ofNat,BitVec.toNat_ofNat,Aqc (a:=x) (by omega),Aqc (a:=d*4294967296) (by omega)]at h
 rw[h]
 congr 1
 have:=Nat.two_pow_add_eq_or_of_lt (i:=32) (b:=x) (by omega) d
 rw[show 2 ^ 32*d=d*4294967296 by omega]at this
 rw[Nat.or_comm,← this];omega
theorem AoS(a:Wh)(ha:a.mag.length≤1000000):Sp 228 [dW a] (Gl (zv a)):=by
 refine Af 10 (AoT _ _) (Aa (DH a (by omega)) ?_)
 generalize zv a=z
 simp only[Ag,F0,Fo,B5,Apm]
 refine Ae (fun h=>Ac ?_) (fun h=> ?_)
 · have : ¬ (lb z.natAbs).length≤2:=by simp only[wz]at h;omega
   rw[Ba]at this
   have : ¬ Bd z:=by
    intro hr
    apply this
    unfold Bd at hr
    show z.natAbs<18446744073709551616
    omega
   rw[Gl,if_neg this]
 · have hl:(lb z.natAbs).length≤2:=by simp only[wz]at h;omega
   have hlt:z.natAbs<18446744073709551616:=Ba.1 hl
   have fin : ∀ (m:Nat) (t:D) (k:Int),Tw (Rj 10 (m+1) (z.natAbs:Int) t k k (dW (wz z))) (Gl z):=by
    intro m t k
    simp only[Tw,Ac5,F0,Bc,wz]
    refine Ar (Ae (fun hn=>Ae (fun h2=>Ac ?_) (fun h2=>Ac ?_)) (fun hn=>Ae (fun h2=>Ac ?_) (fun h2=>Ac ?_)))
    · rw[Gl,if_neg];unfold Bd;omega
    · rw[Gl,if_pos (by unfold Bd;omega),IntKind.wrap_u64,IntKind.wrap_i64]
      congr 2
      omega
    · rw[Gl,if_neg];unfold Bd;omega
    · rw[Gl,if_pos (by unfold Bd;omega),Aw (by omega) (by omega)]
      congr 2
      omega
   have one : ∀ (m:Nat) (l:List Aq) (t:Int) (k x:Nat) (d:Aq),k≤1→l[k]? = some d→(k:Int)<t→(k=0→x=0)→x<4294967296→Tw (Rj 10 m ((x+d.toNat*4294967296 ^ k:Nat):Int) (dL l) t ((k+1:Nat):Int) (dW (wz z))) (Gl z)→Tw (Rj 10 (m+1) (x:Int) (dL l) t (k:Int) (dW (wz z))) (Gl z):=by
    intro m l t k x d hk hd ht hx hx2 hw
    have hkl:k<l.length:=(Apo.1 hd).1
    have hdl:=Fe d
    rw[A0]at hdl
    simp only[Tw,Ac5,B5,Apm,Apr,Au hd,Ej]
    rw[Aw (x:=32*(k:Int)) (by omega) (by omega),Bs (x:=32*(k:Int)) (by omega) (by omega),Bs (x:=(d.toNat:Int)) (by omega) (by omega),Ey (by omega)]
    refine Ad (Ad (Ad (Ad ?_)))
    have e:Br .or .u64 (x:Int) (Api .u64 ((d.toNat:Int)*2 ^ (min (Apj (32*(k:Int))) (Apv .u64))))=((x+d.toNat*4294967296 ^ k:Nat):Int):=by
      rcases (by omega:k=0∨k=1) with rfl | rfl
      · rw[hx rfl]
        show Br .or .u64 ((0:Nat):Int) (Api .u64 ((d.toNat:Int)*1))=_
        rw[Int.mul_one,Bs (by omega) (by omega)]
        have:=JG (0:At) (Ap5 64 d.toNat)
        rw[BitVec.toNat_or,BitVec.toNat_ofNat,Aqc (a:=d.toNat) (by omega)]at this
        simpa using this
      · show Br .or .u64 (x:Int) (Api .u64 ((d.toNat:Int)*4294967296))=_
        rw[show (d.toNat:Int)*4294967296=((d.toNat*4294967296:Nat):Int) by omega,Bs (by omega) (by omega),JH hx2 hdl]
        try simp
    rw[e]
    exact hw
   have hz0:z.natAbs=nv (lb z.natAbs):=(Bv _).symm
   simp only[show (wz z).mag=lb z.natAbs from rfl]
   generalize hll:lb z.natAbs=ll at *
   match ll,hl with
   | [],_ =>
    have:z.natAbs=0:=by simpa using hz0
    have hf:=fin 9 (dL []) 0
    rw[this]at hf
    exact hf
   | [d],_ =>
    have:z.natAbs=d.toNat:=by simpa [nv]using hz0
    refine one 9 [d] 1 0 0 d (by omega) rfl (by omega) (fun _=>rfl) (by omega) ?_
    have hf:=fin 8 (dL [d]) 1
    rw[this]at hf
    simpa using hf
   | [d,e],_ =>
    have:z.natAbs=d.toNat+e.toNat*4294967296:=by simp only[nv,IW]at hz0;rw[A0]at hz0;omega
    have hdl:=Fe d
    rw[A0]at hdl
    refine one 9 [d,e] 2 0 0 d (by omega) rfl (by omega) (fun _=>rfl) (by omega) ?_
    have:=one 8 [d,e] 2 1 d.toNat e (by omega) rfl (by omega) (fun h=>by omega) (by omega) (by
      have hf:=fin 7 (dL [d,e]) 2
      rw[this]at hf
      simpa using hf)
    simpa using this
def Bt(n:Num):Int:=zv ⟨n.neg,n.top⟩
def Bq(n:Num):Int:=(nv n.bot:Int)
def Cy(z:Int):Num:=⟨decide (z<0),lb z.natAbs,[1]⟩
def Mw:Option Int→List D
 | some z=>[.int z,.bool true]
 | none=>[.int 0,.bool false]
def Nj(z:Int):Option Int:=if Bd z then some z else none
theorem AbD(z:Int):Gl z=Mw (Nj z):=by unfold Gl Nj;split <;> rfl
def Dz(n:Num):Option Int:=if n.bot = [1] then Nj (Bt n) else none
def Db(p q:Int):Num×Int :=
 if q=0 then (.zero,3)
 else if 32<(lb (p.natAbs / Nat.gcd p.natAbs q.natAbs)).length∨32<(lb (q.natAbs / Nat.gcd p.natAbs q.natAbs)).length then (.zero,7)
 else (⟨decide (0<(lb (p.natAbs / Nat.gcd p.natAbs q.natAbs)).length)&& !(decide (p<0)==decide (q<0)),lb (p.natAbs / Nat.gcd p.natAbs q.natAbs),lb (q.natAbs / Nat.gcd p.natAbs q.natAbs)⟩,0)
def Ev(n:Num):Bool:=decide (n.top.length≤32∧n.bot.length≤32∧Db (Bt n) (Bq n)=(n,0))
theorem Jm:D.agg [.bool false,.sl [],.sl []]=dN .zero:=rfl
theorem Aiw(l:List Aq):(l = [1])↔(l.length=1∧∀ h:0<l.length,l[0].toNat=1):=by
 constructor
 · rintro rfl;exact ⟨rfl,fun _=>rfl⟩
 · rintro ⟨h1,h2⟩
   match l,h1 with
   | [x],_=>have:=h2 (by simp);simp at this;exact congrArg (· :: []) (BitVec.eq_of_toNat_eq (by simpa using this))
theorem VW{P:Program}{md:Nat→FMode}(l:List Aq):(Tree.br (((l.map dB).length:Int)==1) (.br (decide (0≤(0:Int))) (.br (decide (0<((l.map dB).length:Int))) (.ret [D.bool ((((l.map dB).getD (Apj 0) D.nil).toInt)==1)]) .fail) .fail) (.ret [D.bool false])).wp P md (fun zs=>zs = [.bool (decide (l = [1]))]):=by
 simp only[Apm,Cp]
 refine Ae (fun h=>Ad (Ad (Ac ?_))) (fun h=>Ac ?_)
 · have hg:l[0]? = some (l[0]'(by omega)):=Apk _
   rw[show Apj 0=0 from rfl,Au hg,Ej]
   congr 2
   rw[decide_eq_decide,Aiw]
   refine ⟨fun hh=>⟨by omega,fun _=>by omega⟩,fun hh=>by have:=hh.2 (by omega);omega⟩
 · rw[decide_eq_false];rintro rfl;exact h rfl
theorem AkN(n:Num):Sp 162 [dN n] [.bool (decide (n.bot = [1]))]:=by
 refine Af 0 (AkO _ _) ?_
 simp only[Nu,B5]
 exact VW n.bot
theorem Lr(l:List Aq):Sp 227 [dL l] [.bool (decide (l = [1]))]:=by
 refine Af 0 (Ake _ _) ?_
 simp only[B5]
 exact VW l
theorem ZH(n:Num)(h:n.top.length≤1000000):Sp 164 [dN n] [dW (wz (Bt n))]:=by
 refine Af 0 (AkY _ _) ?_
 simp only[Nt,Pi,Bc]
 exact Aa (G6 ⟨n.neg,n.top⟩ h) (Ac rfl)
theorem AkL(n:Num)(h:n.bot.length≤1000000):Sp 210 [dN n] [dW (wz (Bq n))]:=by
 refine Af 0 (AkM _ _) ?_
 simp only[Nu]
 exact Aa (G6 ⟨false,n.bot⟩ h) (Ac rfl)
theorem AkZ(w:Wh)(h:w.mag.length≤1000000):Sp 226 [dW w] [dN (Cy (zv w))]:=by
 refine Af 0 (Ala _ _) (Aa (G6 w h) (Ac rfl))
theorem AkR(z:Int)(h:Bd z):Sp 165 [.int z] [dN (Cy z)]:=by
 refine Af 0 (AkS _ _) (Aa (KL z h) ?_)
 have hl:(wz z).mag.length≤2:=Ba.2 (by unfold Bd at h;show z.natAbs<18446744073709551616;omega)
 refine Aa (AkZ (wz z) (by omega)) (Ac ?_)
 rw[Dg];rfl
theorem AkW(n:Num)(h:n.top.length≤10000):Sp 77 [dN n] (Mw (Dz n)):=by
 refine Af 0 (AkX _ _) (Aa (AkN n) ?_)
 simp only[Ag,Bc,Ft]
 unfold Dz
 refine Ae (fun h=>Ac ?_) (fun h0=> ?_)
 · rw[if_neg h];rfl
 · rw[if_pos (Apw.1 h0)]
   refine Aa (ZH n (by omega)) ?_
   have hl:(wz (Bt n)).mag.length≤n.top.length:=Iv ⟨n.neg,n.top⟩
   refine Aa (AkH (wz (Bt n)) (by omega)) ?_
   rw[Dg,AbD]
   cases Nj (Bt n) <;> exact Ac rfl
theorem F8(n:Num):Sp 229 [dN n] [dW ⟨n.neg,n.top⟩]:=Af 0 (Akf _ _) (Ac rfl)
theorem Zr(n:Num)(h:n.top.length≤1000000):Sp 166 [dN n] (Mw (Dz n)):=by
 refine Af 0 (AjZ _ _) (Aa (Lr n.bot) ?_)
 simp only[Ag,Bc,Ft]
 unfold Dz
 refine Ae (fun h=>Ac ?_) (fun h0=> ?_)
 · rw[if_neg h];rfl
 · rw[if_pos (Apw.1 h0)]
   refine Aa (F8 n) (Aa (AoS ⟨n.neg,n.top⟩ h) ?_)
   rw[AbD,show zv ⟨n.neg,n.top⟩=Bt n from rfl]
   cases Nj (Bt n) <;> exact Ac rfl
def Nl(z:Int):Num:=if 32<(lb z.natAbs).length then .zero else Cy z
theorem Zs(w:Wh)(h:w.mag.length≤1000000):Sp 245 [dW w] [dN (Nl (zv w))]:=by
 refine Af 0 (Akb _ _) (Aa (DH w h) ?_)
 simp only[Ag,F0,Fo,B5,Apm,Bc]
 unfold Nl
 refine Ae (fun h=>Ac ?_) (fun h=>Ac ?_)
 · rw[if_pos (by simp only[wz]at h;omega)];rfl
 · rw[if_neg (by simp only[wz]at h;omega)];rfl
theorem M4(z:Int)(h:Bd z):Sp 212 [.int z] [dN (Cy z)]:=by
 refine Af 0 (AjT _ _) (Aa (Uu z h) ?_)
 have hl:(wz z).mag.length≤2:=Ba.2 (by unfold Bd at h;show z.natAbs<18446744073709551616;omega)
 refine Aa (Zs (wz z) (by omega)) (Ac ?_)
 rw[Dg,Nl,if_neg (by simp only[wz]at hl;omega)];rfl
theorem IU(a b:Num):(a=b)↔(a.neg=b.neg∧a.top=b.top∧a.bot=b.bot):=by
 cases a;cases b;simp
theorem ZG(a b:Num)(h1:a.top.length≤9223372036854775807)(h2:a.bot.length≤9223372036854775807):Sp 137 [dN a,dN b] [.bool (decide (a=b))]:=by
 refine Af 0 (AkV _ _ _) ?_
 simp only[Nt,Pi,Nu,Bc,Rx]
 refine Ae (fun e1=>Aa (ZB a.top b.top h1) ?_) (fun e1=>Ac ?_)
 · simp only[Ag,Bc]
   refine Ae (fun e2=>Aa (ZB a.bot b.bot h2) (Ac ?_)) (fun e2=>Ac ?_)
   · simp only[Ag,Bc]
     congr 2
     rw[decide_eq_decide,IU];simp[e1,e2]
   · rw[decide_eq_false];rintro rfl;exact e2 rfl
 · rw[decide_eq_false];rintro rfl;exact e1 rfl
theorem Ab1(a b:List Aq)(ha:a.length≤9223372036854775807):Sp 312 [dL a,dL b] [.bool (decide (a=b))]:=by
 refine Af (a.length+1) (AmT _ _ _) ?_
 simp only[B5,Apm,Do]
 refine Ae (fun h=>Ac ?_) (fun h=> ?_)
 · rw[decide_eq_false];rintro rfl;exact h rfl
 · refine We dB PN a b (by omega) ha (fun m i=>CE (a.length+1) m (dL a) (dL b) (a.length:Int) i) (fun m i=> ?_)
   rw[AmS]
   simp only[B5,Apm]
theorem Ab0(a b:List Int)(ha:a.length≤9223372036854775807):Sp 234 [dI a,dI b] [.bool (decide (a=b))]:=by
 refine Af (a.length+1) (AmR _ _ _) ?_
 simp only[Cf,Apm,Do]
 refine Ae (fun h=>Ac ?_) (fun h=> ?_)
 · rw[decide_eq_false];rintro rfl;exact h rfl
 · refine We D.int PX a b (by omega) ha (fun m i=>CC (a.length+1) m (dI a) (dI b) (a.length:Int) i) (fun m i=> ?_)
   rw[AmQ]
   simp only[Cf,Apm]
theorem AjW(a b:Num)(h1:a.top.length≤9223372036854775807)(h2:a.bot.length≤9223372036854775807):Sp 274 [dN a,dN b] [.bool (decide (a=b))]:=by
 refine Af 0 (AjX _ _ _) ?_
 simp only[Nt,Pi,Nu,Bc,Rx]
 refine Ae (fun e1=>Aa (Ab1 a.top b.top h1) ?_) (fun e1=>Ac ?_)
 · simp only[Ag,Bc]
   refine Ae (fun e2=>Aa (Ab1 a.bot b.bot h2) (Ac ?_)) (fun e2=>Ac ?_)
   · simp only[Ag,Bc]
     congr 2
     rw[decide_eq_decide,IU];simp[e1,e2]
   · rw[decide_eq_false];rintro rfl;exact e2 rfl
 · rw[decide_eq_false];rintro rfl;exact e1 rfl
theorem AkP(p q:Wh)(hp:p.mag.length≤1000)(hq:q.mag.length≤1000):Sp 209 [dW p,dW q] [dN (Db (zv p) (zv q)).1,.int (Db (zv p) (zv q)).2]:=by
 refine Af 0 (AkQ _ _ _) (Aa (G6 p (by omega)) (Aa (G6 q (by omega)) ?_))
 have lp:=Iv p
 have lq:=Iv q
 generalize zv p=x at *
 generalize zv q=y at *
 simp only[Ag,F0,Fo,B5,Apm,Bc,Cp,wz]
 refine Ae (fun h=>Ac ?_) (fun h=> ?_)
 · have:y=0:=by have:=Hl.1 (show (lb y.natAbs).length=0 by omega);omega
   unfold Db;rw[if_pos this];rfl
 · have hy:y≠0:=fun hh=>h (by rw[hh];simp[Da])
   have sp:=Ak0 (lb x.natAbs) (lb y.natAbs) (by omega) (by omega)
   rw[Bv,Bv]at sp
   refine Aa sp ?_
   simp only[Ag]
   have hg:Nat.gcd x.natAbs y.natAbs≠0:=fun hh=>hy (by have:=(Nat.gcd_eq_zero_iff.1 hh).2;omega)
   have hgl:(lb (Nat.gcd x.natAbs y.natAbs)).length≤1000:=by
    refine Nat.le_trans ?_ (Nat.le_trans lq hq)
    refine Ba.2 (Nat.lt_of_le_of_lt (Nat.gcd_le_right _ (by omega)) (Ba.1 (Apx _)))
   have sp1:=KH (lb x.natAbs) (lb (Nat.gcd x.natAbs y.natAbs)) (by omega) (by omega)
   have sp2:=KH (lb y.natAbs) (lb (Nat.gcd x.natAbs y.natAbs)) (by omega) (by omega)
   rw[Bv,Bv]at sp1 sp2
   refine Aa sp1 (Aa sp2 ?_)
   simp only[Ag,B5,Apm]
   unfold Db
   rw[if_neg hy]
   refine Ae (fun h1=>Ac ?_) (fun h1=>Ae (fun h2=>Ac ?_) (fun h2=>Ae (fun h3=>Ac ?_) (fun h3=>Ac ?_)))
   · rw[if_pos (by omega)];rfl
   · rw[if_pos (by omega)];rfl
   · rw[if_neg (by omega),decide_eq_true (p:=0<(lb (x.natAbs / Nat.gcd x.natAbs y.natAbs)).length) (by omega),Bool.true_and];rfl
   · rw[if_neg (by omega),decide_eq_false (p:=0<(lb (x.natAbs / Nat.gcd x.natAbs y.natAbs)).length) (by omega),Bool.false_and];rfl
theorem AkT(n:Num):Sp 133 [dN n] [.bool (Ev n)]:=by
 refine Af 0 (AkU _ _) ?_
 simp only[Pi,Nu,B5,Apm]
 unfold Ev
 refine Ae (fun h=>Ac ?_) (fun h=>Ae (fun h'=>Ac ?_) (fun h'=> ?_))
 · rw[decide_eq_false (by omega)]
 · rw[decide_eq_false (by omega)]
 · refine Aa (ZH n (by omega)) (Aa (AkL n (by omega)) ?_)
   have l1:(wz (Bt n)).mag.length≤n.top.length:=Iv ⟨n.neg,n.top⟩
   have l2:(wz (Bq n)).mag.length≤n.bot.length:=Iv ⟨false,n.bot⟩
   refine Aa (AkP (wz (Bt n)) (wz (Bq n)) (by omega) (by omega)) ?_
   simp only[Ag,C5,Ao,Cp,Dg]
   generalize Db (Bt n) (Bq n)=r
   refine Ae (fun h3=>Aa (ZG n r.1 (by omega) (by omega)) (Ac ?_)) (fun h3=>Ac ?_)
   · simp only[Ag,Bc]
     congr 2
     rw[decide_eq_decide]
     refine ⟨fun hh=>⟨by omega,by omega,by rw[hh];exact Prod.ext rfl h3⟩,fun hh=>by rw[hh.2.2]⟩
   · rw[decide_eq_false]
     rintro ⟨_,_,hh⟩
     exact h3 (by rw[hh])
theorem Alc(n:Nat)(c0:D):fA [] n 135 [] [c0] =
 bK (0≤c0.toInt) (bK (c0.toInt≤1114111) (bK (c0.toInt<55296) (.ret [D.bool true])
 (.ret [D.bool (decide (57343<c0.toInt))]))
 (.ret [D.bool false]))
 (.ret [D.bool false]):=by kernel_rfl
theorem Vj : ∃ N:Nat,9223372036854775808<N:=⟨9223372036854775809,by decide⟩
def A_:List Int→Int→Int
 | [],p=>p
 | x::xs,p=>if 2048<p*x then 0 else A_ xs (p*x)
def A8(l:List Int):Int×Int :=
 if 6<l.length then (0,7) else if l.any (fun x=>decide (x<0)) then (0,3) else if l.any (fun x=>decide (2048<x)) then (0,7)
 else if l.any (fun x=>decide (x=0)) then (0,0) else if A_ l 1=0 then (0,7) else (A_ l 1,0)
theorem JV{x y:Int}(h1:1≤x)(h2:x≤2048)(h3:1≤y)(h4:y≤2048):1≤x*y∧x*y≤4194304:=by
 constructor
 · have:=Int.mul_le_mul h1 h3 (by omega) (by omega);omega
 · have:=Int.mul_le_mul h2 h4 (by omega) (by omega);omega
theorem XQ : ∀ (l:List Int) (p:Int),1≤p→p≤2048→(∀ x∈l,1≤x∧x≤2048)→0≤A_ l p∧A_ l p≤2048
 | [],p,h1,h2,_=>by simp only[A_];omega
 | x::xs,p,h1,h2,h=>by
  simp only[A_]
  have hx:=h x (by simp)
  have:=JV h1 h2 hx.1 hx.2
  split
  · omega
  · exact XQ xs (p*x) this.1 (by omega) (fun y hy=>h y (by simp[hy]))
theorem Rr{l:List Int}{p:Int→Bool}(h : ¬ l.any p=true) : ∀ x∈l,p x=false:=fun x hx=>by
 cases hp:p x with
 | false=>rfl
 | true=>exact absurd (List.any_eq_true.2 ⟨x,hx,hp⟩) h
theorem Vy{l:List Int}(h1 : ¬ l.any (fun x=>decide (x<0))=true)(h2 : ¬ l.any (fun x=>decide (2048<x))=true)(h3 : ¬ l.any (fun x=>decide (x=0))=true) : ∀ x∈l,1≤x∧x≤2048:=fun x hx=>by
 have a:=of_decide_eq_false (Rr h1 x hx)
 have b:=of_decide_eq_false (Rr h2 x hx)
 have c:=of_decide_eq_false (Rr h3 x hx)
 omega
theorem Fz(l:List Int):0≤(A8 l).1∧(A8 l).1≤2048:=by
 unfold A8
 split
 · decide
 split
 · decide
 split
 · decide
 split
 · decide
 split
 · decide
 · rename_i h1 h2 h3 h4 _;exact XQ l 1 (by decide) (by decide) (Vy h2 h3 h4)
theorem Gr{l:List Int}(h:(A8 l).2=0):l.length≤6∧∀ x∈l,0≤x∧x≤2048:=by
 unfold A8 at h
 split at h
 · cases h
 split at h
 · cases h
 split at h
 · cases h
 · rename_i h1 h2 h3
   refine ⟨by omega,fun x hx=> ?_⟩
   have a:=of_decide_eq_false (Rr h2 x hx)
   have b:=of_decide_eq_false (Rr h3 x hx)
   omega
def Ef(p:Int→Bool):Nat→List Int→Int
 | _,[]=> -1
 | k,x::xs=>if p x then (k:Int) else Ef p (k+1) xs
def Le(p:Int):List D:=if p=0 then [.int 0,.int 7] else [.int p,.int 0]
theorem Oi(x:Int)(xs:List Int)(p:Int):A_ (x::xs) p=if 2048<p*x then 0 else A_ xs (p*x):=rfl
theorem AfH(p:Int→Bool)(k:Nat)(x:Int)(xs:List Int):Ef p k (x::xs)=if p x then (k:Int) else Ef p (k+1) xs:=rfl
theorem Ald(N:Nat)(l:List Int)(hl:l.length<N)(hb:l.length≤6)(hx : ∀ x∈l,1≤x∧x≤2048):Tw (Tp N N (dI l) 1 0) (Le (A_ l 1)):=by
 have key:=B3 l (fun m k (p:Int)=>Tp N m (dI l) p (k:Int)) (fun rest p=>Le (A_ rest p)) (fun _ p=>1≤p∧p≤2048)
  (fun m k p hk hI=>by
   simp only[ZI,Cf,Apm]
   refine Ar (Ac ?_)
   show _=Le p
   rw[Le,if_neg (by omega)])
  (fun m k p x rest hd hI ih=>by
   obtain ⟨h1,h2,h3⟩:=By hd
   have hxx:=hx x (Apq h2)
   have hp:=JV hI.1 hI.2 hxx.1 hxx.2
   simp only[ZI,Cf,Apm,Apr,Au h2,Ao,Bh k,Aw (x:=p*x) (by omega) (by omega)]
   repeat (refine Ad ?_)
   rw[Oi]
   refine Ae (fun h=>Ac ?_) (fun h=> ?_)
   · rw[if_pos h];rfl
   · rw[if_neg h];exact ih _ ⟨hp.1,by omega⟩)
  N 0 1 (by omega) (by omega) (by decide)
 exact key
theorem Ale(l:List Int):Sp 52 [dI l] [.int (A8 l).1,.int (A8 l).2]:=by
  refine Af (l.length+1) (Alf _ _) ?_
  simp only[Cf,Apm]
  unfold A8
  refine Ae (fun h=>Ac ?_) (fun h=> ?_)
  · rw[if_pos (by omega)]
  · rw[if_neg (by omega)]
    have key:=B3 l (fun m k (s:Bool×Bool)=>M7 (l.length+1) m (dI l) s.1 s.2 (k:Int))
      (fun rest s=>if rest.any (fun x=>decide (x<0)) then [.int 0,.int 3] else if s.1||rest.any (fun x=>decide (2048<x)) then [.int 0,.int 7] else if s.2||rest.any (fun x=>decide (x=0)) then [.int 0,.int 0] else Le (A_ l 1))
      (fun rest s=>(∀ x∈l,(0≤x∧(s.1=true∨x≤2048)∧(s.2=true∨x≠0))∨x∈rest))
      (fun m k s hk hI=>by
        simp only[ZJ,Cf,Apm]
        refine Ar (Cl (fun h1=>Ac ?_) (fun h1=>Cl (fun h2=>Ac ?_) (fun h2=> ?_)))
        · simp[h1]
        · simp[h1,h2]
        · simp only[h1,h2,List.any_nil,Bool.or_self,Bool.false_eq_true,if_false]
          refine Ald (l.length+1) l (by omega) (by omega) (fun x hx=> ?_)
          rcases hI x hx with ⟨a,b,c⟩ | b
          · rw[h1]at b;rw[h2]at c
            simp at b c
            omega
          · cases b)
      (fun m k s x rest hd hI ih=>by
        obtain ⟨h1,h2,h3⟩:=By hd
        simp only[ZJ,Cf,Apm,Apr,Au h2,Ao,Bh k,Cp]
        repeat (refine Ad ?_)
        refine Ae (fun h=>Ac ?_) (fun h=> ?_)
        · simp[h]
        · have hih : ∀ s':Bool×Bool,s'=(s.1||decide (2048<x),s.2||decide (x=0))→Tw (M7 (l.length+1) m (dI l) s'.1 s'.2 ((k+1:Nat):Int)) (if (x::rest).any (fun x=>decide (x<0)) then [.int 0,.int 3] else if s.1||(x::rest).any (fun x=>decide (2048<x)) then [.int 0,.int 7] else if s.2||(x::rest).any (fun x=>decide (x=0)) then [.int 0,.int 0] else Le (A_ l 1)):=fun s' hs'=>by
            have:=ih s' (fun y hy=>by
              subst hs'
              rcases hI y hy with ⟨a,b,c⟩ | b
              · refine .inl ⟨a,?_,?_⟩
                · rcases b with b | b
                  · left;simp[b]
                  · right;exact b
                · rcases c with b | b
                  · left;simp[b]
                  · right;exact b
              · rcases Ap4.1 b with rfl | b
                · left
                  refine ⟨by omega,?_,?_⟩
                  · by_cases hh:2048<y
                    · left;simp[hh]
                    · right;omega
                  · by_cases hh:y=0
                    · left;simp[hh]
                    · right;exact hh
                · exact .inr b)
            subst hs'
            rw[List.any_cons,List.any_cons,List.any_cons,decide_eq_false h,Bool.false_or,← Bool.or_assoc,← Bool.or_assoc]
            exact this
          refine Cl (fun b1=>Cl (fun b2=> ?_) (fun b2=> ?_)) (fun b1=> ?_)
          · exact hih (true,true) (by simp[b1,b2])
          · repeat (refine Ad ?_)
            exact hih (true,decide (x=0)) (by simp[b1,b2])
          · repeat (refine Ad ?_)
            refine Cl (fun b2=> ?_) (fun b2=> ?_)
            · exact hih (decide (2048<x),true) (by simp[b1,b2])
            · repeat (refine Ad ?_)
              exact hih (decide (2048<x),decide (x=0)) (by simp[b1,b2]))
      (l.length+1) 0 (false,false) (by omega) (by omega) (fun x hx=> .inr hx)
    have e:(fun (c:Int×Int)=>[D.int c.1,D.int c.2]) (if l.any (fun x=>decide (x<0)) then (0,3) else if l.any (fun x=>decide (2048<x)) then (0,7)
      else if l.any (fun x=>decide (x=0)) then (0,0) else if A_ l 1=0 then (0,7) else (A_ l 1,0))=(if l.any (fun x=>decide (x<0)) then [.int 0,.int 3] else if false||l.any (fun x=>decide (2048<x)) then [.int 0,.int 7] else if false||l.any (fun x=>decide (x=0)) then [.int 0,.int 0] else Le (A_ l 1)):=by
      simp only[Bool.false_or]
      split
      · rfl
      split
      · rfl
      split
      · rfl
      show _=Le _
      unfold Le
      split <;> rfl
    show Tw _ ((fun (c:Int×Int)=>[D.int c.1,D.int c.2]) _)
    rw[e]
    exact key
theorem Xe(p:Int→Bool) : ∀ (l:List Int) (k:Nat),decide (0≤Ef p k l)=l.any p
 | [],k=>by simp[Ef]
 | x::xs,k=>by
  rw[AfH,List.any_cons]
  by_cases hp:p x=true
  · rw[if_pos hp];simp[hp]
  · rw[if_neg hp,Xe p xs (k+1)];simp[hp]
theorem LN(l:List Int)(v:Int)(hb:l.length≤9223372036854775807):Sp 74 [dI l,.int v] [.bool (l.any (fun x=>decide (x=v)))]:=by
 refine Af 0 (AmN _ _ _) (Aa (ys:=[.int (Ef (fun x=>decide (x=v)) 0 l)]) ?_ (Ac ?_))
 · refine Af (l.length+1) (AmX _ _ _) ?_
   have key:=B3 l (fun m k (_:Unit)=>CG (l.length+1) m (dI l) v (l.length:Int) (k:Int)) (fun rest _=>[.int (Ef (fun x=>decide (x=v)) (l.length-rest.length) rest)]) (fun _ _=>True)
    (fun m k p hk hI=>by
     simp only[Ab5]
     refine Ar (Ac ?_)
     simp[Ef])
    (fun m k p x rest hd hI ih=>by
     obtain ⟨h1,h2,h3⟩:=By hd
     have hle:=congrArg List.length hd;rw[Apy,App]at hle;have hk:l.length-(x::rest).length=k:=by rw[App];omega
     have hk':l.length-rest.length=k+1:=by omega
     simp only[Ab5,Cf,Apm,Apr,Au h2,Ao,Bh k,Cp]
     repeat (refine Ad ?_)
     simp only[Ef,hk]
     refine Ae (fun h=>Ac ?_) (fun h=> ?_)
     · simp[h]
     · have:=ih () trivial
       rw[hk']at this
       simpa [show ¬ x=v from fun e=>h e.symm]using this)
    (l.length+1) 0 () (by omega) (by omega) trivial
   simpa using key
 · exact congrArg (fun b=>[D.bool b]) (Xe _ l 0)
theorem AcK(x:Int):Sp 168 [.int x] [.bool (decide (x<0))]:=Af 0 (Am4 _ _) (Ac rfl)
theorem AcL(x:Int):Sp 169 [.int x] [.bool (decide (2048<x))]:=Af 0 (Am5 _ _) (Ac rfl)
theorem AcI(l:List Int)(hb:l.length≤6):Sp 167 [dI l,D.fn 168 [] []] [.bool (l.any (fun x=>decide (x<0)))]:=by
 refine Af 0 (AmL _ _) (Aa (ys:=[.int (Ef (fun x=>decide (x<0)) 0 l)]) ?_ (Ac ?_))
 · refine Af (l.length+1) (AmV _ _) ?_
   have key:=B3 l (fun m k (_:Unit)=>Je (l.length+1) m (dI l) (D.fn 168 [] []) (l.length:Int) (k:Int)) (fun rest _=>[.int (Ef (fun x=>decide (x<0)) (l.length-rest.length) rest)]) (fun _ _=>True)
    (fun m k p hk hI=>by
     simp only[Ab3]
     refine Ar (Ac ?_)
     simp[Ef])
    (fun m k p x rest hd hI ih=>by
     obtain ⟨h1,h2,h3⟩:=By hd
     have hle:=congrArg List.length hd;rw[Apy,App]at hle;have hk:l.length-(x::rest).length=k:=by rw[App];omega
     have hk':l.length-rest.length=k+1:=by omega
     simp only[Ab3,Cf,Apm,Apr,Au h2,Ao,Bh k,H6,H4,H5,Ap6]
     repeat (refine Ad ?_)
     refine Aa (AcK x) ?_
     simp only[Ag,Bc,Ef,hk]
     refine Ae (fun h=>Ac ?_) (fun h=> ?_)
     · simp[h]
     · have:=ih () trivial
       rw[hk']at this
       simpa [h]using this)
    (l.length+1) 0 () (by omega) (by omega) trivial
   simpa using key
 · exact congrArg (fun b=>[D.bool b]) (Xe _ l 0)
theorem AcJ(l:List Int)(hb:l.length≤6):Sp 167 [dI l,D.fn 169 [] []] [.bool (l.any (fun x=>decide (2048<x)))]:=by
 refine Af 0 (AmM _ _) (Aa (ys:=[.int (Ef (fun x=>decide (2048<x)) 0 l)]) ?_ (Ac ?_))
 · refine Af (l.length+1) (AmW _ _) ?_
   have key:=B3 l (fun m k (_:Unit)=>Je (l.length+1) m (dI l) (D.fn 169 [] []) (l.length:Int) (k:Int)) (fun rest _=>[.int (Ef (fun x=>decide (2048<x)) (l.length-rest.length) rest)]) (fun _ _=>True)
    (fun m k p hk hI=>by
     simp only[Ab4]
     refine Ar (Ac ?_)
     simp[Ef])
    (fun m k p x rest hd hI ih=>by
     obtain ⟨h1,h2,h3⟩:=By hd
     have hle:=congrArg List.length hd;rw[Apy,App]at hle;have hk:l.length-(x::rest).length=k:=by rw[App];omega
     have hk':l.length-rest.length=k+1:=by omega
     simp only[Ab4,Cf,Apm,Apr,Au h2,Ao,Bh k,H6,H4,H5,Ap6]
     repeat (refine Ad ?_)
     refine Aa (AcL x) ?_
     simp only[Ag,Bc,Ef,hk]
     refine Ae (fun h=>Ac ?_) (fun h=> ?_)
     · simp[h]
     · have:=ih () trivial
       rw[hk']at this
       simpa [h]using this)
    (l.length+1) 0 () (by omega) (by omega) trivial
   simpa using key
 · exact congrArg (fun b=>[D.bool b]) (Xe _ l 0)
theorem Am_(l:List Int)(hb:l.length≤6)(hx : ∀ x∈l,1≤x∧x≤2048):Sp 170 [dI l] [.int (A_ l 1)]:=by
 refine Af (l.length+1) (Abt _ _) ?_
 have key:=B3 l (fun m k (p:Int)=>Ua (l.length+1) m p (dI l) (l.length:Int) (k:Int)) (fun rest p=>[.int (A_ rest p)]) (fun _ p=>1≤p∧p≤2048)
  (fun m k p hk hI=>by
   simp only[BT]
   exact Ar (Ac rfl))
  (fun m k p x rest hd hI ih=>by
   obtain ⟨h1,h2,h3⟩:=By hd
   have hxx:=hx x (Apq h2)
   have hp:=JV hI.1 hI.2 hxx.1 hxx.2
   simp only[BT,Cf,Apm,Apr,Au h2,Ao,Bh k,Aw (x:=p*x) (by omega) (by omega)]
   repeat (refine Ad ?_)
   simp only[A_]
   refine Ae (fun h=>Ac ?_) (fun h=> ?_)
   · rw[if_pos h]
   · rw[if_neg h];exact ih _ ⟨hp.1,by omega⟩)
  (l.length+1) 0 1 (by omega) (by omega) (by decide)
 simpa using key
theorem Oq(l:List Int):Sp 81 [dI l] [.int (A8 l).1,.int (A8 l).2]:=by
 refine Af 0 (Am6 _ _) ?_
 simp only[Cf,Apm]
 unfold A8
 refine Ae (fun h=>Ac ?_) (fun h=> ?_)
 · rw[if_pos (by omega)]
 · rw[if_neg (by omega)]
   refine Aa (AcI l (by omega)) ?_
   simp only[Ag,Bc]
   refine Cl (fun h1=>Ac (by rw[if_pos h1])) (fun h1=> ?_)
   rw[if_neg (by simp[h1])]
   refine Aa (AcJ l (by omega)) ?_
   simp only[Ag,Bc]
   refine Cl (fun h2=>Ac (by rw[if_pos h2])) (fun h2=> ?_)
   rw[if_neg (by simp[h2])]
   refine Aa (LN l 0 (by omega)) ?_
   simp only[Ag,Bc]
   refine Cl (fun h3=>Ac (by rw[if_pos h3])) (fun h3=> ?_)
   rw[if_neg (by simp[h3])]
   refine Aa (Am_ l (by omega) (Vy (by simp[h1]) (by simp[h2]) (by simp[h3]))) ?_
   simp only[Ag,Ao,Cp]
   refine Ae (fun h4=>Ac (by rw[if_pos h4])) (fun h4=>Ac (by rw[if_neg h4]))
theorem Alh(a b:List Int)(ha:a.length≤9223372036854775807):Sp 54 [dI a,dI b] [.bool (decide (a=b))]:=by
 refine Af (a.length+1) (Ali _ _ _) ?_
 simp only[Cf,Apm,Do]
 refine Ae (fun h=>Ac ?_) (fun h=> ?_)
 · rw[decide_eq_false];rintro rfl;exact h rfl
 · exact We D.int PX a b (by omega) ha (fun m i=>AG (a.length+1) m (dI a) (dI b) i) (fun m i=>Alg _ _ _ _ _)
def Xv(c:Int):Bool:=decide (0≤c∧c≤1114111∧(c<55296∨57343<c))
theorem AgR(c:Int):Tw (.br (decide (0≤c)) (.br (decide (c≤1114111)) (.br (decide (c<55296)) (.ret [D.bool true]) (.ret [D.bool (decide (57343<c))])) (.ret [D.bool false])) (.ret [D.bool false])) [.bool (Xv c)]:=by
 unfold Xv
 refine Ae (fun h1=>Ae (fun h2=>Ae (fun h3=>Ac ?_) (fun h3=>Ac ?_)) (fun h2=>Ac ?_)) (fun h1=>Ac ?_)
 · rw[decide_eq_true (by omega)]
 · congr 2;rw[decide_eq_decide];omega
 · rw[decide_eq_false (by omega)]
 · rw[decide_eq_false (by omega)]
theorem Alb(c:Int):Sp 135 [.int c] [.bool (Xv c)]:=Af 0 (Alc _ _) (AgR c)
open Go.ChangeShapes Go.WideShapes Go.ChangeAt Go.RowKit
section
variable {P:Program} {md:Nat→FMode}
theorem Agz{F:Nat}{fn:Func}{xs:List D}{vs:List Value}{W:World}{tb:Nat}(hs:Ec P md F [] xs [.bool true])(hfn:P.funcs[F]? = some fn)(hm:md F = {})(hrt:fn.resultTypes = #[tb])(htb:P.underlying tb=some .bool)
   (hlx:xs.length=fn.params.size) (hlv:vs.length=fn.params.size) (hrd : ∀ (i t:Nat) (x:D) (v:Value),fn.params.toList[i]? = some t→xs[i]? = some x→vs[i]? = some v→Rd P md W (fun _=>False) (.ty t) x v) :
   Calls P F vs.toArray W (fun e w'=>e = .returned (.bool true)∧Ext W w'):=by
 obtain ⟨fn',h1,_,_,h⟩:=hs
 rw[hfn]at h1
 injection h1 with h1
 subst h1
 refine (h W (fun _=>False) vs 0 1 (fun k hk=>by rw[hm]at hk;cases hk) ⟨by simp[hlx],by simp[hlv],fun b hb=>hb.elim,?_,fun p hp=>by rw[hm]at hp;cases hp⟩).mono ?_
 · intro i ct x v hc hx hv _
   simp only[Ap6,Ap2,Apz]at hc
   obtain ⟨t,ht,rfl⟩:=hc
   have:=hrd i t x v ht hx hv
   exact ⟨this.rd.mono (Apx _) (fun _ _ _=>rfl) (fun b hb _=>by
    rcases hb with hb | ⟨p,u,hp,_⟩
    · exact hb
    · rw[hm]at hp;cases hp),this.size,this.agg⟩
 · rintro e w' ⟨us,β',hp⟩
   have hl:=hp.len
   rw[hrt]at hl
   have : ∃ u,us = [u]:=by
    match us,hl with
    | [u],_=>exact ⟨u,rfl⟩
   obtain ⟨u,rfl⟩:=this
   have hv:=hp.vl [.b true] (by rw[hrt,hm];simp[Eu,Gk,B0,htb,D.toBool,List.getD]) 0 (.b true) u rfl rfl
   have hu:=L6 hv
   subst hu
   refine ⟨hp.ending,?_⟩
   have:=hp.stp
   refine Stp.ext (this.weak fun b ⟨p,v,h1,_⟩=> ?_)
   rw[hm]at h1;cases h1
theorem Qr{t:Nat}{k:IntKind}{w:World}{M:Nat→Prop}{y:D}{c:Nat→Option Value}(h:RdC P md w M (.ty t) y c)(ht:P.underlying t=some (.int k)) : ∃ n,y = .int n∧k.min≤n∧n≤k.max:=by
 cases h <;> simp_all [CT.desc]
 all_goals (rename_i hf _;obtain ⟨⟨a,ha,_⟩,_⟩:=Cx hf;rw[ht]at ha;cases ha)
theorem Aki{t:Nat}{w:World}{M:Nat→Prop}{y:D}{c:Nat→Option Value}(h:RdC P md w M (.ty t) y c)(ht:P.underlying t=some .bool) : ∃ b,y = .bool b:=by
 cases h <;> simp_all [CT.desc]
 all_goals (rename_i hf _;obtain ⟨⟨a,ha,_⟩,_⟩:=Cx hf;rw[ht]at ha;cases ha)
theorem Zt{t e:Nat}{w:World}{M:Nat→Prop}{y:D}{c:Nat→Option Value}(h:RdC P md w M (.ty t) y c)(ht:P.underlying t=some (.slice e)) : ∃ es,y = .sl es∧es.length≤maxLen∧∀ x∈es,∃ c',RdC P md w M (.ty e) x c':=by
 cases h with
 | sl ht' hc h1 h2 hA hh =>
  have:P.underlying t=some (.slice _):=ht'
  rw[ht]at this
  injection this with this
  injection this with this
  subst this
  refine ⟨_,rfl,Nat.le_trans h1 h2,fun x hx=> ?_⟩
  obtain ⟨i,hi,rfl⟩:=List.getElem_of_mem hx
  exact ⟨_,hh i _ (Apk hi)⟩
 | struct hf _ _=>obtain ⟨⟨a,ha,_⟩,_⟩:=Cx hf;rw[ht]at ha;cases ha
 | int ht'=>have:P.underlying t=_:=ht';rw[ht]at this;cases this
 | bool ht'=>have:P.underlying t=_:=ht';rw[ht]at this;cases this
 | str ht'=>have:P.underlying t=_:=ht';rw[ht]at this;cases this
 | fn ht'=>have:P.underlying t=_:=ht';rw[ht]at this;cases this
 | mp ht'=>have:P.underlying t=_:=ht';rw[ht]at this;cases this
 | ref ht'=>have:P.underlying t=_:=ht';rw[ht]at this;cases this
theorem KD{t:Nat}{fs:List Field}{w:World}{M:Nat→Prop}{y:D}{c:Nat→Option Value}(h:RdC P md w M (.ty t) y c)(ht:Dh P t=some fs) : ∃ ds,y = .agg ds∧ds.length=fs.length∧∀ (i:Nat) (f:Field) (d:D),fs[i]? = some f→ds[i]? = some d→∃ c',RdC P md w M (.ty f.type) d c':=by
 obtain ⟨⟨a,ha,_⟩,_⟩:=Cx ht
 cases h with
 | struct hf hl hh =>
  rw[ht]at hf
  injection hf with hf
  subst hf
  exact ⟨_,rfl,hl,fun i f d h1 h2=>⟨_,hh i f d h1 h2⟩⟩
 | sl ht'=>have:P.underlying t=_:=ht';rw[ha]at this;cases this
 | int ht'=>have:P.underlying t=_:=ht';rw[ha]at this;cases this
 | bool ht'=>have:P.underlying t=_:=ht';rw[ha]at this;cases this
 | str ht'=>have:P.underlying t=_:=ht';rw[ha]at this;cases this
 | fn ht'=>have:P.underlying t=_:=ht';rw[ha]at this;cases this
 | mp ht'=>have:P.underlying t=_:=ht';rw[ha]at this;cases this
 | ref ht'=>have:P.underlying t=_:=ht';rw[ha]at this;cases this
theorem Akj{t e:Nat}{w:World}{M:Nat→Prop}{y:D}{c:Nat→Option Value}(h:RdC P md w M (.ty t) y c)(ht:P.underlying t=some (.slice e))(he:P.underlying e=some (.int .i64)) : ∃ l,y=dI l∧l.length≤maxLen∧∀ x∈l,-9223372036854775808≤x∧x≤9223372036854775807:=by
 obtain ⟨es,rfl,hl,hh⟩:=Zt h ht
 have : ∃ l:List Int,es=l.map .int∧∀ x∈l,-9223372036854775808≤x∧x≤9223372036854775807:=by
  clear hl h
  induction es with
  | nil=>exact ⟨[],rfl,fun _ h=>by cases h⟩
  | cons x es ih =>
   obtain ⟨l,rfl,hl⟩:=ih (fun y hy=>hh y (by simp[hy]))
   obtain ⟨c',hc⟩:=hh x (by simp)
   obtain ⟨n,rfl,h1,h2⟩:=Qr hc he
   exact ⟨n::l,rfl,fun y hy=>by rcases Ap4.1 hy with rfl | hy;exact ⟨h1,h2⟩;exact hl y hy⟩
 obtain ⟨l,rfl,h2⟩:=this
 exact ⟨l,rfl,by simpa using hl,h2⟩
theorem YH{t e:Nat}{w:World}{M:Nat→Prop}{y:D}{c:Nat→Option Value}(h:RdC P md w M (.ty t) y c)(ht:P.underlying t=some (.slice e))(he:P.underlying e=some (.int .u32)) : ∃ l:List Aq,y=dL l∧l.length≤maxLen:=by
 obtain ⟨es,rfl,hl,hh⟩:=Zt h ht
 have : ∃ l:List Aq,es=l.map dB:=by
  clear hl h
  induction es with
  | nil=>exact ⟨[],rfl⟩
  | cons x es ih =>
   obtain ⟨l,rfl⟩:=ih (fun y hy=>hh y (by simp[hy]))
   obtain ⟨c',hc⟩:=hh x (by simp)
   obtain ⟨n,rfl,h1,h2⟩:=Qr hc he
   have h1:0≤n:=h1
   have h2:n≤4294967295:=h2
   refine ⟨Ap5 32 n.toNat::l,?_⟩
   simp only[Ap9,dB,BitVec.toNat_ofNat]
   rw[Aqc (by omega),Int.toNat_of_nonneg h1]
 obtain ⟨l,rfl⟩:=this
 exact ⟨l,rfl,by simpa using hl⟩
theorem YG{t:Nat}{w:World}{M:Nat→Prop}{y:D}{c:Nat→Option Value}(h:RdC P md w M (.ty t) y c)(ht:P.underlying t=some (.int .u64)) : ∃ l:At,y=dB l:=by
 obtain ⟨n,rfl,h1,h2⟩:=Qr h ht
 have h1:0≤n:=h1
 have h2:n≤18446744073709551615:=h2
 refine ⟨Ap5 64 n.toNat,?_⟩
 simp only[dB,BitVec.toNat_ofNat]
 rw[Aqc (by omega),Int.toNat_of_nonneg h1]
end
end Go.Proofs.YtokkbgpgaheakaaGreat
namespace Go.Proofs.YtokkbgpgaheakaaGreat
open Go.ChangeShapes Go.WideShapes Go.ChangeAt Go.RowKit
theorem TI{α:Type}{l:List α}(h:l.length=3) : ∃ a b c,l = [a,b,c]:=by
 match l,h with
 | [a,b,c],_=>exact ⟨a,b,c,rfl⟩
theorem Ag5{α:Type}{l:List α}(h:l.length=5) : ∃ a b c d e,l = [a,b,c,d,e]:=by
 match l,h with
 | [a,b,c,d,e],_=>exact ⟨a,b,c,d,e,rfl⟩
inductive Fits:Arr→Prop where
 | mk {s:At} {sh:List Int} {cs:List Cell} (h1:sh.length≤maxLen) (h2:cs.length≤maxLen) (h3 : ∀ c∈cs,c.n.top.length≤maxLen∧c.n.bot.length≤maxLen∧c.inn.length≤maxLen) (h5 : ∀ x∈sh,-9223372036854775808≤x∧x≤9223372036854775807)
  (h4 : ∀ c∈cs,∀ x∈c.inn,Fits x):Fits (.mk s sh cs)
theorem Aff:(Dh Tryz.prog 64).map (fun fs=>fs.map (·.type))=some [4,62,62]:=by kernel_rfl
theorem Afe:(Dh Tryz.prog 67).map (fun fs=>fs.map (·.type))=some [22,3,64,3,65]:=by kernel_rfl
theorem Afd:(Dh Tryz.prog 26).map (fun fs=>fs.map (·.type))=some [22,23,24]:=by kernel_rfl
theorem J5{fs:List Field}{ts:List Nat}(h:fs.map (·.type)=ts){i t:Nat}(ht:ts[i]? = some t) : ∃ f,fs[i]? = some f∧f.type=t:=by
 subst h
 simpa [Ap2,Apz]using ht
theorem Akk{w:World}{M:Nat→Prop}{y:D}{c:Nat→Option Value}(h:RdC Tryz.prog md w M (.ty 64) y c) : ∃ n,y=dN n∧n.top.length≤maxLen∧n.bot.length≤maxLen:=by
 obtain ⟨fs,hf,ht⟩:=Apz.1 Aff
 obtain ⟨ds,rfl,hl,hh⟩:=KD h hf
 have:fs.length=3:=by rw[← Apm (f:=(·.type)),ht];rfl
 obtain ⟨a,b,c,rfl⟩:=TI (by rw[hl,this])
 obtain ⟨f0,hf0,e0⟩:=J5 ht (i:=0) rfl
 obtain ⟨f1,hf1,e1⟩:=J5 ht (i:=1) rfl
 obtain ⟨f2,hf2,e2⟩:=J5 ht (i:=2) rfl
 obtain ⟨_,h0⟩:=hh 0 f0 a hf0 rfl
 obtain ⟨_,h1⟩:=hh 1 f1 b hf1 rfl
 obtain ⟨_,h2⟩:=hh 2 f2 c hf2 rfl
 rw[e0]at h0;rw[e1]at h1;rw[e2]at h2
 obtain ⟨n,rfl⟩:=Aki h0 (by kernel_rfl)
 obtain ⟨t,rfl,l1⟩:=YH h1 (e:=180) (by kernel_rfl) (by kernel_rfl)
 obtain ⟨t',rfl,l2⟩:=YH h2 (e:=180) (by kernel_rfl) (by kernel_rfl)
 exact ⟨⟨n,t,t'⟩,rfl,l1,l2⟩
mutual
def D.sz:D→Nat
 | .agg fs=>1+D.szL fs | .sl es=>1+D.szL es | _=>0
def D.szL:List D→Nat
 | []=>0 | x::xs=>1+x.sz+D.szL xs
end
theorem YE : ∀ (k:Nat) {w:World} {M:Nat→Prop} {y:D} {c:Nat→Option Value},y.sz<k→RdC Tryz.prog md w M (.ty 26) y c→∃ a,y=dA a∧Fits a
 | 0,_,_,_,_,hk,_=>by omega
 | k+1,w,M,y,c,hk,h=>by
  obtain ⟨fs,hf,ht⟩:=Apz.1 Afd
  obtain ⟨ds,rfl,hl,hh⟩:=KD h hf
  have:fs.length=3:=by rw[← Apm (f:=(·.type)),ht];rfl
  obtain ⟨a,b,c,rfl⟩:=TI (by rw[hl,this])
  obtain ⟨f0,hf0,e0⟩:=J5 ht (i:=0) rfl
  obtain ⟨f1,hf1,e1⟩:=J5 ht (i:=1) rfl
  obtain ⟨f2,hf2,e2⟩:=J5 ht (i:=2) rfl
  obtain ⟨_,h0⟩:=hh 0 f0 a hf0 rfl
  obtain ⟨_,h1⟩:=hh 1 f1 b hf1 rfl
  obtain ⟨_,h2⟩:=hh 2 f2 c hf2 rfl
  rw[e0]at h0;rw[e1]at h1;rw[e2]at h2
  obtain ⟨s,rfl⟩:=YG h0 (by kernel_rfl)
  obtain ⟨sh,rfl,l1,l1'⟩:=Akj h1 (e:=3) (by kernel_rfl) (by kernel_rfl)
  obtain ⟨es,rfl,l2,hes⟩:=Zt h2 (e:=67) (by kernel_rfl)
  have hsz:D.szL es<k:=by simp only[D.sz,D.szL]at hk;omega
  have key : ∃ cs:List Cell,es=cs.map dC∧(∀ c∈cs,c.n.top.length≤maxLen∧c.n.bot.length≤maxLen∧c.inn.length≤maxLen)∧∀ c∈cs,∀ x∈c.inn,Fits x:=by
   clear l2 h2 h hh h0 h1 hf0 hf1 hf2 e0 e1 e2 hl hk
   induction es with
   | nil=>exact ⟨[],rfl,(fun _ h=>by cases h),(fun _ h=>by cases h)⟩
   | cons x es ih =>
    simp only[D.szL]at hsz
    obtain ⟨cs,rfl,g1,g2⟩:=ih (fun y hy=>hes y (by simp[hy])) (by omega)
    obtain ⟨_,hx⟩:=hes x (by simp)
    obtain ⟨fs,hf,ht⟩:=Apz.1 Afe
    obtain ⟨ds,rfl,hl,hh⟩:=KD hx hf
    have:fs.length=5:=by rw[← Apm (f:=(·.type)),ht];rfl
    obtain ⟨a,b,c,d,e,rfl⟩:=Ag5 (by rw[hl,this])
    obtain ⟨f0,hf0,e0⟩:=J5 ht (i:=0) rfl
    obtain ⟨f1,hf1,e1⟩:=J5 ht (i:=1) rfl
    obtain ⟨f2,hf2,e2⟩:=J5 ht (i:=2) rfl
    obtain ⟨f3,hf3,e3⟩:=J5 ht (i:=3) rfl
    obtain ⟨f4,hf4,e4⟩:=J5 ht (i:=4) rfl
    obtain ⟨_,h0⟩:=hh 0 f0 a hf0 rfl
    obtain ⟨_,h1⟩:=hh 1 f1 b hf1 rfl
    obtain ⟨_,h2⟩:=hh 2 f2 c hf2 rfl
    obtain ⟨_,h3⟩:=hh 3 f3 d hf3 rfl
    obtain ⟨_,h4⟩:=hh 4 f4 e hf4 rfl
    rw[e0]at h0;rw[e1]at h1;rw[e2]at h2;rw[e3]at h3;rw[e4]at h4
    obtain ⟨l,rfl⟩:=YG h0 (by kernel_rfl)
    obtain ⟨kd,rfl,_⟩:=Qr h1 (k:= .i64) (by kernel_rfl)
    obtain ⟨n,rfl,n1,n2⟩:=Akk h2
    obtain ⟨ch,rfl,_⟩:=Qr h3 (k:= .i64) (by kernel_rfl)
    obtain ⟨as_,rfl,l4,has⟩:=Zt h4 (e:=26) (by kernel_rfl)
    have hsz4:D.szL as_<k:=by simp only[D.sz,D.szL]at hsz;omega
    have key2 : ∃ bs:List Arr,as_=bs.map dA∧∀ x∈bs,Fits x:=by
      clear h4 hh hx hes ih l4 hsz hl
      induction as_ with
      | nil=>exact ⟨[],rfl,fun _ h=>by cases h⟩
      | cons z zs ihz =>
       simp only[D.szL]at hsz4
       obtain ⟨bs,rfl,hb⟩:=ihz (fun y hy=>has y (by simp[hy])) (by omega)
       obtain ⟨_,hz⟩:=has z (by simp)
       obtain ⟨a,rfl,ha⟩:=YE k (by omega) hz
       exact ⟨a::bs,rfl,fun y hy=>by rcases Ap4.1 hy with rfl | hy;exact ha;exact hb y hy⟩
    obtain ⟨bs,rfl,hb⟩:=key2
    refine ⟨⟨l,kd,n,ch,bs⟩::cs,by simp[D_],fun c hc=> ?_,fun c hc=> ?_⟩
    · rcases Ap4.1 hc with rfl | hc
      · exact ⟨n1,n2,by simpa using l4⟩
      · exact g1 c hc
    · rcases Ap4.1 hc with rfl | hc
      · exact hb
      · exact g2 c hc
  obtain ⟨cs,rfl,g1,g2⟩:=key
  exact ⟨.mk s sh cs,(Aev s sh cs),.mk l1 (by simpa using l2) g1 l1' g2⟩
def Agy:List Nat:=[4,3,22,180,62,23,64,67,26,65,24]
theorem TE:JO Tryz.prog Agy=true:=by kernel_rfl
section
variable {H:Type} {enc:TypeId×Value→H} {W:World} {sp:Nat→Bool} {held:Bool} {r:Reach} {b0:Nat} {v:Value} {d:DataW H} {ps:List MemPlace}
theorem NL(hval:Value.okWide Tryz.prog W r b0 26 v)(h:DataW.Trod enc Tryz.prog W 0 sp held 26 v d ps) : ∃ a,Fits a∧Rd Tryz.prog md W (fun _=>False) (.ty 26) (dA a) v:=by
 obtain ⟨y,hy,hyw⟩:=NM (md:=md) Nk TE (by decide) hval h
 obtain ⟨a,rfl,ha⟩:=YE _ (Nat.lt_succ_self _) hy.rd
 exact ⟨a,ha,hy⟩
theorem Add(hval:Value.okWide Tryz.prog W r b0 3 v)(h:DataW.Trod enc Tryz.prog W 0 sp held 3 v d ps) : ∃ a:Int,(-9223372036854775808≤a∧a≤9223372036854775807)∧Rd Tryz.prog md W (fun _=>False) (.ty 3) (.int a) v:=by
 obtain ⟨y,hy,hyw⟩:=NM (md:=md) Nk TE (by decide) hval h
 obtain ⟨a,rfl,h1,h2⟩:=Qr hy.rd (k:= .i64) (by kernel_rfl)
 exact ⟨a,⟨h1,h2⟩,hy⟩
end
end Go.Proofs.YtokkbgpgaheakaaGreat
