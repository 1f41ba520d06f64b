/- Proved: lemmas for the law of this folder, part 4. No condition. -/
import Derived.Test.YtokkbgpgaheakaaGreatRows
import Derived.WalkKit
import Derived.WalkSpells
import Derived.WalkLawsBesides
import Derived.Lib.Hide
import Derived.Laws.CopyOwn
import Derived.Deep.QuietTactic
import Derived.BigQuiet
import Derived.Orders
import Derived.Defers
import Derived.Recover
import Derived.Test.YtokkbgpgaheakaaGreatProg
import Derived.KernelRfl
import Derived.ProofKit
import Derived.OpenShut
import Derived.Maps.OwnRows
import Derived.Maps.Views
import Derived.Deep.RegionHeld3
import Derived.Deep.AppendLies
import Derived.Test.YtokkbgpgaheakaaGreatZc5326018
set_option linter.unusedSimpArgs false
set_option linter.unusedVariables false
set_option maxRecDepth 100000
open Array renaming getElem?_eq_getElem → Amy, getElem?_eq_some_iff → Am8, getD_eq_getD_getElem? → Ana
open BitVec renaming ofNat → Amt
open Bool renaming and_eq_true → Ami
open Classical renaming not_not → Amn
open Int renaming toNat → Ama, toNat_natCast → Amj, fdiv → Am3
open Go.IntKind renaming wrap → Al6, bits → Aml
open List renaming getElem?_eq_getElem → Amb, replicate → Amc, length_map → Amd, getElem?_eq_some_iff → Ame, getD_eq_getElem?_getD → Amf, length_cons → Amg, mem_of_getElem? → Amh, length_append → Amm, length_drop → Amp, length_take → Amr, getElem?_map → Ams, length_nil → Amu, mem_cons → Amw, append_nil → Amx, append_assoc → Amz, getElem?_append_left → Am0, length_eq_zero_iff → Am1, drop_eq_getElem_cons → Am2, take_append_drop → Am6, take_of_length_le → Am7, range → Am9, length_replicate → Anf, getElem_mem → Anh, map_cons → Ani, all_eq_true → Ank, nil_append → Anm
open Nat renaming le_refl → Amo, mul_le_mul_right → Amv, mod_eq_of_lt → Am4, mod_lt → Am5, lt_of_lt_of_le → Am_, mul_comm → Anb, pow_succ → Anc, div_div_eq_div_mul → Ane, div_lt_iff_lt_mul → Anj, zero_add → Anl, lt_or_ge → Ann
open Option renaming map_eq_some_iff → Amq, bind_eq_some_iff → Ang
open Option.some renaming injEq → Amk
namespace Go.Proofs.YtokkbgpgaheakaaGreat
def QZ:List (Nat×FMode):=[(299,{ own:=[(0,[])] }),(96,{ own:=[(0,[])] }),(139,{ own:=[(0,[])] }),(247,{ own:=[(0,[])] }),(248,{ own:=[(0,[])] }),(175,{ own:=[(0,[])] }),(331,{ arg:=some 0,back:=true }),(144,{ arg:=some 0,back:=true }),(97,{ noop:=true }),(103,{ noop:=true }),(180,{ noop:=true }),(183,{ noop:=true }),(184,{ noop:=true }),(186,{ noop:=true }),(151,{ noop:=true }),(154,{ noop:=true }),(187,{ noop:=true }),(191,{ noop:=true }),(89,{ noop:=true }),(94,{ noop:=true }),(141,{ noop:=true }),(143,{ noop:=true }),(85,{ noop:=true }),(99,{ own:=[(0,[0]),(0,[1])] }),(150,{ own:=[(0,[])],arg:=some 0 }),(250,{ arg:=some 0,back:=true }),(251,{ arg:=some 0,back:=true }),(300,{ arg:=some 0,back:=true }),(322,{ arg:=some 0,back:=true }),(217,{ arg:=some 0,back:=true }),(155,{ arg:=some 0,back:=true }),(336,{ own:=[(0,[])] }),(174,{ own:=[(0,[])],arg:=some 1 }),(93,{ arg:=some 0,back:=true }),(95,{ arg:=some 0,back:=true }),(142,{ arg:=some 0,back:=true }),(145,{ arg:=some 0,back:=true }),(1000000+94,{ arg:=some 0,back:=true })]
def md(f:Nat):FMode:=Qy QZ f
theorem Kk:WfP Tryz.prog:=Al7 (by kernel_rfl)
theorem Ae8:Tryz.prog.follows .mixedOrders=true:=by kernel_rfl
theorem Afz:E7 Tryz.prog 97:=Fv (by kernel_rfl)
theorem Af0:E7 Tryz.prog 103:=Fv (by kernel_rfl)
theorem Af6:E7 Tryz.prog 180:=Fv (by kernel_rfl)
theorem Af7:E7 Tryz.prog 183:=Fv (by kernel_rfl)
theorem Af8:E7 Tryz.prog 184:=Fv (by kernel_rfl)
theorem Af9:E7 Tryz.prog 186:=Fv (by kernel_rfl)
theorem Af_:E7 Tryz.prog 151:=Fv (by kernel_rfl)
theorem AfA:E7 Tryz.prog 154:=Fv (by kernel_rfl)
theorem AfB:E7 Tryz.prog 187:=Fv (by kernel_rfl)
theorem AfC:E7 Tryz.prog 191:=Fv (by kernel_rfl)
theorem Af1:E7 Tryz.prog 89:=Fv (by kernel_rfl)
theorem Af2:E7 Tryz.prog 94:=Fv (by kernel_rfl)
theorem Af3:E7 Tryz.prog 141:=Fv (by kernel_rfl)
theorem Af4:E7 Tryz.prog 143:=Fv (by kernel_rfl)
theorem Af5:E7 Tryz.prog 85:=Fv (by kernel_rfl)
theorem Afy:Sz Tryz.prog md:=AfD (by
 intro p hp hn
 simp only[QZ,Amw,List.not_mem_nil,or_false]at hp
 rcases hp with rfl | rfl | rfl | rfl | rfl | rfl | rfl | rfl | rfl | rfl | rfl | rfl | rfl | rfl | rfl | rfl | rfl | rfl | rfl | rfl | rfl | rfl | rfl | rfl | rfl | rfl | rfl | rfl | rfl | rfl | rfl | rfl | rfl | rfl | rfl | rfl | rfl | rfl
 all_goals first | exact absurd hn (by decide) | skip
 · exact Afz
 · exact Af0
 · exact Af6
 · exact Af7
 · exact Af8
 · exact Af9
 · exact Af_
 · exact AfA
 · exact AfB
 · exact AfC
 · exact Af1
 · exact Af2
 · exact Af3
 · exact Af4
 · exact Af5
 )
theorem Af{f:Nat}{cts:List CT}{xs ys:List D}{orc:List (Nat×Orc)}{t:Tree}(n:Nat)(h:Un Tryz.prog md orc n f cts xs=t)(ht:t.wp Tryz.prog md (fun zs=>zs=ys)):Dq Tryz.prog md f cts xs ys :=
 Adv Kk Ae8 Afy (orc:=orc) (n:=n) (by rw[h];exact ht)
def Jq:ByteArray:=(⟨#[0,1,2,2,3,3,3,3,4,4,4,4,4,4,4,4,5,5,5,5,5,5,5,5,5,5,5,5,5,5,5,5,6,6,6,6,6,6,6,6,6,6,6,6,6,6,6,6,6,6,6,6,6,6,6,6,6,6,6,6,6,6,6,6,7,7,7,7,7,7,7,7,7,7,7,7,7,7,7,7,7,7,7,7,7,7,7,7,7,7,7,7,7,7,7,7,7,7,7,7,7,7,7,7,7,7,7,7,7,7,7,7,7,7,7,7,7,7,7,7,7,7,7,7,7,7,7,7,8,8,8,8,8,8,8,8,8,8,8,8,8,8,8,8,8,8,8,8,8,8,8,8,8,8,8,8,8,8,8,8,8,8,8,8,8,8,8,8,8,8,8,8,8,8,8,8,8,8,8,8,8,8,8,8,8,8,8,8,8,8,8,8,8,8,8,8,8,8,8,8,8,8,8,8,8,8,8,8,8,8,8,8,8,8,8,8,8,8,8,8,8,8,8,8,8,8,8,8,8,8,8,8,8,8,8,8,8,8,8,8,8,8,8,8,8,8,8,8,8,8,8,8,8,8,8,8]⟩:ByteArray)
noncomputable def eA(O:List (Nat×Orc))(n F:Nat)(p:List Nat):=ev Tryz.prog md n O (J1 (CF Tryz.prog F) p)
noncomputable def jA(O:List (Nat×Orc))(n F:Nat)(p:List Nat):=Vs Tryz.prog md (Vr O (J1 (CF Tryz.prog F) p)) (ev Tryz.prog md n O (J1 (CF Tryz.prog F) p))
noncomputable def rA(F:Nat)(a:List Nat)(b:List ResultVar)(c:List Nat):=IR Tryz.prog md (md F) a b c
noncomputable def lA:=Uo Tryz.prog md
noncomputable abbrev fA:=Un Tryz.prog md
noncomputable abbrev kK (c:Prop) [Decidable c] (t:Tree):Tree:= .br (decide c) t .fail
noncomputable abbrev bK (c:Prop) [Decidable c] (t e:Tree):Tree:= .br (decide c) t e
noncomputable abbrev cK (f:Nat) (x:List D) (k:List D→Tree):Tree:= .call f [] x k
def uA(n:Nat):List L:=Amc n .undef
def S9:List (Nat×Orc):=[(5,⟨[(4,none),(18,some 24),(19,none),(20,none)],[],[(.slot 4,1050,3)]⟩)]
noncomputable def S8(n m5:Nat)(out4:List D)(t18:D)(t19 t20:Int):Tree :=
 lA (eA S9 n 80 [1,1,1,0,1,0,0]) (Ak S9 5) m5 ⟨(uA 4++(.row 1050::uA 13++(.d 24 t18:: .i .i64 t19:: .i .i64 t20::uA 22))),[(1050,.row 3 out4 true)],[1050],[],[]⟩
  (Ai 0 (Am (jA S9 n 80 [1,1,1,1]) (rA 80 [26] [.tmp 2,.tmp 3] [23,29])))
theorem LM(n m5:Nat)(out4:List D)(t18:D)(t19 t20:Int):S8 n (m5+1) out4 t18 t19 t20 =
 bK (t20<t19) (kK (0≤t20) (kK (t20<(t18.els.length:Int)) (cK 166 [(t18.els.getD (Ama t20) D.nil).fld 2] fun Y1 =>
 .br ((((t18.els.getD (Ama t20) D.nil).fld 1).toInt)!=0) (.ret [D.sl [],D.int 3])
 (.br (!((qB Y1).toBool)) (.ret [D.sl [],D.int 3])
 (kK (out4.length + [D.int ((qA Y1).toInt)].length≤Aj) (S8 n m5 (out4++[D.int ((qA Y1).toInt)]) t18 t19 (Al6 .i64 (t20+1))))))))
 (.ret [D.sl out4,D.int 0]):=by kernel_rfl
theorem Abx(n:Nat)(a0:D):fA S9 n 80 [] [a0] =
 bK (1<(((a0.fld 1).els).length:Int)) (.ret [D.sl [],D.int 5])
 (kK (0≤0) (kK (0≤(((a0.fld 2).els).length:Int)) (kK ((((a0.fld 2).els).length:Int)≤Aj) (S8 n n (Amc (Ama 0) (D.int 0)) (a0.fld 2) (((a0.fld 2).els).length:Int) 0)))):=by kernel_rfl
theorem Abv(n:Nat)(a0:D):fA [] n 82 [] [a0] =
 .br ((((a0.fld 2).els).length:Int)==0) (cK 138 [D.int 0] fun Y1 =>
 .ret [qA Y1])
 (cK 138 [D.int 0] fun Y2 =>
 kK (0≤0) (kK (0<(((a0.fld 2).els).length:Int)) (.br ((((((a0.fld 2).els).getD (Ama 0) D.nil).fld 1).toInt)==1) (cK 171 [D.int 32] fun Y3 =>
 kK (0≤0) (kK (0<(((a0.fld 2).els).length:Int)) (.ret [D.agg [D.int (((((a0.fld 2).els).getD (Ama 0) D.nil).fld 0).toInt),D.int (((qA Y3).fld 1).toInt),(qA Y3).fld 2,D.int (((qA Y3).fld 3).toInt),(qA Y3).fld 4]])))
 (kK (0≤0) (kK (0<(((a0.fld 2).els).length:Int)) (.ret [D.agg [D.int (((((a0.fld 2).els).getD (Ama 0) D.nil).fld 0).toInt),D.int (((qA Y2).fld 1).toInt),(qA Y2).fld 2,D.int (((qA Y2).fld 3).toInt),(qA Y2).fld 4]])))))):=by kernel_rfl
def Hh:List (Nat×Orc):=[(3,⟨[(3,none),(11,some 24),(12,none),(13,none)],[],[]⟩),(7,⟨[(3,none),(11,some 24),(12,none),(13,none),(22,some 65),(23,none),(24,none)],[],[]⟩)]
noncomputable def Ta(n m3 m7:Nat)(out3:Int)(t11:D)(t12 t13:Int)(t22:D)(t23 t24:Int):Tree :=
 lA (eA Hh n 84 [1,1,0,1,0,0,1,1,0,0,1,1,1,0,0]) (Ak Hh 7) m7 ⟨(uA 3++(.i .u64 out3::uA 7++(.d 24 t11:: .i .i64 t12:: .i .i64 t13::uA 8++(.d 65 t22:: .i .i64 t23:: .i .i64 t24::uA 10)))),[],[],[],[]⟩
  (Ai 2 (Ai 1 (Am (jA Hh n 84 [1,1,0,1,0,0,1,1,1]) (Fa Tryz.prog md (Ak Hh 3) (fun s1=>lA (eA Hh n 84 [1,1,0,1,0,0]) (Ak Hh 3) m3 s1 (Ai 0 (Am (jA Hh n 84 [1,1,1]) (rA 84 [26] [.tmp 2] [22])))) (Ai 0 (Am (jA Hh n 84 [1,1,1]) (rA 84 [26] [.tmp 2] [22])))))))
noncomputable def S_(n m3:Nat)(out3:Int)(t11:D)(t12 t13:Int):Tree :=
 lA (eA Hh n 84 [1,1,0,1,0,0]) (Ak Hh 3) m3 ⟨(uA 3++(.i .u64 out3::uA 7++(.d 24 t11:: .i .i64 t12:: .i .i64 t13::uA 21))),[],[],[],[]⟩
  (Ai 0 (Am (jA Hh n 84 [1,1,1]) (rA 84 [26] [.tmp 2] [22])))
theorem LQ(n m3 m7:Nat)(out3:Int)(t11:D)(t12 t13:Int)(t22:D)(t23 t24:Int):Ta n m3 (m7+1) out3 t11 t12 t13 t22 t23 t24 =
 bK (t24<t23) (kK (0≤t24) (kK (t24<(t22.els.length:Int)) (cK 84 [t22.els.getD (Ama t24) D.nil] fun Y2 =>
 cK 83 [D.int out3,D.int ((qA Y2).toInt)] fun Y3 =>
 Ta n m3 m7 ((qA Y3).toInt) t11 t12 t13 t22 t23 (Al6 .i64 (t24+1)))))
 (S_ n m3 out3 t11 t12 (Al6 .i64 (t13+1))):=by kernel_rfl
theorem LP(n m3:Nat)(out3:Int)(t11:D)(t12 t13:Int):S_ n (m3+1) out3 t11 t12 t13 =
 bK (t13<t12) (kK (0≤t13) (kK (t13<(t11.els.length:Int)) (cK 83 [D.int out3,D.int (((t11.els.getD (Ama t13) D.nil).fld 0).toInt)] fun Y1 =>
 Ta n m3 n ((qA Y1).toInt) t11 t12 t13 ((t11.els.getD (Ama t13) D.nil).fld 4) ((((t11.els.getD (Ama t13) D.nil).fld 4).els).length:Int) 0)))
 (.ret [D.int out3]):=by kernel_rfl
theorem Ab3(n:Nat)(a0:D):fA Hh n 84 [] [a0] =
 S_ n n ((a0.fld 0).toInt) (a0.fld 2) (((a0.fld 2).els).length:Int) 0:=by kernel_rfl
theorem Ab0(n:Nat)(a0 l1:D):fA [] n 90 [] [a0,l1] =
 cK 83 [D.int ((a0.fld 0).toInt),D.int l1.toInt] fun Y1 =>
 .ret [D.agg [D.int ((qA Y1).toInt),a0.fld 1,a0.fld 2]]:=by kernel_rfl
theorem Ab4(n:Nat)(c0:D):fA [] n 104 [] [c0] =
 .br (((c0.fld 1).toInt)==2) (.br ((((c0.fld 4).els).length:Int)==1) (kK (0≤0) (kK (0<(((c0.fld 4).els).length:Int)) (cK 90 [((c0.fld 4).els).getD (Ama 0) D.nil,D.int ((c0.fld 0).toInt)] fun Y1 =>
 .ret [qA Y1])))
 (cK 178 [c0] fun Y2 =>
 cK 90 [qA Y2,D.int ((c0.fld 0).toInt)] fun Y3 =>
 .ret [qA Y3]))
 (cK 178 [c0] fun Y4 =>
 cK 90 [qA Y4,D.int ((c0.fld 0).toInt)] fun Y5 =>
 .ret [qA Y5]):=by kernel_rfl
theorem Abw(n:Nat)(nn0:D):fA [] n 138 [] [nn0] =
 cK 212 [D.int nn0.toInt] fun Y1 =>
 .ret [D.agg [D.int 0,D.int 0,qA Y1,D.int 0,D.sl []]]:=by kernel_rfl
theorem Ab2(n:Nat)(a0:D):fA [] n 146 [] [a0] =
 cK 213 [a0] fun Y1 =>
 .br ((qA Y1).toBool) (kK (0≤0) (kK (0<(((a0.fld 2).els).length:Int)) (.ret [D.bool ((((((a0.fld 2).els).getD (Ama 0) D.nil).fld 1).toInt)!=2)])))
 (.ret [D.bool false]):=by kernel_rfl
def Hg:List (Nat×Orc):=[(5,⟨[(3,none),(11,some 24),(12,none),(13,none)],[],[]⟩),(8,⟨[(3,none),(11,some 24),(12,none),(13,none),(18,some 65),(19,none),(20,none)],[],[]⟩)]
noncomputable def S6(n m5 m8:Nat)(out3:Int)(t11:D)(t12 t13:Int)(t18:D)(t19 t20:Int):Tree :=
 lA (eA Hg n 147 [1,1,1,0,1,0,0,1,1,0,0,1,1,0,0]) (Ak Hg 8) m8 ⟨(uA 3++(.i .i64 out3::uA 7++(.d 24 t11:: .i .i64 t12:: .i .i64 t13::uA 4++(.d 65 t18:: .i .i64 t19:: .i .i64 t20::uA 11)))),[],[],[],[]⟩
  (Ai 2 (Ai 1 (Am (jA Hg n 147 [1,1,1,0,1,0,0,1,1,1]) (Fa Tryz.prog md (Ak Hg 5) (fun s1=>lA (eA Hg n 147 [1,1,1,0,1,0,0]) (Ak Hg 5) m5 s1 (Ai 0 (Am (jA Hg n 147 [1,1,1,1]) (rA 147 [26] [.tmp 2] [3])))) (Ai 0 (Am (jA Hg n 147 [1,1,1,1]) (rA 147 [26] [.tmp 2] [3])))))))
noncomputable def S5(n m5:Nat)(out3:Int)(t11:D)(t12 t13:Int):Tree :=
 lA (eA Hg n 147 [1,1,1,0,1,0,0]) (Ak Hg 5) m5 ⟨(uA 3++(.i .i64 out3::uA 7++(.d 24 t11:: .i .i64 t12:: .i .i64 t13::uA 18))),[],[],[],[]⟩
  (Ai 0 (Am (jA Hg n 147 [1,1,1,1]) (rA 147 [26] [.tmp 2] [3])))
theorem LL(n m5 m8:Nat)(out3:Int)(t11:D)(t12 t13:Int)(t18:D)(t19 t20:Int):S6 n m5 (m8+1) out3 t11 t12 t13 t18 t19 t20 =
 bK (t20<t19) (kK (0≤t20) (kK (t20<(t18.els.length:Int)) (cK 147 [t18.els.getD (Ama t20) D.nil] fun Y2 =>
 S6 n m5 m8 (if out3<((qA Y2).toInt) then ((qA Y2).toInt) else out3) t11 t12 t13 t18 t19 (Al6 .i64 (t20+1)))))
 (S5 n m5 out3 t11 t12 (Al6 .i64 (t13+1))):=by kernel_rfl
theorem LK(n m5:Nat)(out3:Int)(t11:D)(t12 t13:Int):S5 n (m5+1) out3 t11 t12 t13 =
 bK (t13<t12) (kK (0≤t13) (kK (t13<(t11.els.length:Int)) (S6 n m5 n out3 t11 t12 t13 ((t11.els.getD (Ama t13) D.nil).fld 4) ((((t11.els.getD (Ama t13) D.nil).fld 4).els).length:Int) 0)))
 (.ret [D.int (Al6 .i64 (out3+1))]):=by kernel_rfl
theorem Abu(n:Nat)(a0:D):fA Hg n 147 [] [a0] =
 cK 146 [a0] fun Y1 =>
 .br ((qA Y1).toBool) (.ret [D.int 0])
 (S5 n n 0 (a0.fld 2) (((a0.fld 2).els).length:Int) 0):=by kernel_rfl
def Tc:List (Nat×Orc):=[(3,⟨[(0,some 24),(2,none),(3,none),(9,some 24),(10,none),(11,none)],[(2,false)],[(.slot 3,1030,67)]⟩)]
noncomputable def Tb(n m3:Nat)(l0:D)(cells3:List D)(t9:D)(t10 t11 t2_0:Int):Tree :=
 lA (eA Tc n 149 [1,1,0,1,0,0]) (Ak Tc 3) m3 ⟨(.d 24 l0:: .undef:: .ptr 2 []:: .row 1030::uA 5++(.d 24 t9:: .i .i64 t10:: .i .i64 t11::uA 15)),[(2,.var 26 (.agg 26 [.i .u64 t2_0,.mt,.mt]) true),(1030,.row 67 cells3 true)],[2,1030],[],[]⟩
  (Ai 0 (Am (jA Tc n 149 [1,1,1]) (rA 149 [24] [.cell 2 26] [26])))
theorem LR(n m3:Nat)(l0:D)(cells3:List D)(t9:D)(t10 t11 t2_0:Int):Tb n (m3+1) l0 cells3 t9 t10 t11 t2_0 =
 bK (t11<t10) (kK (0≤t11) (kK (t11<(t9.els.length:Int)) (cK 214 [t9.els.getD (Ama t11) D.nil] fun Y1 =>
 kK (0≤t11) (kK (t11<(cells3.length:Int)) (Tb n m3 l0 (cells3.set (Ama t11) (qA Y1)) t9 t10 (Al6 .i64 (t11+1)) t2_0)))))
 (.ret [D.agg [D.int 0,D.sl [D.int (l0.els.length:Int)],D.sl cells3]]):=by kernel_rfl
theorem Ab5(n:Nat)(l0:D):fA Tc n 149 [] [l0] =
 kK (0≤(l0.els.length:Int)) (kK ((l0.els.length:Int)≤(l0.els.length:Int)) (kK ((l0.els.length:Int)≤Aj) (Tb n n l0 (Amc (Ama (l0.els.length:Int)) (D.agg [D.int 0,D.int 0,D.agg [D.bool false,D.sl [],D.sl []],D.int 0,D.sl []])) l0 (l0.els.length:Int) 0 0))):=by kernel_rfl
theorem Abt(n:Nat)(c0:D):fA [] n 171 [] [c0] =
 .ret [D.agg [D.int 0,D.int 1,D.agg [D.bool false,D.sl [],D.sl []],D.int c0.toInt,D.sl []]]:=by kernel_rfl
theorem Ab1(n:Nat)(c0:D):fA [] n 178 [] [c0] =
 cK 214 [c0] fun Y1 =>
 .ret [D.agg [D.int 0,D.sl [],D.sl [qA Y1]]]:=by kernel_rfl
theorem Aby(n:Nat)(a0 b1:D):fA [] n 179 [] [a0,b1] =
 cK 232 [a0,b1,D.bool false] fun Y1 =>
 .ret [D.bool ((qA Y1).toBool)]:=by kernel_rfl
theorem Ab7(n:Nat)(a0:D):fA [] n 213 [] [a0] =
 .br ((((a0.fld 1).els).length:Int)==0) (.ret [D.bool ((((a0.fld 2).els).length:Int)==1)])
 (.ret [D.bool false]):=by kernel_rfl
theorem AbA(n:Nat)(c0:D):fA [] n 214 [] [c0] =
 cK 247 [(c0.fld 2).fld 1] fun Y1 =>
 cK 247 [(c0.fld 2).fld 2] fun Y2 =>
 cK 248 [c0.fld 4] fun Y3 =>
 .ret [D.agg [D.int ((c0.fld 0).toInt),D.int ((c0.fld 1).toInt),D.agg [D.bool (((c0.fld 2).fld 0).toBool),D.sl ((qA Y1).els),D.sl ((qA Y2).els)],D.int ((c0.fld 3).toInt),D.sl ((qA Y3).els)]]:=by kernel_rfl
theorem Ab_(n:Nat)(a0 b1 labels2:D):fA [] n 232 [] [a0,b1,labels2] =
 .br labels2.toBool (.br (((a0.fld 0).toInt)!=((b1.fld 0).toInt)) (.ret [D.bool false])
 (cK 234 [a0.fld 1,b1.fld 1] fun Y1 =>
 .br (!((qA Y1).toBool)) (.ret [D.bool false])
 (cK 272 [a0.fld 2,b1.fld 2,D.fn 273 [.ref 4] [D.ref (D.bool labels2.toBool)]] fun Y2 =>
 .ret [D.bool ((qA Y2).toBool)])))
 (cK 234 [a0.fld 1,b1.fld 1] fun Y3 =>
 .br (!((qA Y3).toBool)) (.ret [D.bool false])
 (cK 272 [a0.fld 2,b1.fld 2,D.fn 273 [.ref 4] [D.ref (D.bool labels2.toBool)]] fun Y4 =>
 .ret [D.bool ((qA Y4).toBool)])):=by kernel_rfl
theorem Abz(n:Nat)(nn0:D):fA [] n 257 [] [nn0] =
 cK 214 [D.agg [D.int 0,D.int 0,nn0,D.int 0,D.sl []]] fun Y1 =>
 .ret [qA Y1]:=by kernel_rfl
theorem Ab9(n:Nat)(x0 y1 c2:D):fA [] n 273 [.ref 4] [x0,y1,c2] =
 .br c2.unref.toBool (.br (((x0.fld 0).toInt)!=((y1.fld 0).toInt)) (.ret [D.bool false])
 (.br (((x0.fld 1).toInt)!=((y1.fld 1).toInt)) (.ret [D.bool false])
 (.br (((x0.fld 3).toInt)!=((y1.fld 3).toInt)) (.ret [D.bool false])
 (cK 274 [x0.fld 2,y1.fld 2] fun Y1 =>
 .br (!((qA Y1).toBool)) (.ret [D.bool false])
 (cK 275 [x0.fld 4,y1.fld 4,D.fn 276 [.ref 4] [D.ref c2.unref]] fun Y2 =>
 .ret [D.bool ((qA Y2).toBool)])))))
 (.br (((x0.fld 1).toInt)!=((y1.fld 1).toInt)) (.ret [D.bool false])
 (.br (((x0.fld 3).toInt)!=((y1.fld 3).toInt)) (.ret [D.bool false])
 (cK 274 [x0.fld 2,y1.fld 2] fun Y3 =>
 .br (!((qA Y3).toBool)) (.ret [D.bool false])
 (cK 275 [x0.fld 4,y1.fld 4,D.fn 276 [.ref 4] [D.ref c2.unref]] fun Y4 =>
 .ret [D.bool ((qA Y4).toBool)])))):=by kernel_rfl
theorem Ab8(n:Nat)(p0 q1 c2:D):fA [] n 276 [.ref 4] [p0,q1,c2] =
 cK 232 [p0,q1,D.bool c2.unref.toBool] fun Y1 =>
 .ret [D.bool ((qA Y1).toBool)]:=by kernel_rfl
def Yj:List (Nat×Orc):=[(5,⟨[(1,none),(2,none),(5,none),(7,none)],[(2,true)],[]⟩)]
noncomputable def Yi(n m5:Nat)(deep1 nn5 i7:Int)(a2:D):Tree :=
 lA (eA Yj n 13 [1,1,1,0,1,0,0]) (Ak Yj 5) m5 ⟨(.undef:: .i .i64 deep1:: .ptr 2 []:: .undef:: .undef:: .i .i64 nn5:: .undef:: .i .i64 i7::uA 28),[(2,.var 26 (.d 26 a2) true)],[2],[],[]⟩
  (Ai 0 (Am (jA Yj n 13 [1,1,1,1]) (rA 13 [26,3] [.tmp 4] [4])))
theorem WM(n m5:Nat)(deep1 nn5 i7:Int)(a2:D):Yi n (m5+1) deep1 nn5 i7 a2 =
 bK (i7<nn5) (kK (0≤i7) (kK (i7<(((a2.fld 2).els).length:Int)) (cK 53 [((a2.fld 2).els).getD (Ama i7) D.nil,D.int deep1] fun Y2 =>
 .br (!((qA Y2).toBool)) (.ret [D.bool false])
 (Yi n m5 deep1 nn5 (Al6 .i64 (i7+1)) a2))))
 (.ret [D.bool true]):=by kernel_rfl
theorem AiD(n:Nat)(a0 deep1:D):fA Yj n 13 [] [a0,deep1] =
 cK 52 [a0.fld 1] fun Y1 =>
 .br (((qB Y1).toInt)!=0) (.ret [D.bool false])
 (.br (((qA Y1).toInt)!=(((a0.fld 2).els).length:Int)) (.ret [D.bool false])
 (Yi n n deep1.toInt ((qA Y1).toInt) 0 a0)):=by kernel_rfl
def Hx:List (Nat×Orc):=[(3,⟨[(1,none),(3,none),(4,none)],[(1,true)],[]⟩),(7,⟨[(1,none),(3,none),(4,none),(5,none)],[(1,true)],[]⟩)]
noncomputable def Yp(n m3 m7:Nat)(l3 i4 k5:Int)(a1:D):Tree :=
 lA (eA Hx n 17 [1,1,0,1,0,0,1,0,0,1,1,0,0]) (Ak Hx 7) m7 ⟨(.undef:: .ptr 1 []:: .undef:: .i .u64 l3:: .i .i64 i4:: .i .i64 k5::uA 41),[(1,.var 26 (.d 26 a1) true)],[1],[],[]⟩
  (Ai 2 (Ai 1 (Am (jA Hx n 17 [1,1,0,1,0,0,1,1]) (Fa Tryz.prog md (Ak Hx 3) (fun s1=>lA (eA Hx n 17 [1,1,0,1,0,0]) (Ak Hx 3) m3 s1 (Ai 0 (Am (jA Hx n 17 [1,1,1]) (rA 17 [26] [.tmp 2] [22])))) (Ai 0 (Am (jA Hx n 17 [1,1,1]) (rA 17 [26] [.tmp 2] [22])))))))
noncomputable def Yo(n m3:Nat)(l3 i4:Int)(a1:D):Tree :=
 lA (eA Hx n 17 [1,1,0,1,0,0]) (Ak Hx 3) m3 ⟨(.undef:: .ptr 1 []:: .undef:: .i .u64 l3:: .i .i64 i4::uA 42),[(1,.var 26 (.d 26 a1) true)],[1],[],[]⟩
  (Ai 0 (Am (jA Hx n 17 [1,1,1]) (rA 17 [26] [.tmp 2] [22])))
theorem WR(n m3 m7:Nat)(l3 i4 k5:Int)(a1:D):Yp n m3 (m7+1) l3 i4 k5 a1 =
 kK (0≤i4) (kK (i4<(((a1.fld 2).els).length:Int)) (bK (k5<((((((a1.fld 2).els).getD (Ama i4) D.nil).fld 4).els).length:Int)) (kK (0≤i4) (kK (i4<(((a1.fld 2).els).length:Int)) (kK (0≤k5) (kK (k5<((((((a1.fld 2).els).getD (Ama i4) D.nil).fld 4).els).length:Int)) (cK 17 [(((((a1.fld 2).els).getD (Ama i4) D.nil).fld 4).els).getD (Ama k5) D.nil] fun Y2 =>
 cK 18 [D.int l3,D.int ((qA Y2).toInt)] fun Y3 =>
 Yp n m3 m7 ((qA Y3).toInt) i4 (Al6 .i64 (k5+1)) a1)))))
 (Yo n m3 l3 (Al6 .i64 (i4+1)) a1))):=by kernel_rfl
theorem WQ(n m3:Nat)(l3 i4:Int)(a1:D):Yo n (m3+1) l3 i4 a1 =
 bK (i4<(((a1.fld 2).els).length:Int)) (kK (0≤i4) (kK (i4<(((a1.fld 2).els).length:Int)) (cK 18 [D.int l3,D.int (((((a1.fld 2).els).getD (Ama i4) D.nil).fld 0).toInt)] fun Y1 =>
 Yp n m3 n ((qA Y1).toInt) i4 0 a1)))
 (.ret [D.int l3]):=by kernel_rfl
theorem AiL(n:Nat)(a0:D):fA Hx n 17 [] [a0] =
 Yo n n ((a0.fld 0).toInt) 0 a0:=by kernel_rfl
theorem AiA(n:Nat)(a0:D):fA [] n 30 [] [a0] =
 cK 75 [a0] fun Y1 =>
 .br ((qA Y1).toBool) (cK 13 [a0,D.int 8] fun Y2 =>
 .br ((qA Y2).toBool) (cK 76 [a0] fun Y3 =>
 .ret [D.bool ((qA Y3).toBool)])
 (.ret [D.bool false]))
 (.ret [D.bool false]):=by kernel_rfl
def Yn:List (Nat×Orc):=[(4,⟨[(2,none),(3,none),(5,none)],[(2,true),(3,true)],[]⟩)]
noncomputable def Ym(n m4:Nat)(i5:Int)(a2 b3:D):Tree :=
 lA (eA Yn n 34 [1,1,0,1,0,0]) (Ak Yn 4) m4 ⟨(.undef:: .undef:: .ptr 2 []:: .ptr 3 []:: .undef:: .i .i64 i5::uA 41),[(2,.var 26 (.d 26 a2) true),(3,.var 26 (.d 26 b3) true)],[2,3],[],[]⟩
  (Ai 0 (Am (jA Yn n 34 [1,1,1]) (rA 34 [26,26] [.tmp 4] [4])))
theorem WP(n m4:Nat)(i5:Int)(a2 b3:D):Ym n (m4+1) i5 a2 b3 =
 bK (i5<(((a2.fld 2).els).length:Int)) (kK (0≤i5) (kK (i5<(((a2.fld 2).els).length:Int)) (kK (0≤i5) (kK (i5<(((b3.fld 2).els).length:Int)) (cK 79 [((a2.fld 2).els).getD (Ama i5) D.nil,((b3.fld 2).els).getD (Ama i5) D.nil] fun Y2 =>
 .br (!((qA Y2).toBool)) (.ret [D.bool false])
 (Ym n m4 (Al6 .i64 (i5+1)) a2 b3))))))
 (.ret [D.bool true]):=by kernel_rfl
theorem AiH(n:Nat)(a0 b1:D):fA Yn n 34 [] [a0,b1] =
 .br (((a0.fld 0).toInt)!=((b1.fld 0).toInt)) (.ret [D.bool false])
 (cK 54 [a0.fld 1,b1.fld 1] fun Y1 =>
 .br (!((qA Y1).toBool)) (.ret [D.bool false])
 (.br ((((a0.fld 2).els).length:Int)!=(((b1.fld 2).els).length:Int)) (.ret [D.bool false])
 (Ym n n 0 a0 b1))):=by kernel_rfl
theorem Ai8(n:Nat)(c0 deep1:D):fA [] n 53 [] [c0,deep1] =
 .br (((c0.fld 1).toInt)==0) (.br (((c0.fld 3).toInt)==0) (.br ((((c0.fld 4).els).length:Int)==0) (cK 133 [c0.fld 2] fun Y1 =>
 .ret [D.bool ((qA Y1).toBool)])
 (.ret [D.bool false]))
 (.ret [D.bool false]))
 (.br (((c0.fld 1).toInt)==1) (cK 134 [c0.fld 2] fun Y2 =>
 .br ((qA Y2).toBool) (.br ((((c0.fld 4).els).length:Int)==0) (cK 135 [D.int ((c0.fld 3).toInt)] fun Y3 =>
 .ret [D.bool ((qA Y3).toBool)])
 (.ret [D.bool false]))
 (.ret [D.bool false]))
 (.br (((c0.fld 1).toInt)==2) (cK 134 [c0.fld 2] fun Y4 =>
 .br ((qA Y4).toBool) (.br (((c0.fld 3).toInt)==0) (.br ((((c0.fld 4).els).length:Int)==1) (bK (0<deep1.toInt) (kK (0≤0) (kK (0<(((c0.fld 4).els).length:Int)) (cK 136 [((c0.fld 4).els).getD (Ama 0) D.nil] fun Y5 =>
 .br (!((qA Y5).toBool)) (kK (0≤0) (kK (0<(((c0.fld 4).els).length:Int)) (cK 13 [((c0.fld 4).els).getD (Ama 0) D.nil,D.int (Al6 .i64 (deep1.toInt-1))] fun Y6 =>
 .ret [D.bool ((qA Y6).toBool)])))
 (.ret [D.bool false]))))
 (.ret [D.bool false]))
 (.ret [D.bool false]))
 (.ret [D.bool false]))
 (.ret [D.bool false]))
 (.ret [D.bool false]))):=by kernel_rfl
theorem Ai_(n:Nat)(a0:D):fA [] n 75 [] [a0] =
 cK 161 [a0,D.int 12,D.int 4000] fun Y1 =>
 .ret [D.bool (decide (0≤((qA Y1).toInt)))]:=by kernel_rfl
def Fz:List (Nat×Orc):=[(3,⟨[(1,none),(3,none),(4,none)],[(1,true)],[]⟩),(10,⟨[(1,none),(5,none)],[(1,true)],[]⟩),(13,⟨[(1,none),(5,none),(6,none)],[(1,true)],[]⟩)]
noncomputable def Yr(n m10 m13:Nat)(i5 k6:Int)(a1:D):Tree :=
 lA (eA Fz n 76 [1,1,1,1,0,1,0,0,1,0,0,1,0,0]) (Ak Fz 13) m13 ⟨(.undef:: .ptr 1 []::uA 3++(.i .i64 i5:: .i .i64 k6::uA 55)),[(1,.var 26 (.d 26 a1) true)],[1],[],[]⟩
  (Ai 4 (Ai 3 (Am (jA Fz n 76 [1,1,1,1,0,1,0,0,1,1]) (Fa Tryz.prog md (Ak Fz 10) (fun s1=>lA (eA Fz n 76 [1,1,1,1,0,1,0,0]) (Ak Fz 10) m10 s1 (Ai 2 (Am (jA Fz n 76 [1,1,1,1,1]) (rA 76 [26] [.tmp 2] [4])))) (Ai 2 (Am (jA Fz n 76 [1,1,1,1,1]) (rA 76 [26] [.tmp 2] [4])))))))
noncomputable def Mq(n m10:Nat)(i5:Int)(a1:D):Tree :=
 lA (eA Fz n 76 [1,1,1,1,0,1,0,0]) (Ak Fz 10) m10 ⟨(.undef:: .ptr 1 []::uA 3++(.i .i64 i5::uA 56)),[(1,.var 26 (.d 26 a1) true)],[1],[],[]⟩
  (Ai 2 (Am (jA Fz n 76 [1,1,1,1,1]) (rA 76 [26] [.tmp 2] [4])))
noncomputable def Ru(n m3:Nat)(nn3 i4:Int)(a1:D):Tree :=
 lA (eA Fz n 76 [1,1,0,1,0,0]) (Ak Fz 3) m3 ⟨(.undef:: .ptr 1 []:: .undef:: .i .i64 nn3:: .i .i64 i4::uA 57),[(1,.var 26 (.d 26 a1) true)],[1],[],[]⟩
  (Ai 0 (Am (jA Fz n 76 [1,1,1]) (rA 76 [26] [.tmp 2] [4])))
theorem WX(n m10 m13:Nat)(i5 k6:Int)(a1:D):Yr n m10 (m13+1) i5 k6 a1 =
 kK (0≤i5) (kK (i5<(((a1.fld 2).els).length:Int)) (bK (k6<((((((a1.fld 2).els).getD (Ama i5) D.nil).fld 4).els).length:Int)) (kK (0≤i5) (kK (i5<(((a1.fld 2).els).length:Int)) (kK (0≤k6) (kK (k6<((((((a1.fld 2).els).getD (Ama i5) D.nil).fld 4).els).length:Int)) (cK 76 [(((((a1.fld 2).els).getD (Ama i5) D.nil).fld 4).els).getD (Ama k6) D.nil] fun Y1 =>
 .br (!((qA Y1).toBool)) (.ret [D.bool false])
 (Yr n m10 m13 i5 (Al6 .i64 (k6+1)) a1))))))
 (Mq n m10 (Al6 .i64 (i5+1)) a1))):=by kernel_rfl
theorem WW(n m10:Nat)(i5:Int)(a1:D):Mq n (m10+1) i5 a1 =
 bK (i5<(((a1.fld 2).els).length:Int)) (Yr n m10 n i5 0 a1)
 (.ret [D.bool true]):=by kernel_rfl
theorem WY(n m3:Nat)(nn3 i4:Int)(a1:D):Ru n (m3+1) nn3 i4 a1 =
 bK (i4<(((a1.fld 1).els).length:Int)) (bK (nn3≤100000) (kK (0≤i4) (kK (i4<(((a1.fld 1).els).length:Int)) (bK (0<((((a1.fld 1).els).getD (Ama i4) D.nil).toInt)) (kK (0≤i4) (kK (i4<(((a1.fld 1).els).length:Int)) (Ru n m3 (Al6 .i64 (nn3*((((a1.fld 1).els).getD (Ama i4) D.nil).toInt))) (Al6 .i64 (i4+1)) a1)))
 (Ru n m3 nn3 (Al6 .i64 (i4+1)) a1))))
 (bK (100000<nn3) (.ret [D.bool false])
 (Mq n n 0 a1)))
 (bK (100000<nn3) (.ret [D.bool false])
 (Mq n n 0 a1)):=by kernel_rfl
theorem AiN(n:Nat)(a0:D):fA Fz n 76 [] [a0] =
 Ru n n 1 0 a0:=by kernel_rfl
theorem AiB(n:Nat)(nn0:D):fA [] n 78 [] [nn0] =
 cK 165 [D.int nn0.toInt] fun Y1 =>
 .ret [D.agg [D.int 0,D.int 0,qA Y1,D.int 0,D.sl []]]:=by kernel_rfl
def Yl:List (Nat×Orc):=[(4,⟨[(2,none),(3,none),(5,none)],[(2,true),(3,true)],[]⟩)]
noncomputable def Yk(n m4:Nat)(i5:Int)(a2 b3:D):Tree :=
 lA (eA Yl n 79 [1,1,0,1,0,0]) (Ak Yl 4) m4 ⟨(.undef:: .undef:: .ptr 2 []:: .ptr 3 []:: .undef:: .i .i64 i5::uA 55),[(2,.var 67 (.d 67 a2) true),(3,.var 67 (.d 67 b3) true)],[2,3],[],[]⟩
  (Ai 0 (Am (jA Yl n 79 [1,1,1]) (rA 79 [67,67] [.tmp 4] [4])))
theorem WO(n m4:Nat)(i5:Int)(a2 b3:D):Yk n (m4+1) i5 a2 b3 =
 bK (i5<(((a2.fld 4).els).length:Int)) (kK (0≤i5) (kK (i5<(((a2.fld 4).els).length:Int)) (kK (0≤i5) (kK (i5<(((b3.fld 4).els).length:Int)) (cK 34 [((a2.fld 4).els).getD (Ama i5) D.nil,((b3.fld 4).els).getD (Ama i5) D.nil] fun Y2 =>
 .br (!((qA Y2).toBool)) (.ret [D.bool false])
 (Yk n m4 (Al6 .i64 (i5+1)) a2 b3))))))
 (.ret [D.bool true]):=by kernel_rfl
theorem AiF(n:Nat)(a0 b1:D):fA Yl n 79 [] [a0,b1] =
 .br (((a0.fld 0).toInt)!=((b1.fld 0).toInt)) (.ret [D.bool false])
 (.br (((a0.fld 1).toInt)!=((b1.fld 1).toInt)) (.ret [D.bool false])
 (.br (((a0.fld 3).toInt)!=((b1.fld 3).toInt)) (.ret [D.bool false])
 (cK 137 [a0.fld 2,b1.fld 2] fun Y1 =>
 .br (!((qA Y1).toBool)) (.ret [D.bool false])
 (.br ((((a0.fld 4).els).length:Int)!=(((b1.fld 4).els).length:Int)) (.ret [D.bool false])
 (Yk n n 0 a0 b1))))):=by kernel_rfl
theorem AiO(n:Nat)(nn0:D):fA [] n 134 [] [nn0] =
 .br (!((nn0.fld 0).toBool)) (.br ((((nn0.fld 1).els).length:Int)==0) (.ret [D.bool ((((nn0.fld 2).els).length:Int)==0)])
 (.ret [D.bool false]))
 (.ret [D.bool false]):=by kernel_rfl
theorem AiJ(n:Nat)(a0:D):fA [] n 136 [] [a0] =
 .br ((((a0.fld 1).els).length:Int)==0) (.br ((((a0.fld 2).els).length:Int)==1) (kK (0≤0) (kK (0<(((a0.fld 2).els).length:Int)) (.ret [D.bool ((((((a0.fld 2).els).getD (Ama 0) D.nil).fld 1).toInt)!=2)])))
 (.ret [D.bool false]))
 (.ret [D.bool false]):=by kernel_rfl
def Hy:List (Nat×Orc):=[(5,⟨[(1,none),(2,none),(3,none),(7,none)],[(3,true)],[]⟩),(9,⟨[(1,none),(2,none),(3,none),(7,none),(8,none)],[(3,true)],[]⟩)]
noncomputable def Yq(n m5 m9:Nat)(deep1 nn2:Int)(i7 k8:Int)(a3:D):Tree :=
 lA (eA Hy n 161 [1,1,1,0,1,0,0,1,0,0,1,1,0,0]) (Ak Hy 9) m9 ⟨(.undef:: .i .i64 deep1:: .i .i64 nn2:: .ptr 3 []::uA 3++(.i .i64 i7:: .i .i64 k8::uA 68)),[(3,.var 26 (.d 26 a3) true)],[3],[],[]⟩
  (Ai 2 (Ai 1 (Am (jA Hy n 161 [1,1,1,0,1,0,0,1,1]) (Fa Tryz.prog md (Ak Hy 5) (fun s1=>lA (eA Hy n 161 [1,1,1,0,1,0,0]) (Ak Hy 5) m5 s1 (Ai 0 (Am (jA Hy n 161 [1,1,1,1]) (rA 161 [26,3,3] [.tmp 6] [3])))) (Ai 0 (Am (jA Hy n 161 [1,1,1,1]) (rA 161 [26,3,3] [.tmp 6] [3])))))))
noncomputable def Rt(n m5:Nat)(deep1 nn2 i7:Int)(a3:D):Tree :=
 lA (eA Hy n 161 [1,1,1,0,1,0,0]) (Ak Hy 5) m5 ⟨(.undef:: .i .i64 deep1:: .i .i64 nn2:: .ptr 3 []::uA 3++(.i .i64 i7::uA 69)),[(3,.var 26 (.d 26 a3) true)],[3],[],[]⟩
  (Ai 0 (Am (jA Hy n 161 [1,1,1,1]) (rA 161 [26,3,3] [.tmp 6] [3])))
theorem WT(n m5 m9:Nat)(deep1 nn2:Int)(i7 k8:Int)(a3:D):Yq n m5 (m9+1) deep1 nn2 i7 k8 a3 =
 kK (0≤i7) (kK (i7<(((a3.fld 2).els).length:Int)) (bK (k8<((((((a3.fld 2).els).getD (Ama i7) D.nil).fld 4).els).length:Int)) (bK (0≤nn2) (kK (0≤i7) (kK (i7<(((a3.fld 2).els).length:Int)) (kK (0≤k8) (kK (k8<((((((a3.fld 2).els).getD (Ama i7) D.nil).fld 4).els).length:Int)) (cK 161 [(((((a3.fld 2).els).getD (Ama i7) D.nil).fld 4).els).getD (Ama k8) D.nil,D.int (Al6 .i64 (deep1-1)),D.int nn2] fun Y1 =>
 Yq n m5 m9 deep1 ((qA Y1).toInt) i7 (Al6 .i64 (k8+1)) a3)))))
 (Rt n m5 deep1 nn2 (Al6 .i64 (i7+1)) a3))
 (Rt n m5 deep1 nn2 (Al6 .i64 (i7+1)) a3))):=by kernel_rfl
theorem WS(n m5:Nat)(deep1 nn2 i7:Int)(a3:D):Rt n (m5+1) deep1 nn2 i7 a3 =
 bK (i7<(((a3.fld 2).els).length:Int)) (bK (0≤nn2) (kK (0≤i7) (kK (i7<(((a3.fld 2).els).length:Int)) (kK (0≤i7) (kK (i7<(((a3.fld 2).els).length:Int)) (Yq n m5 n deep1 (Al6 .i64 ((Al6 .i64 ((Al6 .i64 (nn2-1))-(((((((a3.fld 2).els).getD (Ama i7) D.nil).fld 2).fld 1).els).length:Int)))-(((((((a3.fld 2).els).getD (Ama i7) D.nil).fld 2).fld 2).els).length:Int))) i7 0 a3)))))
 (.ret [D.int nn2]))
 (.ret [D.int nn2]):=by kernel_rfl
theorem WV(n:Nat)(a0 deep1 nn2:D):fA Hy n 161 [] [a0,deep1,nn2] =
 .br (deep1.toInt == 0) (.ret [D.int (-1)])
 (Rt n n deep1.toInt (Al6 .i64 ((Al6 .i64 (nn2.toInt-1))-(((a0.fld 1).els).length:Int))) 0 a0):=by kernel_rfl
def Xt:List (Nat×Orc):=[(2,⟨[(0,none),(1,none),(5,none)],[],[]⟩)]
noncomputable def Ro(n m2:Nat)(a0 b1 t5:Int):Tree :=
 lA (eA Xt n 16 [1,0,1,0,0]) (Ak Xt 2) m2 ⟨(.i .u64 a0:: .i .u64 b1::uA 3++(.i .i64 t5::uA 13)),[],[],[],[]⟩
  (Ai 0 (Am (jA Xt n 16 [1,1]) (rA 16 [22,22] [.tmp 4] [4])))
theorem VO(n m2:Nat)(a0 b1 t5:Int):Ro n (m2+1) a0 b1 t5 =
 bK (t5<64) (cK 71 [D.int a0,D.int t5] fun Y1 =>
 .br ((qA Y1).toBool) (cK 71 [D.int b1,D.int t5] fun Y2 =>
 .br (!((qA Y2).toBool)) (.ret [D.bool false])
 (Ro n m2 a0 b1 (Al6 .i64 (t5+1))))
 (Ro n m2 a0 b1 (Al6 .i64 (t5+1))))
 (.ret [D.bool true]):=by kernel_rfl
theorem AhH(n:Nat)(a0 b1:D):fA Xt n 16 [] [a0,b1] =
 Ro n n a0.toInt b1.toInt 0:=by kernel_rfl
def Xx:List (Nat×Orc):=[(3,⟨[(0,none),(1,none),(5,none),(6,none)],[],[]⟩)]
noncomputable def Ov(n m3:Nat)(a0 b1:Int)(out5 t6:Int):Tree :=
 lA (eA Xx n 18 [1,1,0,1,0,0]) (Ak Xx 3) m3 ⟨(.i .u64 a0:: .i .u64 b1::uA 3++(.i .u64 out5:: .i .i64 t6::uA 17)),[],[],[],[]⟩
  (Ai 0 (Am (jA Xx n 18 [1,1,1]) (rA 18 [22,22] [.tmp 4] [22])))
theorem VR(n m3:Nat)(a0 b1:Int)(out5 t6:Int):Ov n (m3+1) a0 b1 out5 t6 =
 bK (t6<64) (cK 71 [D.int a0,D.int t6] fun Y1 =>
 .br ((qA Y1).toBool) (cK 72 [D.int t6] fun Y2 =>
 Ov n m3 a0 b1 (Al6 .u64 (out5+((qA Y2).toInt))) (Al6 .i64 (t6+1)))
 (cK 71 [D.int b1,D.int t6] fun Y3 =>
 .br ((qA Y3).toBool) (cK 72 [D.int t6] fun Y4 =>
 Ov n m3 a0 b1 (Al6 .u64 (out5+((qA Y4).toInt))) (Al6 .i64 (t6+1)))
 (Ov n m3 a0 b1 out5 (Al6 .i64 (t6+1)))))
 (.ret [D.int out5]):=by kernel_rfl
theorem AhJ(n:Nat)(a0 b1:D):fA Xx n 18 [] [a0,b1] =
 Ov n n a0.toInt b1.toInt 0 0:=by kernel_rfl
def Xv:List (Nat×Orc):=[(2,⟨[(0,none),(1,none),(5,none)],[],[]⟩)]
noncomputable def Xu(n m2:Nat)(l0 t1 i5:Int):Tree :=
 lA (eA Xv n 71 [1,0,1,0,0]) (Ak Xv 2) m2 ⟨(.i .u64 l0:: .i .i64 t1::uA 3++(.i .i64 i5::uA 10)),[],[],[],[]⟩
  (Ai 0 (Am (jA Xv n 71 [1,1]) (rA 71 [22,3] [.tmp 4] [4])))
theorem VQ(n m2:Nat)(l0 t1 i5:Int):Xu n (m2+1) l0 t1 i5 =
 bK (i5<t1) (.br (!(2 == (0:Int))) (Xu n m2 (Al6 .u64 (Int.tdiv l0 2)) t1 (Al6 .i64 (i5+1))) .fail)
 (.br (!(2 == (0:Int))) (.ret [D.bool ((Int.tmod l0 2)==1)]) .fail):=by kernel_rfl
theorem AhI(n:Nat)(l0 t1:D):fA Xv n 71 [] [l0,t1] =
 Xu n n l0.toInt t1.toInt 0:=by kernel_rfl
def Xs:List (Nat×Orc):=[(3,⟨[(0,none),(3,none),(4,none)],[],[]⟩)]
noncomputable def Xr(n m3:Nat)(t0 nn3 i4:Int):Tree :=
 lA (eA Xs n 72 [1,1,0,1,0,0]) (Ak Xs 3) m3 ⟨(.i .i64 t0:: .undef:: .undef:: .i .u64 nn3:: .i .i64 i4::uA 8),[],[],[],[]⟩
  (Ai 0 (Am (jA Xs n 72 [1,1,1]) (rA 72 [3] [.tmp 2] [22])))
theorem VM(n m3:Nat)(t0 nn3 i4:Int):Xr n (m3+1) t0 nn3 i4 =
 bK (i4<t0) (Xr n m3 t0 (Al6 .u64 (nn3*2)) (Al6 .i64 (i4+1)))
 (.ret [D.int nn3]):=by kernel_rfl
theorem AhG(n:Nat)(t0:D):fA Xs n 72 [] [t0] =
 Xr n n t0.toInt 1 0:=by kernel_rfl
theorem AdV(n:Nat)(a0 b1:D):fA [] n 83 [] [a0,b1] =
 .ret [D.int (Bm .or .u64 a0.toInt b1.toInt)]:=by kernel_rfl
abbrev Ap:=BitVec 64
abbrev Ao:=BitVec 32
structure Num where
 neg:Bool
 top:List Ao
 bot:List Ao
 deriving DecidableEq
structure CellF (α:Type) where
 l:Ap
 kind:Int
 n:Num
 c:Int
 inn:List α
inductive Arr where
 | mk (s:Ap) (shape:List Int) (cells:List (CellF Arr))
abbrev Cell:=CellF Arr
def Arr.s:Arr→Ap | .mk s _ _=>s
def Arr.shape:Arr→List Int | .mk _ s _=>s
def Arr.cells:Arr→List Cell | .mk _ _ c=>c
@[simp] theorem Arr.s_mk (s sh cs):(Arr.mk s sh cs).s=s:=rfl
@[simp] theorem Arr.shape_mk (s sh cs):(Arr.mk s sh cs).shape=sh:=rfl
@[simp] theorem Arr.cells_mk (s sh cs):(Arr.mk s sh cs).cells=cs:=rfl
def Num.zero:Num:=⟨false,[],[]⟩
def Cell.none:Cell:=⟨0,0,.zero,0,[]⟩
def Arr.none:Arr:= .mk 0 [] []
theorem Arr.ind {p:Arr→Prop} (h : ∀ s sh cs,(∀ c∈cs,∀ x∈c.inn,p x)→p (.mk s sh cs)) (a:Arr):p a :=
 Arr.rec (motive_1:=p) (motive_2:=fun cs=>∀ c∈cs,∀ x∈c.inn,p x) (motive_3:=fun c=>∀ x∈c.inn,p x) (motive_4:=fun as_=>∀ x∈as_,p x)
  (fun s sh cs ih=>h s sh cs ih) (fun c hc=>by cases hc)
  (fun c cs h1 h2 d hd=>by rcases Amw.1 hd with rfl | hd;exact h1;exact h2 d hd)
  (fun _ _ _ _ _ ih=>ih) (fun x hx=>by cases hx)
  (fun a as_ h1 h2 x hx=>by rcases Amw.1 hx with rfl | hx;exact h1;exact h2 x hx) a
def dB{k:Nat}(x:BitVec k):D:= .int (x.toNat:Int)
def dI(l:List Int):D:= .sl (l.map .int)
def dL(l:List Ao):D:= .sl (l.map dB)
def dN(n:Num):D:= .agg [.bool n.neg,dL n.top,dL n.bot]
mutual
def dA:Arr→D
 | .mk s sh cs=> .agg [dB s,dI sh,.sl (P2 cs)]
def P2:List (CellF Arr)→List D
 | []=>[]
 | c::cs=>dC c::P2 cs
def dC:CellF Arr→D
 | ⟨l,k,n,c,inn⟩=> .agg [dB l,.int k,dN n,.int c,.sl (P0 inn)]
def P0:List Arr→List D
 | []=>[]
 | a::as_=>dA a::P0 as_
end
theorem NC : ∀ cs,P2 cs=cs.map dC
 | []=>by simp[P2]
 | c::cs=>by simp[P2,NC cs]
theorem MZ : ∀ as_,P0 as_=as_.map dA
 | []=>by simp[P0]
 | a::as_=>by simp[P0,MZ as_]
theorem Dn(a:Arr):dA a = .agg [dB a.s,dI a.shape,.sl (a.cells.map dC)]:=by cases a;simp[dA,NC]
theorem Dr(c:Cell):dC c = .agg [dB c.l,.int c.kind,dN c.n,.int c.c,.sl (c.inn.map dA)]:=by cases c;simp[dC,MZ]
theorem Ac1(s:Ap)(sh:List Int)(cs:List Cell):D.agg [dB s,dI sh,.sl (cs.map dC)]=dA (.mk s sh cs):=by rw[Dn];rfl
section simps
@[simp] theorem J6 (x:D) (l:List D):(D.agg (x::l)).fld 0=x:=rfl
@[simp] theorem J7 (x y:D) (l:List D):(D.agg (x::y::l)).fld 1=y:=rfl
@[simp] theorem U4 (x y z:D) (l:List D):(D.agg (x::y::z::l)).fld 2=z:=rfl
@[simp] theorem AlU (x y z u:D) (l:List D):(D.agg (x::y::z::u::l)).fld 3=u:=rfl
@[simp] theorem AlV (x y z u v:D) (l:List D):(D.agg (x::y::z::u::v::l)).fld 4=v:=rfl
@[simp] theorem Tz (a:Arr):(dA a).fld 0=dB a.s:=by rw[Dn];rfl
@[simp] theorem T_ (a:Arr):(dA a).fld 1=dI a.shape:=by rw[Dn];rfl
@[simp] theorem CZ (a:Arr):(dA a).fld 2 = .sl (a.cells.map dC):=by rw[Dn];rfl
@[simp] theorem Ac2 (c:Cell):(dC c).fld 0=dB c.l:=by rw[Dr];rfl
@[simp] theorem NB (c:Cell):(dC c).fld 1 = .int c.kind:=by rw[Dr];rfl
@[simp] theorem Ac3 (c:Cell):(dC c).fld 2=dN c.n:=by rw[Dr];rfl
@[simp] theorem Ac4 (c:Cell):(dC c).fld 3 = .int c.c:=by rw[Dr];rfl
@[simp] theorem DB (c:Cell):(dC c).fld 4 = .sl (c.inn.map dA):=by rw[Dr];rfl
@[simp] theorem Lr (n:Num):(dN n).fld 0 = .bool n.neg:=rfl
@[simp] theorem Ni (n:Num):(dN n).fld 1=dL n.top:=rfl
@[simp] theorem Ls (n:Num):(dN n).fld 2=dL n.bot:=rfl
@[simp] theorem Ds (l:List D):(D.sl l).els=l:=rfl
@[simp] theorem B_ (l:List Int):(dI l).els=l.map .int:=rfl
@[simp] theorem Bz (l:List Ao):(dL l).els=l.map dB:=rfl
@[simp] theorem Al (n:Int):(D.int n).toInt=n:=rfl
@[simp] theorem Dc {k:Nat} (x:BitVec k):(dB x).toInt=(x.toNat:Int):=rfl
@[simp] theorem Az (b:Bool):(D.bool b).toBool=b:=rfl
@[simp] theorem AX (x:D):(D.ref x).unref=x:=rfl
@[simp] theorem Gx (f c d):(D.fn f c d).fnId=f:=rfl
@[simp] theorem Gv (f c d):(D.fn f c d).fnCts=c:=rfl
@[simp] theorem Gw (f c d):(D.fn f c d).fnDs=d:=rfl
@[simp] theorem Ag (x:D) (l:List D):qA (x::l)=x:=rfl
@[simp] theorem Cm (x y:D) (l:List D):qB (x::y::l)=y:=rfl
@[simp] theorem U_ (x y z:D) (l:List D):qC (x::y::z::l)=z:=rfl
@[simp] theorem AlW (x y z u:D) (l:List D):(x::y::z::u::l).getD 3 D.nil=u:=rfl
theorem H_{k:Nat}(x:BitVec k):D.int (x.toNat:Int)=dB x:=rfl
theorem AcF(l:List Int):D.sl (l.map .int)=dI l:=rfl
theorem AcG(l:List Ao):D.sl (l.map dB)=dL l:=rfl
end simps
theorem Bx{α:Type}{l:List α}{i:Nat}{x:α}{xs:List α}(h:l.drop i=x::xs):i<l.length∧l[i]? = some x∧l.drop (i+1)=xs:=by
 have hi:i<l.length:=by
  rcases Ann i l.length with h1 | h1
  · exact h1
  · rw[List.drop_eq_nil_of_le h1]at h;cases h
 rw[Am2 hi]at h
 injection h with h1 h2
 exact ⟨hi,by rw[Amb hi,h1],h2⟩
theorem AcD{α:Type}{l:List α}{i:Nat}(h:l.drop i = []):l.length≤i:=List.drop_eq_nil_iff.1 h
theorem As{α:Type}{l:List α}{i:Nat}{x:α}{f:α→D}(h:l[i]? = some x):(l.map f).getD i D.nil=f x:=by
 rw[Amf,Ams,h];rfl
theorem At{x:Int}(h1 : -9223372036854775808≤x)(h2:x≤9223372036854775807):Al6 .i64 x=x:=by rw[IntKind.wrap_i64];omega
theorem Bn{x:Int}(h1:0≤x)(h2:x<18446744073709551616):Al6 .u64 x=x:=by rw[IntKind.wrap_u64];omega
theorem E6{x:Int}(h1:0≤x)(h2:x<4294967296):Al6 .u32 x=x:=by rw[IntKind.wrap_u32];omega
abbrev Sp(f:Nat)(xs ys:List D):Prop:=Dq Tryz.prog md f [] xs ys
abbrev Tw(t:Tree)(ys:List D):Prop:=t.wp Tryz.prog md (fun zs=>zs=ys)
theorem Cd(x y:Int):(x == y)=decide (x=y):=by by_cases h:x=y <;> simp[h]
theorem C0(x y:Int):(x != y)=decide (¬ x=y):=by by_cases h:x=y <;> simp[h]
theorem Ed(p:Prop) [Decidable p]:(!decide p)=decide (¬ p):=by by_cases h:p <;> simp[h]
theorem D0{k:Nat}(h:k<9223372036854775807):Al6 .i64 ((k:Int)+1)=((k+1:Nat):Int):=by rw[At (by omega) (by omega)];rfl
theorem Aes{α σ:Type}{P:Program}{md:Nat→FMode}(xs:List α)(L:Nat→Nat→σ→Tree)(f:List α→σ→List D)(I:List α→σ→Prop)
  (hnil : ∀ m k s,k=xs.length→I [] s→(L (m+1) k s).wp P md (fun zs=>zs=f [] s))
  (hcons : ∀ m k s x rest,xs.drop k=x::rest→I (x::rest) s→(∀ s',I rest s'→(L m (k+1) s').wp P md (fun zs=>zs=f rest s'))→(L (m+1) k s).wp P md (fun zs=>zs=f (x::rest) s)) :
  ∀ m k s,xs.length-k<m→k≤xs.length→I (xs.drop k) s→(L m k s).wp P md (fun zs=>zs=f (xs.drop k) s):=by
 intro m
 induction m with
 | zero=>intro k s h;omega
 | succ m ih =>
  intro k s h1 h2 hI
  cases hd:xs.drop k with
  | nil=>rw[hd]at hI;exact hnil m k s (by have:=AcD hd;omega) hI
  | cons x rest =>
   rw[hd]at hI
   obtain ⟨a1,a2,a3⟩:=Bx hd
   refine hcons m k s x rest hd hI (fun s' hI'=> ?_)
   have:=ih (k+1) s' (by omega) (by omega) (by rw[a3];exact hI')
   rwa[a3]at this
theorem V2{σ:Type}{P:Program}{md:Nat→FMode}(N:Nat)(L:Nat→Nat→σ→Tree)(f:Nat→σ→List D)(I:Nat→σ→Prop)
  (hend : ∀ m s,I N s→(L (m+1) N s).wp P md (fun zs=>zs=f N s))
  (hstep : ∀ m k s,k<N→I k s→(∀ s',I (k+1) s'→(L m (k+1) s').wp P md (fun zs=>zs=f (k+1) s'))→(L (m+1) k s).wp P md (fun zs=>zs=f k s)) :
  ∀ m k s,N-k<m→k≤N→I k s→(L m k s).wp P md (fun zs=>zs=f k s):=by
 intro m
 induction m with
 | zero=>intro k s h;omega
 | succ m ih =>
  intro k s h1 h2 hI
  by_cases hk:k=N
  · subst hk;exact hend m s hI
  · exact hstep m k s (by omega) hI (fun s' hI'=>ih (k+1) s' (by omega) (by omega) hI')
theorem Ii{σ:Type}{P:Program}{md:Nat→FMode}(L:Nat→Nat→σ→Tree)(f:Nat→σ→List D)(I:Nat→σ→Prop)
  (hend : ∀ m s,I 0 s→(L (m+1) 0 s).wp P md (fun zs=>zs=f 0 s))
  (hstep : ∀ m k s,I (k+1) s→(∀ s',I k s'→(L m k s').wp P md (fun zs=>zs=f k s'))→(L (m+1) (k+1) s).wp P md (fun zs=>zs=f (k+1) s)) :
  ∀ m k s,k<m→I k s→(L m k s).wp P md (fun zs=>zs=f k s):=by
 intro m
 induction m with
 | zero=>intro k s h;omega
 | succ m ih =>
  intro k s h1 hI
  cases k with
  | zero=>exact hend m s hI
  | succ k=>exact hstep m k s hI (fun s' hI'=>ih k s' (by omega) hI')
abbrev Cw{σ:Type} := @V2 σ Tryz.prog md
abbrev B3{α σ:Type} := @Aes α σ Tryz.prog md
theorem Ah:(∀ a:Arr,(dA a).fld 0=dB a.s)∧(∀ a:Arr,(dA a).fld 1=dI a.shape)∧(∀ a:Arr,(dA a).fld 2 = .sl (a.cells.map dC))∧(∀ c:Cell,(dC c).fld 0=dB c.l)∧(∀ c:Cell,(dC c).fld 1 = .int c.kind)∧(∀ c:Cell,(dC c).fld 2=dN c.n)∧(∀ c:Cell,(dC c).fld 3 = .int c.c)∧(∀ c:Cell,(dC c).fld 4 = .sl (c.inn.map dA))∧(∀ n:Num,(dN n).fld 0 = .bool n.neg)∧(∀ n:Num,(dN n).fld 1=dL n.top)∧(∀ n:Num,(dN n).fld 2=dL n.bot)∧(∀ l:List D,(D.sl l).els=l)∧(∀ l:List Int,(dI l).els=l.map .int)∧(∀ l:List Ao,(dL l).els=l.map dB)∧(∀ (α β:Type) (l:List α) (f:α→β),(l.map f).length=l.length)∧(∀ n:Nat,Ama (n:Int)=n)∧(∀ n:Int,(D.int n).toInt=n)∧(∀ (k:Nat) (x:BitVec k),(dB x).toInt=(x.toNat:Int))∧(∀ b:Bool,(D.bool b).toBool=b)∧(∀ (x:D) (l:List D),qA (x::l)=x)∧(∀ (x y:D) (l:List D),qB (x::y::l)=y)∧(∀ x y:Int,(x == y)=decide (x=y))∧(∀ x y:Int,(x != y)=decide (¬ x=y))∧(∀ (p:Prop) [Decidable p],(!decide p)=decide (¬ p))∧(∀ (k:Nat) (x:BitVec k),D.int (x.toNat:Int)=dB x)∧Ama 0=0 :=
 ⟨Tz,T_,CZ,Ac2,NB,Ac3,Ac4,DB,Lr,Ni,Ls,Ds,B_,Bz,fun _ _ _ _=>Amd _,Amj,Al,fun _=>Dc,Az,Ag,Cm,Cd,C0,Ed,fun _=>H_,Int.toNat_zero⟩
theorem Bb(k:Nat)(h:k<9223372036854775807:=by omega):Al6 .i64 ((k:Int)+1)=((k+1:Nat):Int):=D0 h
theorem Aq{P:Program}{md:Nat→FMode}{Φ:List D→Prop}{c:Prop} [Decidable c] {t e:Tree}(he:e.wp P md Φ)(h : ¬ c:=by omega):(Tree.br (decide c) t e).wp P md Φ:=M4 h he
theorem Ad{P:Program}{md:Nat→FMode}{Φ:List D→Prop}{c:Prop} [Decidable c] {t e:Tree}(ht:t.wp P md Φ)(h:c:=by omega):(Tree.br (decide c) t e).wp P md Φ:=Ax h ht
theorem GM(a b:Ap):Bm .or .u64 (a.toNat:Int) (b.toNat:Int)=((a|||b).toNat:Int):=by
 show Al6 .u64 ((BitVec.ofInt 64 (a.toNat:Int)|||BitVec.ofInt 64 (b.toNat:Int)).toNat:Int)=_
 have h:=(a|||b).isLt
 rw[show BitVec.ofInt 64 (a.toNat:Int)=a by simp,show BitVec.ofInt 64 (b.toNat:Int)=b by simp]
 exact Bn (Int.natCast_nonneg _) (Int.ofNat_lt.2 h)
theorem Gb(a b:Ap):Sp 83 [dB a,dB b] [dB (a|||b)]:=by
 refine Af 0 (AdV 0 _ _) (Ac ?_)
 simp only[Dc,GM];rfl
theorem Xw(l:Ap)(t:Nat)(ht:t<1000):Sp 71 [dB l,.int t] [.bool (l.getLsbD t)]:=by
 refine Af (t+1) (AhI _ _ _) ?_
 have:=Cw t (fun m k (v:Nat)=>Xu (t+1) m (v:Int) (t:Int) (k:Int)) (fun k v=>[.bool (decide (v / 2 ^ (t-k) % 2=1))]) (fun _ v=>v<18446744073709551616)
  (fun m v hv=>by
   simp only[VQ]
   refine Aq (Bi (by decide) (Ac ?_))
   rw[Cd,Int.tmod_eq_emod_of_nonneg (by omega)]
   simp;omega)
  (fun m k v hk hv ih=>by
   simp only[VQ]
   refine Ad (Bi (by decide) ?_)
   rw[D0 (by omega),Int.tdiv_eq_ediv_of_nonneg (by omega),Bn (by omega) (by omega)]
   have:=ih (v / 2) (by omega)
   rw[show t-k=(t-(k+1))+1 by omega,Anc,Anb,← Ane]
   exact this)
  (t+1) 0 l.toNat (by omega) (by omega) (by have:=l.isLt;omega)
 rw[BitVec.getLsbD,Nat.testBit_eq_decide_div_mod_eq]
 exact this
theorem VN(t:Nat)(ht:t<64):Sp 72 [.int t] [.int ((2 ^ t:Nat):Int)]:=by
 refine Af (t+1) (AhG _ _) ?_
 have:=Cw t (fun m k (v:Nat)=>Xr (t+1) m (t:Int) (v:Int) (k:Int)) (fun k v=>[.int ((2 ^ t:Nat):Int)]) (fun k v=>v=2 ^ k)
  (fun m v hv=>by
   subst hv
   simp only[VM]
   exact Aq (Ac rfl))
  (fun m k v hk hv ih=>by
   subst hv
   simp only[VM]
   refine Ad ?_
   have h2:2 ^ (k+1)<18446744073709551616:=Nat.lt_of_le_of_lt (Nat.pow_le_pow_right (by decide) (show k+1≤63 by omega)) (by decide)
   rw[D0 (by omega),show ((2 ^ k:Nat):Int)*2=((2 ^ (k+1):Nat):Int) by rw[Anc];rfl]
   generalize hx:(2:Nat) ^ (k+1)=x at *
   rw[Bn (x:=(x:Int)) (by omega) (by omega)]
   exact ih _ rfl)
  (t+1) 0 1 (by omega) (by omega) rfl
 exact this
theorem IE(a b:Ap):Sp 18 [dB a,dB b] [dB (a|||b)]:=by
 refine Af 65 (AhJ _ _ _) ?_
 have:=Cw 64 (fun m k (v:Nat)=>Ov 65 m (a.toNat:Int) (b.toNat:Int) (v:Int) (k:Int)) (fun k v=>[dB (a|||b)]) (fun k v=>v=(a|||b).toNat % 2 ^ k)
  (fun m v hv=>by
   subst hv
   simp only[VR]
   refine Aq (Ac ?_)
   rw[Am4 (a|||b).isLt];rfl)
  (fun m k v hk hv ih=>by
   simp only[VR]
   refine Ad (Aa (Xw a k (by omega)) ?_)
   have hb:(a|||b).toNat.testBit k=(a.getLsbD k||b.getLsbD k):=by rw[← BitVec.getLsbD_or];rfl
   have hs:(a|||b).toNat % 2 ^ (k+1)=(a|||b).toNat % 2 ^ k+2 ^ k*((a|||b).toNat.testBit k).toNat:=by rw[Nat.mod_pow_succ,Nat.toNat_testBit]
   have hlt:(a|||b).toNat % 2 ^ (k+1)<18446744073709551616:=Nat.lt_of_le_of_lt (Nat.mod_le _ _) (a|||b).isLt
   rw[hb]at hs
   simp only[Ag,Az]
   have hst:(a.getLsbD k||b.getLsbD k)=true→Al6 .u64 ((v:Int)+((2 ^ k:Nat):Int))=(((a|||b).toNat % 2 ^ (k+1):Nat):Int):=by
     intro h
     rw[h]at hs
     simp only[Bool.toNat_true,Nat.mul_one]at hs
     rw[← hv]at hs
     rw[show (v:Int)+((2 ^ k:Nat):Int)=((v+2 ^ k:Nat):Int) from rfl,← hs]
     generalize (a|||b).toNat % 2 ^ (k+1)=x at *
     rw[Bn (x:=(x:Int)) (by omega) (by omega)]
   refine Bu (fun h=> ?_) (fun h=> ?_)
   · refine Aa (VN k hk) ?_
     simp only[Ag,Al]
     rw[hst (by simp[h]),D0 (by omega)]
     exact ih _ rfl
   · refine Aa (Xw b k (by omega)) ?_
     simp only[Ag,Az]
     refine Bu (fun h'=> ?_) (fun h'=> ?_)
     · refine Aa (VN k hk) ?_
       simp only[Ag,Al]
       rw[hst (by simp[h']),D0 (by omega)]
       exact ih _ rfl
     · rw[D0 (by omega)]
       refine ih _ ?_
       rw[hs,h,h',hv];simp)
  65 0 0 (by omega) (by omega) (by simp[Nat.mod_one])
 exact this
def A7(a b:Ap):Bool:=(Am9 64).all fun t=> !a.getLsbD t||b.getLsbD t
theorem EA{a b:Ap} : A7 a b=true↔∀ t,t<64→a.getLsbD t=true→b.getLsbD t=true:=by
 unfold A7
 rw[Ank]
 constructor
 · intro h t ht ha
   have:=h t (List.mem_range.2 ht)
   simpa [ha]using this
 · intro h t ht
   have:=h t (List.mem_range.1 ht)
   cases ha:a.getLsbD t <;> simp_all
theorem U5{a b:Ap} : A7 a b=true↔∀ t,a.getLsbD t=true→b.getLsbD t=true:=by
 rw[EA]
 refine ⟨fun h t ht=> ?_,fun h t _=>h t⟩
 rcases Ann t 64 with hl | hl
 · exact h t hl ht
 · rw[BitVec.getLsbD_of_ge _ _ hl]at ht;cases ht
theorem Gg(a b:Ap):Sp 16 [dB a,dB b] [.bool (A7 a b)]:=by
 refine Af 65 (AhH _ _ _) ?_
 have:=Cw 64 (fun m k (_:Unit)=>Ro 65 m (a.toNat:Int) (b.toNat:Int) (k:Int)) (fun k v=>[.bool (A7 a b)]) (fun k v=>∀ t,t<k→a.getLsbD t=true→b.getLsbD t=true)
  (fun m v hv=>by
   simp only[VO]
   refine Aq (Ac ?_)
   rw[show A7 a b=true from EA.2 hv])
  (fun m k v hk hv ih=>by
   simp only[VO]
   refine Ad (Aa (Xw a k (by omega)) ?_)
   simp only[Ag,Az]
   refine Bu (fun h=> ?_) (fun h=> ?_)
   · refine Aa (Xw b k (by omega)) ?_
     simp only[Ag,Az]
     refine Bu (fun h'=> ?_) (fun h'=> ?_)
     · refine Ac ?_
       have:A7 a b=false:=by
        rw[Bool.eq_false_iff]
        intro hf
        rw[U5]at hf
        have:=hf k h
        simp[this]at h'
       rw[this]
     · rw[D0 (by omega)]
       refine ih () (fun t ht hat=> ?_)
       by_cases hk:t=k
       · subst hk;simpa using h'
       · exact hv t (by omega) hat
   · rw[D0 (by omega)]
     refine ih () (fun t ht hat=> ?_)
     by_cases hk:t=k
     · subst hk;rw[h]at hat;cases hat
     · exact hv t (by omega) hat)
  65 0 () (by omega) (by omega) (fun t ht=>by omega)
 exact this
theorem Aix(n:Nat)(a0:D):fA [] n 77 [] [a0] =
 cK 162 [a0] fun Y1 =>
 .br (!((qA Y1).toBool)) (.ret [D.int 0,D.bool false])
 (cK 164 [a0] fun Y2 =>
 cK 163 [qA Y2] fun Y3 =>
 .ret [D.int ((qA Y3).toInt),D.bool ((qB Y3).toBool)]):=by kernel_rfl
theorem Aiu(n:Nat)(a0:D):fA [] n 133 [] [a0] =
 bK (32<(((a0.fld 1).els).length:Int)) (.ret [D.bool false])
 (bK (32<(((a0.fld 2).els).length:Int)) (.ret [D.bool false])
 (cK 164 [a0] fun Y1 =>
 cK 210 [a0] fun Y2 =>
 cK 209 [qA Y1,qA Y2] fun Y3 =>
 .br (((qB Y3).toInt)==0) (cK 137 [a0,qA Y3] fun Y4 =>
 .ret [D.bool ((qA Y4).toBool)])
 (.ret [D.bool false]))):=by kernel_rfl
theorem Aiv(n:Nat)(a0 b1:D):fA [] n 137 [] [a0,b1] =
 .br (((a0.fld 0).toBool)==((b1.fld 0).toBool)) (cK 211 [a0.fld 1,b1.fld 1] fun Y1 =>
 .br ((qA Y1).toBool) (cK 211 [a0.fld 2,b1.fld 2] fun Y2 =>
 .ret [D.bool ((qA Y2).toBool)])
 (.ret [D.bool false]))
 (.ret [D.bool false]):=by kernel_rfl
theorem Aio(n:Nat)(a0:D):fA [] n 162 [] [a0] =
 .br ((((a0.fld 2).els).length:Int)==1) (kK (0≤0) (kK (0<(((a0.fld 2).els).length:Int)) (.ret [D.bool (((((a0.fld 2).els).getD (Ama 0) D.nil).toInt)==1)])))
 (.ret [D.bool false]):=by kernel_rfl
theorem Aiy(n:Nat)(a0:D):fA [] n 164 [] [a0] =
 cK 223 [D.agg [D.bool ((a0.fld 0).toBool),a0.fld 1]] fun Y1 =>
 .ret [qA Y1]:=by kernel_rfl
theorem Ais(n:Nat)(nn0:D):fA [] n 165 [] [nn0] =
 cK 225 [D.int nn0.toInt] fun Y1 =>
 cK 226 [qA Y1] fun Y2 =>
 .ret [qA Y2]:=by kernel_rfl
theorem Ah0(n:Nat)(a0:D):fA [] n 166 [] [a0] =
 cK 227 [a0.fld 2] fun Y1 =>
 .br (!((qA Y1).toBool)) (.ret [D.int 0,D.bool false])
 (cK 229 [a0] fun Y2 =>
 cK 228 [qA Y2] fun Y3 =>
 .ret [D.int ((qA Y3).toInt),D.bool ((qB Y3).toBool)]):=by kernel_rfl
theorem Aiq(n:Nat)(p0 q1:D):fA [] n 209 [] [p0,q1] =
 cK 223 [p0] fun Y1 =>
 cK 223 [q1] fun Y2 =>
 .br (((((qA Y2).fld 1).els).length:Int)==0) (.ret [D.agg [D.bool false,D.sl [],D.sl []],D.int 3])
 (cK 243 [(qA Y1).fld 1,(qA Y2).fld 1] fun Y3 =>
 cK 244 [(qA Y1).fld 1,qA Y3] fun Y4 =>
 cK 244 [(qA Y2).fld 1,qA Y3] fun Y5 =>
 bK (32<(((qA Y4).els).length:Int)) (.ret [D.agg [D.bool false,D.sl [],D.sl []],D.int 7])
 (bK (32<(((qA Y5).els).length:Int)) (.ret [D.agg [D.bool false,D.sl [],D.sl []],D.int 7])
 (bK (0<(((qA Y4).els).length:Int)) (.ret [D.agg [D.bool (!((((qA Y1).fld 0).toBool)==(((qA Y2).fld 0).toBool))),qA Y4,qA Y5],D.int 0])
 (.ret [D.agg [D.bool false,qA Y4,qA Y5],D.int 0])))):=by kernel_rfl
theorem Aim(n:Nat)(a0:D):fA [] n 210 [] [a0] =
 cK 223 [D.agg [D.bool false,a0.fld 2]] fun Y1 =>
 .ret [qA Y1]:=by kernel_rfl
theorem Ahu(n:Nat)(nn0:D):fA [] n 212 [] [nn0] =
 cK 246 [D.int nn0.toInt] fun Y1 =>
 cK 245 [qA Y1] fun Y2 =>
 .ret [qA Y2]:=by kernel_rfl
theorem Ahi(n:Nat)(a0 b1:D):fA [] n 219 [] [a0,b1] =
 cK 227 [a0.fld 2] fun Y1 =>
 .br ((qA Y1).toBool) (cK 227 [b1.fld 2] fun Y2 =>
 .br ((qA Y2).toBool) (cK 229 [a0] fun Y3 =>
 cK 229 [b1] fun Y4 =>
 cK 253 [qA Y3,qA Y4] fun Y5 =>
 .ret [D.int ((qA Y5).toInt)])
 (cK 229 [a0] fun Y6 =>
 cK 255 [b1] fun Y7 =>
 cK 254 [qA Y6,qA Y7] fun Y8 =>
 cK 229 [b1] fun Y9 =>
 cK 255 [a0] fun Y10 =>
 cK 254 [qA Y9,qA Y10] fun Y11 =>
 cK 253 [qA Y8,qA Y11] fun Y12 =>
 .ret [D.int ((qA Y12).toInt)]))
 (cK 229 [a0] fun Y13 =>
 cK 255 [b1] fun Y14 =>
 cK 254 [qA Y13,qA Y14] fun Y15 =>
 cK 229 [b1] fun Y16 =>
 cK 255 [a0] fun Y17 =>
 cK 254 [qA Y16,qA Y17] fun Y18 =>
 cK 253 [qA Y15,qA Y18] fun Y19 =>
 .ret [D.int ((qA Y19).toInt)]):=by kernel_rfl
theorem Ai0(n:Nat)(nn0:D):fA [] n 226 [] [nn0] =
 cK 223 [nn0] fun Y1 =>
 .ret [D.agg [D.bool (((qA Y1).fld 0).toBool),(qA Y1).fld 1,D.sl [D.int 1]]]:=by kernel_rfl
theorem Ah5(n:Nat)(a0:D):fA [] n 227 [] [a0] =
 .br ((a0.els.length:Int)==1) (kK (0≤0) (kK (0<(a0.els.length:Int)) (.ret [D.bool (((a0.els.getD (Ama 0) D.nil).toInt)==1)])))
 (.ret [D.bool false]):=by kernel_rfl
theorem Ah6(n:Nat)(a0:D):fA [] n 229 [] [a0] =
 .ret [D.agg [D.bool ((a0.fld 0).toBool),a0.fld 1]]:=by kernel_rfl
theorem Ah2(n:Nat)(nn0:D):fA [] n 245 [] [nn0] =
 cK 269 [nn0] fun Y1 =>
 bK (32<((((qA Y1).fld 1).els).length:Int)) (.ret [D.agg [D.bool false,D.sl [],D.sl []]])
 (.ret [D.agg [D.bool (((qA Y1).fld 0).toBool),(qA Y1).fld 1,D.sl [D.int 1]]]):=by kernel_rfl
theorem Ah3(n:Nat)(a0:D):fA [] n 255 [] [a0] =
 .ret [D.agg [D.bool false,a0.fld 2]]:=by kernel_rfl
theorem Aht(n:Nat)(a0:D):fA [] n 258 [] [a0] =
 cK 304 [D.bool (!((a0.fld 0).toBool)),a0] fun Y1 =>
 .ret [qA Y1]:=by kernel_rfl
theorem Ahz(n:Nat)(a0:D):fA [] n 259 [] [a0] =
 cK 229 [a0] fun Y1 =>
 cK 301 [qA Y1] fun Y2 =>
 .ret [D.int ((qA Y2).toInt)]:=by kernel_rfl
theorem Ahj(n:Nat)(a0 b1:D):fA [] n 260 [] [a0,b1] =
 cK 229 [a0] fun Y1 =>
 cK 255 [b1] fun Y2 =>
 cK 254 [qA Y1,qA Y2] fun Y3 =>
 cK 255 [a0] fun Y4 =>
 cK 229 [b1] fun Y5 =>
 cK 254 [qA Y4,qA Y5] fun Y6 =>
 cK 305 [qA Y3,qA Y6] fun Y7 =>
 .ret [qA Y7,D.int ((qB Y7).toInt)]:=by kernel_rfl
theorem Ahh(n:Nat)(a0:D):fA [] n 261 [] [a0] =
 cK 258 [a0] fun Y1 =>
 cK 262 [qA Y1] fun Y2 =>
 cK 258 [qA Y2] fun Y3 =>
 .ret [qA Y3]:=by kernel_rfl
theorem Ahk(n:Nat)(a0:D):fA [] n 262 [] [a0] =
 cK 229 [a0] fun Y1 =>
 cK 255 [a0] fun Y2 =>
 cK 306 [qA Y1,qA Y2] fun Y3 =>
 cK 245 [qA Y3] fun Y4 =>
 .ret [qA Y4]:=by kernel_rfl
theorem Ahe(n:Nat)(a0:D):fA [] n 263 [] [a0] =
 cK 304 [D.bool false,a0] fun Y1 =>
 .ret [qA Y1]:=by kernel_rfl
theorem Ahy(n:Nat)(a0 b1:D):fA [] n 274 [] [a0,b1] =
 .br (((a0.fld 0).toBool)==((b1.fld 0).toBool)) (cK 312 [a0.fld 1,b1.fld 1] fun Y1 =>
 .br ((qA Y1).toBool) (cK 312 [a0.fld 2,b1.fld 2] fun Y2 =>
 .ret [D.bool ((qA Y2).toBool)])
 (.ret [D.bool false]))
 (.ret [D.bool false]):=by kernel_rfl
theorem Ahf(n:Nat)(a0 b1:D):fA [] n 277 [] [a0,b1] =
 cK 229 [a0] fun Y1 =>
 cK 255 [b1] fun Y2 =>
 cK 254 [qA Y1,qA Y2] fun Y3 =>
 cK 229 [b1] fun Y4 =>
 cK 255 [a0] fun Y5 =>
 cK 254 [qA Y4,qA Y5] fun Y6 =>
 cK 313 [qA Y3,qA Y6] fun Y7 =>
 cK 255 [a0] fun Y8 =>
 cK 255 [b1] fun Y9 =>
 cK 254 [qA Y8,qA Y9] fun Y10 =>
 cK 305 [qA Y7,qA Y10] fun Y11 =>
 .ret [qA Y11,D.int ((qB Y11).toInt)]:=by kernel_rfl
theorem Ah1(n:Nat)(a0 b1:D):fA [] n 278 [] [a0,b1] =
 cK 258 [b1] fun Y1 =>
 cK 277 [a0,qA Y1] fun Y2 =>
 .ret [qA Y2,D.int ((qB Y2).toInt)]:=by kernel_rfl
theorem Ahs(n:Nat)(a0 b1:D):fA [] n 279 [] [a0,b1] =
 cK 229 [a0] fun Y1 =>
 cK 229 [b1] fun Y2 =>
 cK 254 [qA Y1,qA Y2] fun Y3 =>
 cK 255 [a0] fun Y4 =>
 cK 255 [b1] fun Y5 =>
 cK 254 [qA Y4,qA Y5] fun Y6 =>
 cK 305 [qA Y3,qA Y6] fun Y7 =>
 .ret [qA Y7,D.int ((qB Y7).toInt)]:=by kernel_rfl
theorem Ahr(n:Nat)(a0 b1:D):fA [] n 280 [] [a0,b1] =
 cK 259 [a0] fun Y1 =>
 .br (((qA Y1).toInt)==0) (cK 304 [D.bool ((b1.fld 0).toBool),b1] fun Y2 =>
 .ret [qA Y2,D.int 0])
 (cK 260 [b1,a0] fun Y3 =>
 .br (((qB Y3).toInt)!=0) (.ret [D.agg [D.bool false,D.sl [],D.sl []],D.int ((qB Y3).toInt)])
 (cK 262 [qA Y3] fun Y4 =>
 cK 279 [a0,qA Y4] fun Y5 =>
 .br (((qB Y5).toInt)!=0) (.ret [D.agg [D.bool false,D.sl [],D.sl []],D.int ((qB Y5).toInt)])
 (cK 278 [b1,qA Y5] fun Y6 =>
 .ret [qA Y6,D.int ((qB Y6).toInt)]))):=by kernel_rfl
theorem Ahw(n:Nat)(a0 nn1:D):fA [] n 281 [] [a0,nn1] =
 cK 229 [a0] fun Y1 =>
 cK 255 [a0] fun Y2 =>
 bK (nn1.toInt<0) (cK 301 [qA Y1] fun Y3 =>
 .br (((qA Y3).toInt)==0) (.ret [D.agg [D.bool false,D.sl [],D.sl []],D.int 3])
 (.br (nn1.toInt == (-9223372036854775808)) (.ret [D.agg [D.bool false,D.sl [],D.sl []],D.int 3])
 (cK 314 [qA Y2,D.int (Al6 .i64 (0-nn1.toInt))] fun Y4 =>
 .br (((qB Y4).toInt)!=0) (.ret [D.agg [D.bool false,D.sl [],D.sl []],D.int ((qB Y4).toInt)])
 (cK 314 [qA Y1,D.int (Al6 .i64 (0-nn1.toInt))] fun Y5 =>
 .br (((qB Y5).toInt)!=0) (.ret [D.agg [D.bool false,D.sl [],D.sl []],D.int ((qB Y5).toInt)])
 (cK 305 [qA Y4,qA Y5] fun Y6 =>
 .ret [qA Y6,D.int ((qB Y6).toInt)])))))
 (cK 314 [qA Y1,D.int nn1.toInt] fun Y7 =>
 .br (((qB Y7).toInt)!=0) (.ret [D.agg [D.bool false,D.sl [],D.sl []],D.int ((qB Y7).toInt)])
 (cK 314 [qA Y2,D.int nn1.toInt] fun Y8 =>
 .br (((qB Y8).toInt)!=0) (.ret [D.agg [D.bool false,D.sl [],D.sl []],D.int ((qB Y8).toInt)])
 (cK 305 [qA Y7,qA Y8] fun Y9 =>
 .ret [qA Y9,D.int ((qB Y9).toInt)]))):=by kernel_rfl
theorem Aho(n:Nat)(a0 b1:D):fA [] n 282 [] [a0,b1] =
 cK 283 [a0,b1] fun Y1 =>
 .br (((qB Y1).toInt)!=0) (.ret [D.agg [D.bool false,D.sl [],D.sl []],D.int ((qB Y1).toInt)])
 (cK 259 [qA Y1] fun Y2 =>
 .br (((qA Y2).toInt)==0) (cK 212 [D.int 0] fun Y3 =>
 .ret [qA Y3,D.int 0])
 (cK 260 [a0,qA Y1] fun Y4 =>
 .br (((qB Y4).toInt)!=0) (.ret [D.agg [D.bool false,D.sl [],D.sl []],D.int ((qB Y4).toInt)])
 (cK 279 [qA Y4,b1] fun Y5 =>
 .ret [qA Y5,D.int ((qB Y5).toInt)]))):=by kernel_rfl
theorem Ahl(n:Nat)(a0 b1:D):fA [] n 283 [] [a0,b1] =
 cK 227 [a0.fld 2] fun Y1 =>
 .br (!((qA Y1).toBool)) (.ret [D.agg [D.bool false,D.sl [],D.sl []],D.int 3])
 (cK 227 [b1.fld 2] fun Y2 =>
 .br (!((qA Y2).toBool)) (.ret [D.agg [D.bool false,D.sl [],D.sl []],D.int 3])
 (cK 315 [a0.fld 1,b1.fld 1] fun Y3 =>
 cK 245 [D.agg [D.bool false,qA Y3]] fun Y4 =>
 .ret [qA Y4,D.int 0])):=by kernel_rfl
theorem Ah4(n:Nat)(neg0 a1:D):fA [] n 304 [] [neg0,a1] =
 cK 299 [a1.fld 1] fun Y1 =>
 cK 299 [a1.fld 2] fun Y2 =>
 .br neg0.toBool (.ret [D.agg [D.bool (decide (0<(((qA Y1).els).length:Int))),D.sl ((qA Y1).els),D.sl ((qA Y2).els)]])
 (.ret [D.agg [D.bool false,D.sl ((qA Y1).els),D.sl ((qA Y2).els)]]):=by kernel_rfl
theorem Ahp(n:Nat)(p0 q1:D):fA [] n 305 [] [p0,q1] =
 cK 299 [p0.fld 1] fun Y1 =>
 cK 299 [q1.fld 1] fun Y2 =>
 .br ((((qA Y2).els).length:Int)==0) (.ret [D.agg [D.bool false,D.sl [],D.sl []],D.int 3])
 (cK 227 [D.sl ((qA Y2).els)] fun Y3 =>
 .br (!((qA Y3).toBool)) (cK 315 [D.sl ((qA Y1).els),D.sl ((qA Y2).els)] fun Y4 =>
 cK 227 [qA Y4] fun Y5 =>
 .br (!((qA Y5).toBool)) (cK 323 [D.sl ((qA Y1).els),qA Y4] fun Y6 =>
 cK 323 [D.sl ((qA Y2).els),qA Y4] fun Y7 =>
 bK (32<(((qA Y6).els).length:Int)) (.ret [D.agg [D.bool false,D.sl [],D.sl []],D.int 7])
 (bK (32<(((qA Y7).els).length:Int)) (.ret [D.agg [D.bool false,D.sl [],D.sl []],D.int 7])
 (bK (0<(((qA Y6).els).length:Int)) (.ret [D.agg [D.bool (!(((p0.fld 0).toBool)==((q1.fld 0).toBool))),qA Y6,qA Y7],D.int 0])
 (.ret [D.agg [D.bool false,qA Y6,qA Y7],D.int 0]))))
 (bK (32<(((qA Y1).els).length:Int)) (.ret [D.agg [D.bool false,D.sl [],D.sl []],D.int 7])
 (bK (32<(((qA Y2).els).length:Int)) (.ret [D.agg [D.bool false,D.sl [],D.sl []],D.int 7])
 (bK (0<(((qA Y1).els).length:Int)) (.ret [D.agg [D.bool (!(((p0.fld 0).toBool)==((q1.fld 0).toBool))),D.sl ((qA Y1).els),D.sl ((qA Y2).els)],D.int 0])
 (.ret [D.agg [D.bool false,D.sl ((qA Y1).els),D.sl ((qA Y2).els)],D.int 0])))))
 (bK (32<(((qA Y1).els).length:Int)) (.ret [D.agg [D.bool false,D.sl [],D.sl []],D.int 7])
 (bK (32<(((qA Y2).els).length:Int)) (.ret [D.agg [D.bool false,D.sl [],D.sl []],D.int 7])
 (bK (0<(((qA Y1).els).length:Int)) (.ret [D.agg [D.bool (!(((p0.fld 0).toBool)==((q1.fld 0).toBool))),D.sl ((qA Y1).els),D.sl ((qA Y2).els)],D.int 0])
 (.ret [D.agg [D.bool false,D.sl ((qA Y1).els),D.sl ((qA Y2).els)],D.int 0]))))):=by kernel_rfl
theorem UX(n:Nat)(a0:D):fA [] n 307 [] [a0] =
 cK 227 [a0.fld 2] fun Y1 =>
 .br (!((qA Y1).toBool)) (.ret [D.agg [D.bool false,D.sl []],D.bool false])
 (cK 229 [a0] fun Y2 =>
 cK 269 [qA Y2] fun Y3 =>
 .ret [qA Y3,D.bool true]):=by kernel_rfl
def Mp:List (Nat×Orc):=[(5,⟨[(0,some 23),(4,none),(5,none),(6,none)],[],[]⟩),(17,⟨[(0,some 23),(7,none),(8,none)],[],[]⟩)]
noncomputable def Rs(n m17:Nat)(s0:D)(nn7 i8:Int):Tree :=
 lA (eA Mp n 52 [1,1,1,1,1,1,1,0,1,0,0]) (Ak Mp 17) m17 ⟨(.d 23 s0::uA 6++(.i .i64 nn7:: .i .i64 i8::uA 47)),[],[],[],[]⟩
  (Ai 2 (Am (jA Mp n 52 [1,1,1,1,1,1,1,1]) (rA 52 [23] [.tmp 2,.tmp 3] [3,3])))
noncomputable def K_(n m5:Nat)(s0:D)(big4 none5:Bool)(i6:Int):Tree :=
 lA (eA Mp n 52 [1,1,1,0,1,0,0]) (Ak Mp 5) m5 ⟨(.d 23 s0::uA 3++(.b big4:: .b none5:: .i .i64 i6::uA 49)),[],[],[],[]⟩
  (Ai 0 (Am (jA Mp n 52 [1,1,1,1]) (rA 52 [23] [.tmp 2,.tmp 3] [3,3])))
theorem WF(n m17:Nat)(s0:D)(nn7 i8:Int):Rs n (m17+1) s0 nn7 i8 =
 bK (i8<(s0.els.length:Int)) (kK (0≤i8) (kK (i8<(s0.els.length:Int)) (bK (2048<(Al6 .i64 (nn7*((s0.els.getD (Ama i8) D.nil).toInt)))) (.ret [D.int 0,D.int 7])
 (Rs n m17 s0 (Al6 .i64 (nn7*((s0.els.getD (Ama i8) D.nil).toInt))) (Al6 .i64 (i8+1))))))
 (.ret [D.int nn7,D.int 0]):=by kernel_rfl
theorem WG(n m5:Nat)(s0:D)(big4 none5:Bool)(i6:Int):K_ n (m5+1) s0 big4 none5 i6 =
 bK (i6<(s0.els.length:Int)) (kK (0≤i6) (kK (i6<(s0.els.length:Int)) (bK (((s0.els.getD (Ama i6) D.nil).toInt)<0) (.ret [D.int 0,D.int 3])
 (.br big4 (.br none5 (K_ n m5 s0 true true (Al6 .i64 (i6+1)))
 (kK (0≤i6) (kK (i6<(s0.els.length:Int)) (K_ n m5 s0 true (((s0.els.getD (Ama i6) D.nil).toInt)==0) (Al6 .i64 (i6+1))))))
 (kK (0≤i6) (kK (i6<(s0.els.length:Int)) (.br none5 (K_ n m5 s0 (decide (2048<((s0.els.getD (Ama i6) D.nil).toInt))) true (Al6 .i64 (i6+1)))
 (kK (0≤i6) (kK (i6<(s0.els.length:Int)) (K_ n m5 s0 (decide (2048<((s0.els.getD (Ama i6) D.nil).toInt))) (((s0.els.getD (Ama i6) D.nil).toInt)==0) (Al6 .i64 (i6+1))))))))))))
 (.br big4 (.ret [D.int 0,D.int 7])
 (.br none5 (.ret [D.int 0,D.int 0])
 (Rs n n s0 1 0))):=by kernel_rfl
theorem Ai5(n:Nat)(s0:D):fA Mp n 52 [] [s0] =
 bK (6<(s0.els.length:Int)) (.ret [D.int 0,D.int 7])
 (K_ n n s0 false false 0):=by kernel_rfl
def Yh:List (Nat×Orc):=[(4,⟨[(0,some 23),(1,some 23),(5,none)],[],[]⟩)]
noncomputable def Yg(n m4:Nat)(a0 b1:D)(i5:Int):Tree :=
 lA (eA Yh n 54 [1,1,0,1,0,0]) (Ak Yh 4) m4 ⟨(.d 23 a0:: .d 23 b1::uA 3++(.i .i64 i5::uA 20)),[],[],[],[]⟩
  (Ai 0 (Am (jA Yh n 54 [1,1,1]) (rA 54 [23,23] [.tmp 4] [4])))
theorem Ai6(n m4:Nat)(a0 b1:D)(i5:Int):Yg n (m4+1) a0 b1 i5 =
 bK (i5<(a0.els.length:Int)) (kK (0≤i5) (kK (i5<(a0.els.length:Int)) (kK (0≤i5) (kK (i5<(b1.els.length:Int)) (.br (((a0.els.getD (Ama i5) D.nil).toInt)!=((b1.els.getD (Ama i5) D.nil).toInt)) (.ret [D.bool false])
 (Yg n m4 a0 b1 (Al6 .i64 (i5+1))))))))
 (.ret [D.bool true]):=by kernel_rfl
theorem Ai7(n:Nat)(a0 b1:D):fA Yh n 54 [] [a0,b1] =
 .br ((a0.els.length:Int)!=(b1.els.length:Int)) (.ret [D.bool false])
 (Yg n n a0 b1 0):=by kernel_rfl
theorem Akf(n:Nat)(s0 v1:D):fA [] n 74 [] [s0,v1] =
 cK 160 [s0,D.int v1.toInt] fun Y1 =>
 .ret [D.bool (decide (0≤((qA Y1).toInt)))]:=by kernel_rfl
theorem AjP(n:Nat)(s0:D):fA [] n 81 [] [s0] =
 bK (6<(s0.els.length:Int)) (.ret [D.int 0,D.int 7])
 (cK 167 [s0,D.fn 168 [] []] fun Y1 =>
 .br ((qA Y1).toBool) (.ret [D.int 0,D.int 3])
 (cK 167 [s0,D.fn 169 [] []] fun Y2 =>
 .br ((qA Y2).toBool) (.ret [D.int 0,D.int 7])
 (cK 74 [s0,D.int 0] fun Y3 =>
 .br ((qA Y3).toBool) (.ret [D.int 0,D.int 0])
 (cK 170 [s0] fun Y4 =>
 .br (((qA Y4).toInt)==0) (.ret [D.int 0,D.int 7])
 (.ret [D.int ((qA Y4).toInt),D.int 0]))))):=by kernel_rfl
theorem ZL(n:Nat)(s0:D):fA [] n 96 [] [s0] =
 .amb s0.els.isEmpty (.ret [D.sl []])
 (kK (([]:List D).length+s0.els.length≤Aj) (.ret [D.sl ([]++s0.els)])):=by kernel_rfl
theorem AjY(n:Nat)(s0:D):fA [] n 139 [] [s0] =
 .amb s0.els.isEmpty (.ret [D.sl []])
 (kK (([]:List D).length+s0.els.length≤Aj) (.ret [D.sl ([]++s0.els)])):=by kernel_rfl
theorem AjL(n:Nat)(s0 axis1:D):fA [] n 140 [] [s0,axis1] =
 cK 81 [s0] fun Y1 =>
 .br (((qB Y1).toInt)!=0) (.ret [D.int 0,D.int 0,D.int 0,D.bool false])
 (bK (axis1.toInt<0) (.ret [D.int 0,D.int 0,D.int 0,D.bool false])
 (bK ((s0.els.length:Int)≤axis1.toInt) (.ret [D.int 0,D.int 0,D.int 0,D.bool false])
 (kK (0≤axis1.toInt) (kK (axis1.toInt≤(s0.els.length:Int)) (cK 170 [D.sl (s0.els.take (Ama axis1.toInt))] fun Y2 =>
 kK (0≤axis1.toInt) (kK (axis1.toInt<(s0.els.length:Int)) (kK (0≤Al6 .i64 (axis1.toInt+1)) (kK (Al6 .i64 (axis1.toInt+1)≤(s0.els.length:Int)) (cK 170 [D.sl (s0.els.drop (Ama (Al6 .i64 (axis1.toInt+1))))] fun Y3 =>
 .ret [D.int ((qA Y2).toInt),D.int ((s0.els.getD (Ama axis1.toInt) D.nil).toInt),D.int ((qA Y3).toInt),D.bool true]))))))))):=by kernel_rfl
def JN:List (Nat×Orc):=[(1,⟨[(0,none),(2,none),(3,none)],[],[(.slot 0,0,3)]⟩)]
noncomputable def Z_(n m1:Nat)(s0:List D)(i2 j3:Int):Tree :=
 lA (eA JN n 144 [1,0,0]) (Ak JN 1) m1 ⟨(.row 0:: .undef:: .i .i64 i2:: .i .i64 j3::uA 24),[(0,.row 3 s0 true)],[0],[],[0]⟩
  (Ai 0 (rA 144 [23] [] []))
theorem Akq(n m1:Nat)(s0:List D)(i2 j3:Int):Z_ n (m1+1) s0 i2 j3 =
 bK (i2<j3) (kK (0≤j3) (kK (j3<(s0.length:Int)) (kK (0≤i2) (kK (i2<(s0.length:Int)) (kK (0≤i2) (kK (i2<(s0.length:Int)) (kK (0≤j3) (kK (j3<((s0.set (Ama i2) (D.int ((s0.getD (Ama j3) D.nil).toInt))).length:Int)) (Z_ n m1 ((s0.set (Ama i2) (D.int ((s0.getD (Ama j3) D.nil).toInt))).set (Ama j3) (D.int ((s0.getD (Ama i2) D.nil).toInt))) (Al6 .i64 (i2+1)) (Al6 .i64 (j3-1)))))))))))
 (.ret [D.sl s0]):=by kernel_rfl
theorem Akr(n:Nat)(s0:D):fA JN n 144 [] [s0] =
 Z_ n n s0.els 0 (Al6 .i64 ((s0.els.length:Int)-1)):=by kernel_rfl
theorem Aks(n:Nat)(x0 cmp1_c0 cmp1_c1:D):fA [] n 155 [] [x0,(D.fn 156 [.ref 4,.ref 26] [cmp1_c0,cmp1_c1])] =
 cK 217 [D.sl x0.els,D.int (x0.els.length:Int),(D.fn 156 [.ref 4,.ref 26] [cmp1_c0,cmp1_c1])] fun Y1 =>
 .ret [D.sl ((qA Y1).els)]:=by kernel_rfl
def Z9:List (Nat×Orc):=[(2,⟨[(0,some 23),(1,none),(7,none),(8,none)],[],[]⟩)]
noncomputable def Z8(n m2:Nat)(s0:D)(v1 t7 t8:Int):Tree :=
 lA (eA Z9 n 160 [1,0,1,0,0]) (Ak Z9 2) m2 ⟨(.d 23 s0:: .i .i64 v1::uA 5++(.i .i64 t7:: .i .i64 t8::uA 10)),[],[],[],[]⟩
  (Ai 0 (Am (jA Z9 n 160 [1,1]) (rA 160 [23,3] [.tmp 4] [3])))
theorem ZU(n m2:Nat)(s0:D)(v1 t7 t8:Int):Z8 n (m2+1) s0 v1 t7 t8 =
 bK (t8<t7) (kK (0≤t8) (kK (t8<(s0.els.length:Int)) (.br (v1 == ((s0.els.getD (Ama t8) D.nil).toInt)) (.ret [D.int t8])
 (Z8 n m2 s0 v1 t7 (Al6 .i64 (t8+1))))))
 (.ret [D.int (-1)]):=by kernel_rfl
theorem Akp(n:Nat)(s0 v1:D):fA Z9 n 160 [] [s0,v1] =
 Z8 n n s0 v1.toInt (s0.els.length:Int) 0:=by kernel_rfl
theorem Akd(n:Nat)(s0:D):fA [] n 167 [] [s0,(D.fn 168 [] [])] =
 cK 230 [s0,(D.fn 168 [] [])] fun Y1 =>
 .ret [D.bool (decide (0≤((qA Y1).toInt)))]:=by kernel_rfl
theorem Ake(n:Nat)(s0:D):fA [] n 167 [] [s0,(D.fn 169 [] [])] =
 cK 230 [s0,(D.fn 169 [] [])] fun Y1 =>
 .ret [D.bool (decide (0≤((qA Y1).toInt)))]:=by kernel_rfl
theorem Akc(n:Nat)(s0:D):fA [] n 167 [] [s0,(D.fn 188 [] [])] =
 cK 230 [s0,(D.fn 188 [] [])] fun Y1 =>
 .ret [D.bool (decide (0≤((qA Y1).toInt)))]:=by kernel_rfl
theorem AjN(n:Nat)(nn0:D):fA [] n 168 [] [nn0] =
 .ret [D.bool (decide (nn0.toInt<0))]:=by kernel_rfl
theorem AjO(n:Nat)(nn0:D):fA [] n 169 [] [nn0] =
 .ret [D.bool (decide (2048<nn0.toInt))]:=by kernel_rfl
def Zx:List (Nat×Orc):=[(3,⟨[(3,none),(6,some 23),(7,none),(8,none)],[],[]⟩)]
noncomputable def R5(n m3:Nat)(out3:Int)(t6:D)(t7 t8:Int):Tree :=
 lA (eA Zx n 170 [1,1,0,1,0,0]) (Ak Zx 3) m3 ⟨(uA 3++(.i .i64 out3:: .undef:: .undef:: .d 23 t6:: .i .i64 t7:: .i .i64 t8::uA 10)),[],[],[],[]⟩
  (Ai 0 (Am (jA Zx n 170 [1,1,1]) (rA 170 [23] [.tmp 2] [3])))
theorem Zw(n m3:Nat)(out3:Int)(t6:D)(t7 t8:Int):R5 n (m3+1) out3 t6 t7 t8 =
 bK (t8<t7) (kK (0≤t8) (kK (t8<(t6.els.length:Int)) (bK (2048<(Al6 .i64 (out3*((t6.els.getD (Ama t8) D.nil).toInt)))) (.ret [D.int 0])
 (R5 n m3 (Al6 .i64 (out3*((t6.els.getD (Ama t8) D.nil).toInt))) t6 t7 (Al6 .i64 (t8+1))))))
 (.ret [D.int out3]):=by kernel_rfl
theorem ZJ(n:Nat)(s0:D):fA Zx n 170 [] [s0] =
 R5 n n 1 s0 (s0.els.length:Int) 0:=by kernel_rfl
theorem AjR(n:Nat)(s0 axis1 nn2:D):fA [] n 173 [] [s0,axis1,nn2] =
 bK (axis1.toInt<0) (.ret [D.sl [],D.bool false])
 (bK ((s0.els.length:Int)≤axis1.toInt) (.ret [D.sl [],D.bool false])
 (cK 96 [s0] fun Y1 =>
 kK (0≤axis1.toInt) (kK (axis1.toInt<(((qA Y1).els).length:Int)) (.ret [D.sl (((qA Y1).els).set (Ama axis1.toInt) (D.int nn2.toInt)),D.bool true])))):=by kernel_rfl
def Zt:List (Nat×Orc):=[(6,⟨[(0,some 23),(1,none),(8,none),(9,none)],[],[(.slot 8,1060,3)]⟩)]
noncomputable def Zs(n m6:Nat)(s0:D)(nn1:Int)(out8:List D)(i9:Int):Tree :=
 lA (eA Zt n 175 [1,1,1,1,0,1,0,0]) (Ak Zt 6) m6 ⟨(.d 23 s0:: .i .i64 nn1::uA 6++(.row 1060:: .i .i64 i9::uA 42)),[(1060,.row 3 out8 true)],[1060],[],[]⟩
  (Ai 0 (Am (jA Zt n 175 [1,1,1,1,1]) (rA 175 [23,3] [.tmp 4,.tmp 5] [23,4])))
theorem ZD(n m6:Nat)(s0:D)(nn1:Int)(out8:List D)(i9:Int):Zs n (m6+1) s0 nn1 out8 i9 =
 bK (0≤i9) (kK (0≤i9) (kK (i9<(s0.els.length:Int)) (.br (!(((s0.els.getD (Ama i9) D.nil).toInt)==(0:Int))) (kK (0≤i9) (kK (i9<(out8.length:Int)) (kK (0≤i9) (kK (i9<(s0.els.length:Int)) (.br (!(((s0.els.getD (Ama i9) D.nil).toInt)==(0:Int))) (Zs n m6 s0 (Al6 .i64 (Int.tdiv nn1 ((s0.els.getD (Ama i9) D.nil).toInt))) (out8.set (Ama i9) (D.int (Int.tmod nn1 ((s0.els.getD (Ama i9) D.nil).toInt)))) (Al6 .i64 (i9-1))) .fail))))) .fail)))
 (.ret [D.sl out8,D.bool true]):=by kernel_rfl
theorem AjM(n:Nat)(s0 nn1:D):fA Zt n 175 [] [s0,nn1] =
 cK 81 [s0] fun Y1 =>
 .br (((qB Y1).toInt)!=0) (.ret [D.sl [],D.bool false])
 (bK (nn1.toInt<0) (.ret [D.sl [],D.bool false])
 (bK (((qA Y1).toInt)≤nn1.toInt) (.ret [D.sl [],D.bool false])
 (kK (0≤(s0.els.length:Int)) (kK ((s0.els.length:Int)≤(s0.els.length:Int)) (kK ((s0.els.length:Int)≤Aj) (Zs n n s0 nn1.toInt (Amc (Ama (s0.els.length:Int)) (D.int 0)) (Al6 .i64 ((s0.els.length:Int)-1)))))))):=by kernel_rfl
def Zv:List (Nat×Orc):=[(6,⟨[(1,some 23),(8,none),(25,some 23),(26,none),(27,none)],[],[]⟩)]
noncomputable def Zu(n m6:Nat)(at1:D)(out8:Int)(t25:D)(t26 t27:Int):Tree :=
 lA (eA Zv n 176 [1,1,1,0,1,0,0]) (Ak Zv 6) m6 ⟨(.undef:: .d 23 at1::uA 6++(.i .i64 out8::uA 16++(.d 23 t25:: .i .i64 t26:: .i .i64 t27::uA 27))),[],[],[],[]⟩
  (Ai 0 (Am (jA Zv n 176 [1,1,1,1]) (rA 176 [23,23] [.tmp 4,.tmp 5] [3,4])))
theorem ZF(n m6:Nat)(at1:D)(out8:Int)(t25:D)(t26 t27:Int):Zu n (m6+1) at1 out8 t25 t26 t27 =
 bK (t27<t26) (kK (0≤t27) (kK (t27<(t25.els.length:Int)) (kK (0≤t27) (kK (t27<(at1.els.length:Int)) (bK (((at1.els.getD (Ama t27) D.nil).toInt)<0) (.ret [D.int 0,D.bool false])
 (kK (0≤t27) (kK (t27<(at1.els.length:Int)) (bK (((t25.els.getD (Ama t27) D.nil).toInt)≤((at1.els.getD (Ama t27) D.nil).toInt)) (.ret [D.int 0,D.bool false])
 (kK (0≤t27) (kK (t27<(at1.els.length:Int)) (Zu n m6 at1 (Al6 .i64 ((Al6 .i64 (out8*((t25.els.getD (Ama t27) D.nil).toInt)))+((at1.els.getD (Ama t27) D.nil).toInt))) t25 t26 (Al6 .i64 (t27+1)))))))))))))
 (.ret [D.int out8,D.bool true]):=by kernel_rfl
theorem AjQ(n:Nat)(s0 at1:D):fA Zv n 176 [] [s0,at1] =
 cK 81 [s0] fun Y1 =>
 .br (((qB Y1).toInt)!=0) (.ret [D.int 0,D.bool false])
 (.br ((at1.els.length:Int)!=(s0.els.length:Int)) (.ret [D.int 0,D.bool false])
 (Zu n n at1 0 s0 (s0.els.length:Int) 0)):=by kernel_rfl
def H0:List (Nat×Orc):=[(2,⟨[(0,none),(1,none),(2,some 107),(6,none),(7,none),(8,none)],[],[(.slot 0,0,3)]⟩),(7,⟨[(0,none),(1,none),(2,some 107),(6,none)],[],[(.slot 0,0,3)]⟩),(9,⟨[(0,none),(1,none),(2,some 107),(6,none),(7,none),(8,none)],[],[(.slot 0,0,3)]⟩)]
def AE:List Nat:=[23,3,107]
noncomputable def AD(n m7 m9:Nat)(data0:List D)(nn1:Int)(cmp2:D)(blockSize6 a7 b8:Int):Tree :=
 lA (eA H0 n 217 [1,1,1,1,0,0,1,0,1,0,0,0]) (Ak H0 9) m9 ⟨(.row 0:: .i .i64 nn1:: .d 107 cmp2::uA 3++(.i .i64 blockSize6:: .i .i64 a7:: .i .i64 b8::uA 54)),[(0,.row 3 data0 true)],[0],[],[0]⟩
  (Ai 4 (Am (jA H0 n 217 [1,1,1,1,0,0,1,0,1,1]) (Ai 3 (Fa Tryz.prog md (Ak H0 7) (fun s1=>lA (eA H0 n 217 [1,1,1,1,0,0]) (Ak H0 7) m7 s1 (Ai 2 (rA 217 AE [] []))) (Ai 2 (rA 217 AE [] []))))))
noncomputable def O8(n m7:Nat)(data0:List D)(nn1:Int)(cmp2:D)(blockSize6:Int):Tree :=
 lA (eA H0 n 217 [1,1,1,1,0,0]) (Ak H0 7) m7 ⟨(.row 0:: .i .i64 nn1:: .d 107 cmp2::uA 3++(.i .i64 blockSize6::uA 56)),[(0,.row 3 data0 true)],[0],[],[0]⟩
  (Ai 2 (rA 217 AE [] []))
noncomputable def AC(n m2:Nat)(data0:List D)(nn1:Int)(cmp2:D)(blockSize6 a7 b8:Int):Tree :=
 lA (eA H0 n 217 [1,1,0,0,0]) (Ak H0 2) m2 ⟨(.row 0:: .i .i64 nn1:: .d 107 cmp2::uA 3++(.i .i64 blockSize6:: .i .i64 a7:: .i .i64 b8::uA 54)),[(0,.row 3 data0 true)],[0],[],[0]⟩
  (Ai 0 (Am (jA H0 n 217 [1,1,1]) (rA 217 AE [] [])))
theorem Aky(n m7 m9:Nat)(data0:List D)(nn1:Int)(cmp2_c0 cmp2_c1:D)(blockSize6 a7 b8:Int):AD n m7 (m9+1) data0 nn1 (D.fn 156 [.ref 4,.ref 26] [cmp2_c0,cmp2_c1]) blockSize6 a7 b8 =
 bK (b8≤nn1) (cK 251 [D.sl data0,D.int a7,D.int (Al6 .i64 (a7+blockSize6)),D.int b8,(D.fn 156 [.ref 4,.ref 26] [cmp2_c0,cmp2_c1])] fun Y3 =>
 AD n m7 m9 ((qA Y3).els) nn1 (D.fn 156 [.ref 4,.ref 26] [cmp2_c0,cmp2_c1]) blockSize6 b8 (Al6 .i64 (b8+(Al6 .i64 (2*blockSize6)))))
 (bK ((Al6 .i64 (a7+blockSize6))<nn1) (cK 251 [D.sl data0,D.int a7,D.int (Al6 .i64 (a7+blockSize6)),D.int nn1,(D.fn 156 [.ref 4,.ref 26] [cmp2_c0,cmp2_c1])] fun Y4 =>
 O8 n m7 ((qA Y4).els) nn1 (D.fn 156 [.ref 4,.ref 26] [cmp2_c0,cmp2_c1]) (Al6 .i64 (blockSize6*2)))
 (O8 n m7 data0 nn1 (D.fn 156 [.ref 4,.ref 26] [cmp2_c0,cmp2_c1]) (Al6 .i64 (blockSize6*2)))):=by kernel_rfl
theorem Akx(n m7:Nat)(data0:List D)(nn1:Int)(cmp2_c0 cmp2_c1:D)(blockSize6:Int):O8 n (m7+1) data0 nn1 (D.fn 156 [.ref 4,.ref 26] [cmp2_c0,cmp2_c1]) blockSize6 =
 bK (blockSize6<nn1) (AD n m7 n data0 nn1 (D.fn 156 [.ref 4,.ref 26] [cmp2_c0,cmp2_c1]) blockSize6 0 (Al6 .i64 (2*blockSize6)))
 (.ret [D.sl data0]):=by kernel_rfl
theorem Akw(n m2:Nat)(data0:List D)(nn1:Int)(cmp2_c0 cmp2_c1:D)(blockSize6 a7 b8:Int):AC n (m2+1) data0 nn1 (D.fn 156 [.ref 4,.ref 26] [cmp2_c0,cmp2_c1]) blockSize6 a7 b8 =
 bK (b8≤nn1) (cK 250 [D.sl data0,D.int a7,D.int b8,(D.fn 156 [.ref 4,.ref 26] [cmp2_c0,cmp2_c1])] fun Y1 =>
 AC n m2 ((qA Y1).els) nn1 (D.fn 156 [.ref 4,.ref 26] [cmp2_c0,cmp2_c1]) blockSize6 b8 (Al6 .i64 (b8+blockSize6)))
 (cK 250 [D.sl data0,D.int a7,D.int nn1,(D.fn 156 [.ref 4,.ref 26] [cmp2_c0,cmp2_c1])] fun Y2 =>
 O8 n n ((qA Y2).els) nn1 (D.fn 156 [.ref 4,.ref 26] [cmp2_c0,cmp2_c1]) blockSize6):=by kernel_rfl
theorem Akz(n:Nat)(data0 nn1:D)(cmp2_c0 cmp2_c1:D):fA H0 n 217 [] [data0,nn1,(D.fn 156 [.ref 4,.ref 26] [cmp2_c0,cmp2_c1])] =
 AC n n data0.els nn1.toInt (D.fn 156 [.ref 4,.ref 26] [cmp2_c0,cmp2_c1]) 20 0 20:=by kernel_rfl
def O6:List (Nat×Orc):=[(2,⟨[(0,some 23),(1,some 119),(7,none),(8,none)],[],[]⟩)]
noncomputable def Hz(n m2:Nat)(s0 f1:D)(t7 t8:Int):Tree :=
 lA (eA O6 n 230 [1,0,1,0,0]) (Ak O6 2) m2 ⟨(.d 23 s0:: .d 119 f1::uA 5++(.i .i64 t7:: .i .i64 t8::uA 10)),[],[],[],[]⟩
  (Ai 0 (Am (jA O6 n 230 [1,1]) (rA 230 [23,119] [.tmp 4] [3])))
theorem ZS(n m2:Nat)(s0:D)(t7 t8:Int):Hz n (m2+1) s0 (D.fn 168 [] []) t7 t8 =
 bK (t8<t7) (kK (0≤t8) (kK (t8<(s0.els.length:Int)) (.call (D.fn 168 [] []).fnId (D.fn 168 [] []).fnCts ([D.int ((s0.els.getD (Ama t8) D.nil).toInt)]++(D.fn 168 [] []).fnDs) fun Y1 =>
 .br ((qA Y1).toBool) (.ret [D.int t8])
 (Hz n m2 s0 (D.fn 168 [] []) t7 (Al6 .i64 (t8+1))))))
 (.ret [D.int (-1)]):=by kernel_rfl
theorem ZT(n m2:Nat)(s0:D)(t7 t8:Int):Hz n (m2+1) s0 (D.fn 169 [] []) t7 t8 =
 bK (t8<t7) (kK (0≤t8) (kK (t8<(s0.els.length:Int)) (.call (D.fn 169 [] []).fnId (D.fn 169 [] []).fnCts ([D.int ((s0.els.getD (Ama t8) D.nil).toInt)]++(D.fn 169 [] []).fnDs) fun Y1 =>
 .br ((qA Y1).toBool) (.ret [D.int t8])
 (Hz n m2 s0 (D.fn 169 [] []) t7 (Al6 .i64 (t8+1))))))
 (.ret [D.int (-1)]):=by kernel_rfl
theorem ZR(n m2:Nat)(s0:D)(t7 t8:Int):Hz n (m2+1) s0 (D.fn 188 [] []) t7 t8 =
 bK (t8<t7) (kK (0≤t8) (kK (t8<(s0.els.length:Int)) (.call (D.fn 188 [] []).fnId (D.fn 188 [] []).fnCts ([D.int ((s0.els.getD (Ama t8) D.nil).toInt)]++(D.fn 188 [] []).fnDs) fun Y1 =>
 .br ((qA Y1).toBool) (.ret [D.int t8])
 (Hz n m2 s0 (D.fn 188 [] []) t7 (Al6 .i64 (t8+1))))))
 (.ret [D.int (-1)]):=by kernel_rfl
theorem Akn(n:Nat)(s0:D):fA O6 n 230 [] [s0,(D.fn 168 [] [])] =
 Hz n n s0 (D.fn 168 [] []) (s0.els.length:Int) 0:=by kernel_rfl
theorem Ako(n:Nat)(s0:D):fA O6 n 230 [] [s0,(D.fn 169 [] [])] =
 Hz n n s0 (D.fn 169 [] []) (s0.els.length:Int) 0:=by kernel_rfl
theorem Akm(n:Nat)(s0:D):fA O6 n 230 [] [s0,(D.fn 188 [] [])] =
 Hz n n s0 (D.fn 188 [] []) (s0.els.length:Int) 0:=by kernel_rfl
def Z5:List (Nat×Orc):=[(4,⟨[(0,some 23),(1,some 23),(12,none),(13,none)],[],[]⟩)]
noncomputable def Z4(n m4:Nat)(s10 s21:D)(t12 t13:Int):Tree :=
 lA (eA Z5 n 234 [1,1,0,1,0,0]) (Ak Z5 4) m4 ⟨(.d 23 s10:: .d 23 s21::uA 10++(.i .i64 t12:: .i .i64 t13::uA 12)),[],[],[],[]⟩
  (Ai 0 (Am (jA Z5 n 234 [1,1,1]) (rA 234 [23,23] [.tmp 4] [4])))
theorem Aki(n m4:Nat)(s10 s21:D)(t12 t13:Int):Z4 n (m4+1) s10 s21 t12 t13 =
 bK (t13<t12) (kK (0≤t13) (kK (t13<(s10.els.length:Int)) (kK (0≤t13) (kK (t13<(s21.els.length:Int)) (.br (((s10.els.getD (Ama t13) D.nil).toInt)!=((s21.els.getD (Ama t13) D.nil).toInt)) (.ret [D.bool false])
 (Z4 n m4 s10 s21 t12 (Al6 .i64 (t13+1))))))))
 (.ret [D.bool true]):=by kernel_rfl
theorem Akj(n:Nat)(s10 s21:D):fA Z5 n 234 [] [s10,s21] =
 .br ((s10.els.length:Int)!=(s21.els.length:Int)) (.ret [D.bool false])
 (Z4 n n s10 s21 (s10.els.length:Int) 0):=by kernel_rfl
theorem AjZ(n:Nat)(s0:D):fA [] n 247 [] [s0] =
 .amb s0.els.isEmpty (.ret [D.sl []])
 (kK (([]:List D).length+s0.els.length≤Aj) (.ret [D.sl ([]++s0.els)])):=by kernel_rfl
theorem AjX(n:Nat)(s0:D):fA [] n 248 [] [s0] =
 .amb s0.els.isEmpty (.ret [D.sl []])
 (kK (([]:List D).length+s0.els.length≤Aj) (.ret [D.sl ([]++s0.els)])):=by kernel_rfl
def Ke:List (Nat×Orc):=[(1,⟨[(0,none),(1,none),(2,none),(3,some 107),(8,none)],[],[(.slot 0,0,3)]⟩),(4,⟨[(0,none),(1,none),(2,none),(3,some 107),(8,none),(9,none)],[],[(.slot 0,0,3)]⟩)]
def JO:List Nat:=[23,3,3,107]
noncomputable def AA(n m1 m4:Nat)(data0:List D)(a1 b2:Int)(cmp3:D)(i8 j9:Int):Tree :=
 lA (eA Ke n 250 [1,0,0,1,0,0,1,0,0]) (Ak Ke 4) m4 ⟨(.row 0:: .i .i64 a1:: .i .i64 b2:: .d 107 cmp3::uA 4++(.i .i64 i8:: .i .i64 j9::uA 43)),[(0,.row 3 data0 true)],[0],[],[0]⟩
  (Ai 2 (Ai 1 (Am (jA Ke n 250 [1,0,0,1,1]) (Fa Tryz.prog md (Ak Ke 1) (fun s1=>lA (eA Ke n 250 [1,0,0]) (Ak Ke 1) m1 s1 (Ai 0 (rA 250 JO [] []))) (Ai 0 (rA 250 JO [] []))))))
noncomputable def O7(n m1:Nat)(data0:List D)(a1 b2:Int)(cmp3:D)(i8:Int):Tree :=
 lA (eA Ke n 250 [1,0,0]) (Ak Ke 1) m1 ⟨(.row 0:: .i .i64 a1:: .i .i64 b2:: .d 107 cmp3::uA 4++(.i .i64 i8::uA 44)),[(0,.row 3 data0 true)],[0],[],[0]⟩
  (Ai 0 (rA 250 JO [] []))
theorem ZW(n m1 m4:Nat)(data0:List D)(a1 b2:Int)(cmp3_c0 cmp3_c1:D)(i8 j9:Int):AA n m1 (m4+1) data0 a1 b2 (D.fn 156 [.ref 4,.ref 26] [cmp3_c0,cmp3_c1]) i8 j9 =
 bK (a1<j9) (kK (0≤j9) (kK (j9<(data0.length:Int)) (kK (0≤Al6 .i64 (j9-1)) (kK (Al6 .i64 (j9-1)<(data0.length:Int)) (.call (D.fn 156 [.ref 4,.ref 26] [cmp3_c0,cmp3_c1]).fnId (D.fn 156 [.ref 4,.ref 26] [cmp3_c0,cmp3_c1]).fnCts ([D.int ((data0.getD (Ama j9) D.nil).toInt),D.int ((data0.getD (Ama (Al6 .i64 (j9-1))) D.nil).toInt)]++(D.fn 156 [.ref 4,.ref 26] [cmp3_c0,cmp3_c1]).fnDs) fun Y1 =>
 bK (((qA Y1).toInt)<0) (kK (0≤Al6 .i64 (j9-1)) (kK (Al6 .i64 (j9-1)<(data0.length:Int)) (kK (0≤j9) (kK (j9<(data0.length:Int)) (kK (0≤j9) (kK (j9<(data0.length:Int)) (kK (0≤Al6 .i64 (j9-1)) (kK (Al6 .i64 (j9-1)<((data0.set (Ama j9) (D.int ((data0.getD (Ama (Al6 .i64 (j9-1))) D.nil).toInt))).length:Int)) (AA n m1 m4 ((data0.set (Ama j9) (D.int ((data0.getD (Ama (Al6 .i64 (j9-1))) D.nil).toInt))).set (Ama (Al6 .i64 (j9-1))) (D.int ((data0.getD (Ama j9) D.nil).toInt))) a1 b2 (D.fn 156 [.ref 4,.ref 26] [cmp3_c0,cmp3_c1]) i8 (Al6 .i64 (j9-1)))))))))))
 (O7 n m1 data0 a1 b2 (D.fn 156 [.ref 4,.ref 26] [cmp3_c0,cmp3_c1]) (Al6 .i64 (i8+1))))))))
 (O7 n m1 data0 a1 b2 (D.fn 156 [.ref 4,.ref 26] [cmp3_c0,cmp3_c1]) (Al6 .i64 (i8+1))):=by kernel_rfl
theorem ZV(n m1:Nat)(data0:List D)(a1 b2:Int)(cmp3_c0 cmp3_c1:D)(i8:Int):O7 n (m1+1) data0 a1 b2 (D.fn 156 [.ref 4,.ref 26] [cmp3_c0,cmp3_c1]) i8 =
 bK (i8<b2) (AA n m1 n data0 a1 b2 (D.fn 156 [.ref 4,.ref 26] [cmp3_c0,cmp3_c1]) i8 i8)
 (.ret [D.sl data0]):=by kernel_rfl
theorem Akt(n:Nat)(data0 a1:D)(b2 cmp3_c0 cmp3_c1:D):fA Ke n 250 [] [data0,a1,b2,(D.fn 156 [.ref 4,.ref 26] [cmp3_c0,cmp3_c1])] =
 O7 n n data0.els a1.toInt b2.toInt (D.fn 156 [.ref 4,.ref 26] [cmp3_c0,cmp3_c1]) (Al6 .i64 (a1.toInt+1)):=by kernel_rfl
def Eg:List (Nat×Orc):=[(3,⟨[(0,none),(1,none),(4,some 107),(10,none),(11,none)],[],[(.slot 0,0,3)]⟩),(9,⟨[(0,none),(10,none),(13,none)],[],[(.slot 0,0,3)]⟩),(15,⟨[(0,none),(2,none),(4,some 107),(14,none),(15,none)],[],[(.slot 0,0,3)]⟩),(21,⟨[(0,none),(14,none),(17,none)],[],[(.slot 0,0,3)]⟩),(33,⟨[(0,none),(1,none),(2,none),(3,none),(4,some 107),(18,none),(19,none),(20,none),(21,none),(22,none)],[],[(.slot 0,0,3)]⟩)]
def R9:List Nat:=[23,3,3,3,107]
noncomputable def AH(n m9:Nat)(data0:List D)(i10 k13:Int):Tree :=
 lA (eA Eg n 251 [0,1,0,1,1,1,0,1,0,0]) (Ak Eg 9) m9 ⟨(.row 0::uA 9++(.i .i64 i10:: .undef:: .undef:: .i .i64 k13::uA 206)),[(0,.row 3 data0 true)],[0],[],[0]⟩
  (Ai 2 (Am (jA Eg n 251 [0,1,0,1,1,1,1]) (Am (jA Eg n 251 [1]) (rA 251 R9 [] []))))
noncomputable def R8(n m3:Nat)(data0:List D)(a1:Int)(cmp4:D)(i10 j11:Int):Tree :=
 lA (eA Eg n 251 [0,1,0,1,1,0,0,0]) (Ak Eg 3) m3 ⟨(.row 0:: .i .i64 a1:: .undef:: .undef:: .d 107 cmp4::uA 5++(.i .i64 i10:: .i .i64 j11::uA 208)),[(0,.row 3 data0 true)],[0],[],[0]⟩
  (Ai 0 (Am (jA Eg n 251 [0,1,0,1,1,1]) (Am (jA Eg n 251 [1]) (rA 251 R9 [] []))))
noncomputable def AG(n m21:Nat)(data0:List D)(i14 k17:Int):Tree :=
 lA (eA Eg n 251 [1,0,1,0,1,1,1,0,1,0,0]) (Ak Eg 21) m21 ⟨(.row 0::uA 13++(.i .i64 i14:: .undef:: .undef:: .i .i64 k17::uA 202)),[(0,.row 3 data0 true)],[0],[],[0]⟩
  (Ai 6 (Am (jA Eg n 251 [1,0,1,0,1,1,1,1]) (Am (jA Eg n 251 [1,1]) (rA 251 R9 [] []))))
noncomputable def R7(n m15:Nat)(data0:List D)(mm2:Int)(cmp4:D)(i14 j15:Int):Tree :=
 lA (eA Eg n 251 [1,0,1,0,1,1,0,0,0]) (Ak Eg 15) m15 ⟨(.row 0:: .undef:: .i .i64 mm2:: .undef:: .d 107 cmp4::uA 9++(.i .i64 i14:: .i .i64 j15::uA 204)),[(0,.row 3 data0 true)],[0],[],[0]⟩
  (Ai 4 (Am (jA Eg n 251 [1,0,1,0,1,1,1]) (Am (jA Eg n 251 [1,1]) (rA 251 R9 [] []))))
noncomputable def O9(n m33:Nat)(data0:List D)(a1 mm2 b3:Int)(cmp4:D)(mid18 nn19:Int)(start20 r21 p22:Int):Tree :=
 lA (eA Eg n 251 [1,1,1,1,1,1,1,0,0,0]) (Ak Eg 33) m33 ⟨(.row 0:: .i .i64 a1:: .i .i64 mm2:: .i .i64 b3:: .d 107 cmp4::uA 13++(.i .i64 mid18:: .i .i64 nn19:: .i .i64 start20:: .i .i64 r21:: .i .i64 p22::uA 197)),[(0,.row 3 data0 true)],[0],[],[0]⟩
  (Ai 8 (Am (jA Eg n 251 [1,1,1,1,1,1,1,1]) (rA 251 R9 [] [])))
theorem ZZ(n m9:Nat)(data0:List D)(i10 k13:Int):AH n (m9+1) data0 i10 k13 =
 bK (k13<(Al6 .i64 (i10-1))) (kK (0≤Al6 .i64 (k13+1)) (kK (Al6 .i64 (k13+1)<(data0.length:Int)) (kK (0≤k13) (kK (k13<(data0.length:Int)) (kK (0≤k13) (kK (k13<(data0.length:Int)) (kK (0≤Al6 .i64 (k13+1)) (kK (Al6 .i64 (k13+1)<((data0.set (Ama k13) (D.int ((data0.getD (Ama (Al6 .i64 (k13+1))) D.nil).toInt))).length:Int)) (AH n m9 ((data0.set (Ama k13) (D.int ((data0.getD (Ama (Al6 .i64 (k13+1))) D.nil).toInt))).set (Ama (Al6 .i64 (k13+1))) (D.int ((data0.getD (Ama k13) D.nil).toInt))) i10 (Al6 .i64 (k13+1)))))))))))
 (.ret [D.sl data0]):=by kernel_rfl
theorem Ak3(n m3:Nat)(data0:List D)(a1:Int)(cmp4_c0 cmp4_c1:D)(i10 j11:Int):R8 n (m3+1) data0 a1 (D.fn 156 [.ref 4,.ref 26] [cmp4_c0,cmp4_c1]) i10 j11 =
 bK (i10<j11) (kK (0≤1) (kK (0≤Al6 .i64 (Am3 (Al6 .u64 (Al6 .i64 (i10+j11))) (2 ^ (min (Ama 1) (Aml .u64))))) (kK (Al6 .i64 (Am3 (Al6 .u64 (Al6 .i64 (i10+j11))) (2 ^ (min (Ama 1) (Aml .u64))))<(data0.length:Int)) (kK (0≤a1) (kK (a1<(data0.length:Int)) (.call (D.fn 156 [.ref 4,.ref 26] [cmp4_c0,cmp4_c1]).fnId (D.fn 156 [.ref 4,.ref 26] [cmp4_c0,cmp4_c1]).fnCts ([D.int ((data0.getD (Ama (Al6 .i64 (Am3 (Al6 .u64 (Al6 .i64 (i10+j11))) (2 ^ (min (Ama 1) (Aml .u64)))))) D.nil).toInt),D.int ((data0.getD (Ama a1) D.nil).toInt)]++(D.fn 156 [.ref 4,.ref 26] [cmp4_c0,cmp4_c1]).fnDs) fun Y1 =>
 bK (((qA Y1).toInt)<0) (R8 n m3 data0 a1 (D.fn 156 [.ref 4,.ref 26] [cmp4_c0,cmp4_c1]) (Al6 .i64 ((Al6 .i64 (Am3 (Al6 .u64 (Al6 .i64 (i10+j11))) (2 ^ (min (Ama 1) (Aml .u64)))))+1)) j11)
 (R8 n m3 data0 a1 (D.fn 156 [.ref 4,.ref 26] [cmp4_c0,cmp4_c1]) i10 (Al6 .i64 (Am3 (Al6 .u64 (Al6 .i64 (i10+j11))) (2 ^ (min (Ama 1) (Aml .u64))))))))))))
 (AH n n data0 i10 a1):=by kernel_rfl
theorem ZY(n m21:Nat)(data0:List D)(i14 k17:Int):AG n (m21+1) data0 i14 k17 =
 bK (i14<k17) (kK (0≤Al6 .i64 (k17-1)) (kK (Al6 .i64 (k17-1)<(data0.length:Int)) (kK (0≤k17) (kK (k17<(data0.length:Int)) (kK (0≤k17) (kK (k17<(data0.length:Int)) (kK (0≤Al6 .i64 (k17-1)) (kK (Al6 .i64 (k17-1)<((data0.set (Ama k17) (D.int ((data0.getD (Ama (Al6 .i64 (k17-1))) D.nil).toInt))).length:Int)) (AG n m21 ((data0.set (Ama k17) (D.int ((data0.getD (Ama (Al6 .i64 (k17-1))) D.nil).toInt))).set (Ama (Al6 .i64 (k17-1))) (D.int ((data0.getD (Ama k17) D.nil).toInt))) i14 (Al6 .i64 (k17-1)))))))))))
 (.ret [D.sl data0]):=by kernel_rfl
theorem Ak1(n m15:Nat)(data0:List D)(mm2:Int)(cmp4_c0 cmp4_c1:D)(i14 j15:Int):R7 n (m15+1) data0 mm2 (D.fn 156 [.ref 4,.ref 26] [cmp4_c0,cmp4_c1]) i14 j15 =
 bK (i14<j15) (kK (0≤1) (kK (0≤mm2) (kK (mm2<(data0.length:Int)) (kK (0≤Al6 .i64 (Am3 (Al6 .u64 (Al6 .i64 (i14+j15))) (2 ^ (min (Ama 1) (Aml .u64))))) (kK (Al6 .i64 (Am3 (Al6 .u64 (Al6 .i64 (i14+j15))) (2 ^ (min (Ama 1) (Aml .u64))))<(data0.length:Int)) (.call (D.fn 156 [.ref 4,.ref 26] [cmp4_c0,cmp4_c1]).fnId (D.fn 156 [.ref 4,.ref 26] [cmp4_c0,cmp4_c1]).fnCts ([D.int ((data0.getD (Ama mm2) D.nil).toInt),D.int ((data0.getD (Ama (Al6 .i64 (Am3 (Al6 .u64 (Al6 .i64 (i14+j15))) (2 ^ (min (Ama 1) (Aml .u64)))))) D.nil).toInt)]++(D.fn 156 [.ref 4,.ref 26] [cmp4_c0,cmp4_c1]).fnDs) fun Y2 =>
 .br (!(decide (((qA Y2).toInt)<0))) (R7 n m15 data0 mm2 (D.fn 156 [.ref 4,.ref 26] [cmp4_c0,cmp4_c1]) (Al6 .i64 ((Al6 .i64 (Am3 (Al6 .u64 (Al6 .i64 (i14+j15))) (2 ^ (min (Ama 1) (Aml .u64)))))+1)) j15)
 (R7 n m15 data0 mm2 (D.fn 156 [.ref 4,.ref 26] [cmp4_c0,cmp4_c1]) i14 (Al6 .i64 (Am3 (Al6 .u64 (Al6 .i64 (i14+j15))) (2 ^ (min (Ama 1) (Aml .u64))))))))))))
 (AG n n data0 i14 mm2):=by kernel_rfl
theorem Ak2(n m33:Nat)(data0:List D)(a1 mm2 b3:Int)(cmp4_c0 cmp4_c1:D)(mid18 nn19:Int)(start20 r21 p22:Int):O9 n (m33+1) data0 a1 mm2 b3 (D.fn 156 [.ref 4,.ref 26] [cmp4_c0,cmp4_c1]) mid18 nn19 start20 r21 p22 =
 bK (start20<r21) (kK (0≤1) (kK (0≤Al6 .i64 (p22-(Al6 .i64 (Am3 (Al6 .u64 (Al6 .i64 (start20+r21))) (2 ^ (min (Ama 1) (Aml .u64))))))) (kK (Al6 .i64 (p22-(Al6 .i64 (Am3 (Al6 .u64 (Al6 .i64 (start20+r21))) (2 ^ (min (Ama 1) (Aml .u64))))))<(data0.length:Int)) (kK (0≤Al6 .i64 (Am3 (Al6 .u64 (Al6 .i64 (start20+r21))) (2 ^ (min (Ama 1) (Aml .u64))))) (kK (Al6 .i64 (Am3 (Al6 .u64 (Al6 .i64 (start20+r21))) (2 ^ (min (Ama 1) (Aml .u64))))<(data0.length:Int)) (.call (D.fn 156 [.ref 4,.ref 26] [cmp4_c0,cmp4_c1]).fnId (D.fn 156 [.ref 4,.ref 26] [cmp4_c0,cmp4_c1]).fnCts ([D.int ((data0.getD (Ama (Al6 .i64 (p22-(Al6 .i64 (Am3 (Al6 .u64 (Al6 .i64 (start20+r21))) (2 ^ (min (Ama 1) (Aml .u64)))))))) D.nil).toInt),D.int ((data0.getD (Ama (Al6 .i64 (Am3 (Al6 .u64 (Al6 .i64 (start20+r21))) (2 ^ (min (Ama 1) (Aml .u64)))))) D.nil).toInt)]++(D.fn 156 [.ref 4,.ref 26] [cmp4_c0,cmp4_c1]).fnDs) fun Y3 =>
 .br (!(decide (((qA Y3).toInt)<0))) (O9 n m33 data0 a1 mm2 b3 (D.fn 156 [.ref 4,.ref 26] [cmp4_c0,cmp4_c1]) mid18 nn19 (Al6 .i64 ((Al6 .i64 (Am3 (Al6 .u64 (Al6 .i64 (start20+r21))) (2 ^ (min (Ama 1) (Aml .u64)))))+1)) r21 p22)
 (O9 n m33 data0 a1 mm2 b3 (D.fn 156 [.ref 4,.ref 26] [cmp4_c0,cmp4_c1]) mid18 nn19 start20 (Al6 .i64 (Am3 (Al6 .u64 (Al6 .i64 (start20+r21))) (2 ^ (min (Ama 1) (Aml .u64))))) p22)))))))
 (bK (start20<mm2) (bK (mm2<(Al6 .i64 (nn19-start20))) (cK 300 [D.sl data0,D.int start20,D.int mm2,D.int (Al6 .i64 (nn19-start20)),(D.fn 156 [.ref 4,.ref 26] [cmp4_c0,cmp4_c1])] fun Y4 =>
 bK (a1<start20) (bK (start20<mid18) (cK 251 [D.sl ((qA Y4).els),D.int a1,D.int start20,D.int mid18,(D.fn 156 [.ref 4,.ref 26] [cmp4_c0,cmp4_c1])] fun Y5 =>
 bK (mid18<(Al6 .i64 (nn19-start20))) (bK ((Al6 .i64 (nn19-start20))<b3) (cK 251 [D.sl ((qA Y5).els),D.int mid18,D.int (Al6 .i64 (nn19-start20)),D.int b3,(D.fn 156 [.ref 4,.ref 26] [cmp4_c0,cmp4_c1])] fun Y6 =>
 .ret [D.sl ((qA Y6).els)])
 (.ret [D.sl ((qA Y5).els)]))
 (.ret [D.sl ((qA Y5).els)]))
 (bK (mid18<(Al6 .i64 (nn19-start20))) (bK ((Al6 .i64 (nn19-start20))<b3) (cK 251 [D.sl ((qA Y4).els),D.int mid18,D.int (Al6 .i64 (nn19-start20)),D.int b3,(D.fn 156 [.ref 4,.ref 26] [cmp4_c0,cmp4_c1])] fun Y7 =>
 .ret [D.sl ((qA Y7).els)])
 (.ret [D.sl ((qA Y4).els)]))
 (.ret [D.sl ((qA Y4).els)])))
 (bK (mid18<(Al6 .i64 (nn19-start20))) (bK ((Al6 .i64 (nn19-start20))<b3) (cK 251 [D.sl ((qA Y4).els),D.int mid18,D.int (Al6 .i64 (nn19-start20)),D.int b3,(D.fn 156 [.ref 4,.ref 26] [cmp4_c0,cmp4_c1])] fun Y8 =>
 .ret [D.sl ((qA Y8).els)])
 (.ret [D.sl ((qA Y4).els)]))
 (.ret [D.sl ((qA Y4).els)])))
 (bK (a1<start20) (bK (start20<mid18) (cK 251 [D.sl data0,D.int a1,D.int start20,D.int mid18,(D.fn 156 [.ref 4,.ref 26] [cmp4_c0,cmp4_c1])] fun Y9 =>
 bK (mid18<(Al6 .i64 (nn19-start20))) (bK ((Al6 .i64 (nn19-start20))<b3) (cK 251 [D.sl ((qA Y9).els),D.int mid18,D.int (Al6 .i64 (nn19-start20)),D.int b3,(D.fn 156 [.ref 4,.ref 26] [cmp4_c0,cmp4_c1])] fun Y10 =>
 .ret [D.sl ((qA Y10).els)])
 (.ret [D.sl ((qA Y9).els)]))
 (.ret [D.sl ((qA Y9).els)]))
 (bK (mid18<(Al6 .i64 (nn19-start20))) (bK ((Al6 .i64 (nn19-start20))<b3) (cK 251 [D.sl data0,D.int mid18,D.int (Al6 .i64 (nn19-start20)),D.int b3,(D.fn 156 [.ref 4,.ref 26] [cmp4_c0,cmp4_c1])] fun Y11 =>
 .ret [D.sl ((qA Y11).els)])
 (.ret [D.sl data0]))
 (.ret [D.sl data0])))
 (bK (mid18<(Al6 .i64 (nn19-start20))) (bK ((Al6 .i64 (nn19-start20))<b3) (cK 251 [D.sl data0,D.int mid18,D.int (Al6 .i64 (nn19-start20)),D.int b3,(D.fn 156 [.ref 4,.ref 26] [cmp4_c0,cmp4_c1])] fun Y12 =>
 .ret [D.sl ((qA Y12).els)])
 (.ret [D.sl data0]))
 (.ret [D.sl data0]))))
 (bK (a1<start20) (bK (start20<mid18) (cK 251 [D.sl data0,D.int a1,D.int start20,D.int mid18,(D.fn 156 [.ref 4,.ref 26] [cmp4_c0,cmp4_c1])] fun Y13 =>
 bK (mid18<(Al6 .i64 (nn19-start20))) (bK ((Al6 .i64 (nn19-start20))<b3) (cK 251 [D.sl ((qA Y13).els),D.int mid18,D.int (Al6 .i64 (nn19-start20)),D.int b3,(D.fn 156 [.ref 4,.ref 26] [cmp4_c0,cmp4_c1])] fun Y14 =>
 .ret [D.sl ((qA Y14).els)])
 (.ret [D.sl ((qA Y13).els)]))
 (.ret [D.sl ((qA Y13).els)]))
 (bK (mid18<(Al6 .i64 (nn19-start20))) (bK ((Al6 .i64 (nn19-start20))<b3) (cK 251 [D.sl data0,D.int mid18,D.int (Al6 .i64 (nn19-start20)),D.int b3,(D.fn 156 [.ref 4,.ref 26] [cmp4_c0,cmp4_c1])] fun Y15 =>
 .ret [D.sl ((qA Y15).els)])
 (.ret [D.sl data0]))
 (.ret [D.sl data0])))
 (bK (mid18<(Al6 .i64 (nn19-start20))) (bK ((Al6 .i64 (nn19-start20))<b3) (cK 251 [D.sl data0,D.int mid18,D.int (Al6 .i64 (nn19-start20)),D.int b3,(D.fn 156 [.ref 4,.ref 26] [cmp4_c0,cmp4_c1])] fun Y16 =>
 .ret [D.sl ((qA Y16).els)])
 (.ret [D.sl data0]))
 (.ret [D.sl data0])))):=by kernel_rfl
theorem Ak4(n:Nat)(data0 a1:D)(mm2 b3:D)(cmp4_c0 cmp4_c1:D):fA Eg n 251 [] [data0,a1,mm2,b3,(D.fn 156 [.ref 4,.ref 26] [cmp4_c0,cmp4_c1])] =
 .br ((Al6 .i64 (mm2.toInt-a1.toInt))==1) (R8 n n data0.els a1.toInt (D.fn 156 [.ref 4,.ref 26] [cmp4_c0,cmp4_c1]) mm2.toInt b3.toInt)
 (.br ((Al6 .i64 (b3.toInt-mm2.toInt))==1) (R7 n n data0.els mm2.toInt (D.fn 156 [.ref 4,.ref 26] [cmp4_c0,cmp4_c1]) a1.toInt mm2.toInt)
 (kK (0≤1) (bK ((Al6 .i64 (Am3 (Al6 .u64 (Al6 .i64 (a1.toInt+b3.toInt))) (2 ^ (min (Ama 1) (Aml .u64)))))<mm2.toInt) (O9 n n data0.els a1.toInt mm2.toInt b3.toInt (D.fn 156 [.ref 4,.ref 26] [cmp4_c0,cmp4_c1]) (Al6 .i64 (Am3 (Al6 .u64 (Al6 .i64 (a1.toInt+b3.toInt))) (2 ^ (min (Ama 1) (Aml .u64))))) (Al6 .i64 ((Al6 .i64 (Am3 (Al6 .u64 (Al6 .i64 (a1.toInt+b3.toInt))) (2 ^ (min (Ama 1) (Aml .u64)))))+mm2.toInt)) (Al6 .i64 ((Al6 .i64 ((Al6 .i64 (Am3 (Al6 .u64 (Al6 .i64 (a1.toInt+b3.toInt))) (2 ^ (min (Ama 1) (Aml .u64)))))+mm2.toInt))-b3.toInt)) (Al6 .i64 (Am3 (Al6 .u64 (Al6 .i64 (a1.toInt+b3.toInt))) (2 ^ (min (Ama 1) (Aml .u64))))) (Al6 .i64 ((Al6 .i64 ((Al6 .i64 (Am3 (Al6 .u64 (Al6 .i64 (a1.toInt+b3.toInt))) (2 ^ (min (Ama 1) (Aml .u64)))))+mm2.toInt))-1)))
 (O9 n n data0.els a1.toInt mm2.toInt b3.toInt (D.fn 156 [.ref 4,.ref 26] [cmp4_c0,cmp4_c1]) (Al6 .i64 (Am3 (Al6 .u64 (Al6 .i64 (a1.toInt+b3.toInt))) (2 ^ (min (Ama 1) (Aml .u64))))) (Al6 .i64 ((Al6 .i64 (Am3 (Al6 .u64 (Al6 .i64 (a1.toInt+b3.toInt))) (2 ^ (min (Ama 1) (Aml .u64)))))+mm2.toInt)) a1.toInt mm2.toInt (Al6 .i64 ((Al6 .i64 ((Al6 .i64 (Am3 (Al6 .u64 (Al6 .i64 (a1.toInt+b3.toInt))) (2 ^ (min (Ama 1) (Aml .u64)))))+mm2.toInt))-1)))))):=by kernel_rfl
def Zz:List (Nat×Orc):=[(2,⟨[(0,some 23),(1,some 23),(9,some 23),(10,none),(11,none)],[],[]⟩)]
noncomputable def Zy(n m2:Nat)(s10 s21 t9:D)(t10 t11:Int):Tree :=
 lA (eA Zz n 256 [1,0,1,0,0]) (Ak Zz 2) m2 ⟨(.d 23 s10:: .d 23 s21::uA 7++(.d 23 t9:: .i .i64 t10:: .i .i64 t11::uA 24)),[],[],[],[]⟩
  (Ai 0 (Am (jA Zz n 256 [1,1]) (rA 256 [23,23] [.tmp 4] [3])))
theorem ZM(n m2:Nat)(s10 s21 t9:D)(t10 t11:Int):Zy n (m2+1) s10 s21 t9 t10 t11 =
 bK (t11<t10) (kK (0≤t11) (kK (t11<(t9.els.length:Int)) (bK ((s21.els.length:Int)≤t11) (.ret [D.int 1])
 (kK (0≤t11) (kK (t11<(s21.els.length:Int)) (cK 218 [D.int ((t9.els.getD (Ama t11) D.nil).toInt),D.int ((s21.els.getD (Ama t11) D.nil).toInt)] fun Y1 =>
 .br (((qA Y1).toInt)!=0) (.ret [D.int ((qA Y1).toInt)])
 (Zy n m2 s10 s21 t9 t10 (Al6 .i64 (t11+1)))))))))
 (bK ((s10.els.length:Int)<(s21.els.length:Int)) (.ret [D.int (-1)])
 (.ret [D.int 0])):=by kernel_rfl
theorem Aka(n:Nat)(s10 s21:D):fA Zz n 256 [] [s10,s21] =
 Zy n n s10 s21 s10 (s10.els.length:Int) 0:=by kernel_rfl
def Z3:List (Nat×Orc):=[(4,⟨[(1,some 24),(2,some 77),(15,some 24),(16,none),(17,none)],[],[]⟩)]
noncomputable def Z2(n m4:Nat)(s21 eq2 t15:D)(t16 t17:Int):Tree :=
 lA (eA Z3 n 272 [1,1,0,1,0,0]) (Ak Z3 4) m4 ⟨(.undef:: .d 24 s21:: .d 77 eq2::uA 12++(.d 24 t15:: .i .i64 t16:: .i .i64 t17::uA 14)),[],[],[],[]⟩
  (Ai 0 (Am (jA Z3 n 272 [1,1,1]) (rA 272 [24,24,77] [.tmp 6] [4])))
theorem ZO(n m4:Nat)(s21 eq2_c0 t15:D)(t16 t17:Int):Z2 n (m4+1) s21 (D.fn 273 [.ref 4] [eq2_c0]) t15 t16 t17 =
 bK (t17<t16) (kK (0≤t17) (kK (t17<(t15.els.length:Int)) (kK (0≤t17) (kK (t17<(s21.els.length:Int)) (.call (D.fn 273 [.ref 4] [eq2_c0]).fnId (D.fn 273 [.ref 4] [eq2_c0]).fnCts ([t15.els.getD (Ama t17) D.nil,s21.els.getD (Ama t17) D.nil]++(D.fn 273 [.ref 4] [eq2_c0]).fnDs) fun Y1 =>
 .br (!((qA Y1).toBool)) (.ret [D.bool false])
 (Z2 n m4 s21 (D.fn 273 [.ref 4] [eq2_c0]) t15 t16 (Al6 .i64 (t17+1))))))))
 (.ret [D.bool true]):=by kernel_rfl
theorem Akh(n:Nat)(s10 s21 eq2_c0:D):fA Z3 n 272 [] [s10,s21,(D.fn 273 [.ref 4] [eq2_c0])] =
 .br ((s10.els.length:Int)!=(s21.els.length:Int)) (.ret [D.bool false])
 (Z2 n n s21 (D.fn 273 [.ref 4] [eq2_c0]) s10 (s10.els.length:Int) 0):=by kernel_rfl
def Z1:List (Nat×Orc):=[(4,⟨[(1,some 65),(2,some 44),(15,some 65),(16,none),(17,none)],[],[]⟩)]
noncomputable def Z0(n m4:Nat)(s21 eq2 t15:D)(t16 t17:Int):Tree :=
 lA (eA Z1 n 275 [1,1,0,1,0,0]) (Ak Z1 4) m4 ⟨(.undef:: .d 65 s21:: .d 44 eq2::uA 12++(.d 65 t15:: .i .i64 t16:: .i .i64 t17::uA 14)),[],[],[],[]⟩
  (Ai 0 (Am (jA Z1 n 275 [1,1,1]) (rA 275 [65,65,44] [.tmp 6] [4])))
theorem ZN(n m4:Nat)(s21 eq2_c0 t15:D)(t16 t17:Int):Z0 n (m4+1) s21 (D.fn 276 [.ref 4] [eq2_c0]) t15 t16 t17 =
 bK (t17<t16) (kK (0≤t17) (kK (t17<(t15.els.length:Int)) (kK (0≤t17) (kK (t17<(s21.els.length:Int)) (.call (D.fn 276 [.ref 4] [eq2_c0]).fnId (D.fn 276 [.ref 4] [eq2_c0]).fnCts ([t15.els.getD (Ama t17) D.nil,s21.els.getD (Ama t17) D.nil]++(D.fn 276 [.ref 4] [eq2_c0]).fnDs) fun Y1 =>
 .br (!((qA Y1).toBool)) (.ret [D.bool false])
 (Z0 n m4 s21 (D.fn 276 [.ref 4] [eq2_c0]) t15 t16 (Al6 .i64 (t17+1))))))))
 (.ret [D.bool true]):=by kernel_rfl
theorem Akg(n:Nat)(s10 s21 eq2_c0:D):fA Z1 n 275 [] [s10,s21,(D.fn 276 [.ref 4] [eq2_c0])] =
 .br ((s10.els.length:Int)!=(s21.els.length:Int)) (.ret [D.bool false])
 (Z0 n n s21 (D.fn 276 [.ref 4] [eq2_c0]) s10 (s10.els.length:Int) 0):=by kernel_rfl
def AB:List (Nat×Orc):=[(2,⟨[(0,none),(2,none),(4,some 107),(10,none),(11,none)],[],[(.slot 0,0,3)]⟩)]
noncomputable def R6(n m2:Nat)(data0:List D)(mm2:Int)(cmp4:D)(i10 j11:Int):Tree :=
 lA (eA AB n 300 [1,1,0,0,0]) (Ak AB 2) m2 ⟨(.row 0:: .undef:: .i .i64 mm2:: .undef:: .d 107 cmp4::uA 5++(.i .i64 i10:: .i .i64 j11::uA 46)),[(0,.row 3 data0 true)],[0],[],[0]⟩
  (Ai 0 (Am (jA AB n 300 [1,1,1]) (rA 300 [23,3,3,3,107] [] [])))
theorem Aku(n m2:Nat)(data0:List D)(mm2:Int)(cmp4_c0 cmp4_c1:D)(i10 j11:Int):R6 n (m2+1) data0 mm2 (D.fn 156 [.ref 4,.ref 26] [cmp4_c0,cmp4_c1]) i10 j11 =
 .br (i10 != j11) (bK (j11<i10) (cK 322 [D.sl data0,D.int (Al6 .i64 (mm2-i10)),D.int mm2,D.int j11,(D.fn 156 [.ref 4,.ref 26] [cmp4_c0,cmp4_c1])] fun Y1 =>
 R6 n m2 ((qA Y1).els) mm2 (D.fn 156 [.ref 4,.ref 26] [cmp4_c0,cmp4_c1]) (Al6 .i64 (i10-j11)) j11)
 (cK 322 [D.sl data0,D.int (Al6 .i64 (mm2-i10)),D.int (Al6 .i64 ((Al6 .i64 (mm2+j11))-i10)),D.int i10,(D.fn 156 [.ref 4,.ref 26] [cmp4_c0,cmp4_c1])] fun Y2 =>
 R6 n m2 ((qA Y2).els) mm2 (D.fn 156 [.ref 4,.ref 26] [cmp4_c0,cmp4_c1]) i10 (Al6 .i64 (j11-i10))))
 (cK 322 [D.sl data0,D.int (Al6 .i64 (mm2-i10)),D.int mm2,D.int i10,(D.fn 156 [.ref 4,.ref 26] [cmp4_c0,cmp4_c1])] fun Y3 =>
 .ret [D.sl ((qA Y3).els)]):=by kernel_rfl
theorem Akv(n:Nat)(data0 a1:D)(mm2 b3:D)(cmp4_c0 cmp4_c1:D):fA AB n 300 [] [data0,a1,mm2,b3,(D.fn 156 [.ref 4,.ref 26] [cmp4_c0,cmp4_c1])] =
 R6 n n data0.els mm2.toInt (D.fn 156 [.ref 4,.ref 26] [cmp4_c0,cmp4_c1]) (Al6 .i64 (mm2.toInt-a1.toInt)) (Al6 .i64 (b3.toInt-mm2.toInt)):=by kernel_rfl
def Z7:List (Nat×Orc):=[(4,⟨[(0,some 62),(1,some 62),(12,none),(13,none)],[],[]⟩)]
noncomputable def Z6(n m4:Nat)(s10 s21:D)(t12 t13:Int):Tree :=
 lA (eA Z7 n 312 [1,1,0,1,0,0]) (Ak Z7 4) m4 ⟨(.d 62 s10:: .d 62 s21::uA 10++(.i .i64 t12:: .i .i64 t13::uA 12)),[],[],[],[]⟩
  (Ai 0 (Am (jA Z7 n 312 [1,1,1]) (rA 312 [62,62] [.tmp 4] [4])))
theorem Akk(n m4:Nat)(s10 s21:D)(t12 t13:Int):Z6 n (m4+1) s10 s21 t12 t13 =
 bK (t13<t12) (kK (0≤t13) (kK (t13<(s10.els.length:Int)) (kK (0≤t13) (kK (t13<(s21.els.length:Int)) (.br (((s10.els.getD (Ama t13) D.nil).toInt)!=((s21.els.getD (Ama t13) D.nil).toInt)) (.ret [D.bool false])
 (Z6 n m4 s10 s21 t12 (Al6 .i64 (t13+1))))))))
 (.ret [D.bool true]):=by kernel_rfl
theorem Akl(n:Nat)(s10 s21:D):fA Z7 n 312 [] [s10,s21] =
 .br ((s10.els.length:Int)!=(s21.els.length:Int)) (.ret [D.bool false])
 (Z6 n n s10 s21 (s10.els.length:Int) 0):=by kernel_rfl
def JP:List (Nat×Orc):=[(1,⟨[(0,none),(1,none),(2,none),(3,none),(10,none)],[],[(.slot 0,0,3)]⟩)]
noncomputable def AF(n m1:Nat)(data0:List D)(a1 b2:Int)(nn3 i10:Int):Tree :=
 lA (eA JP n 322 [1,0,0]) (Ak JP 1) m1 ⟨(.row 0:: .i .i64 a1:: .i .i64 b2:: .i .i64 nn3::uA 6++(.i .i64 i10::uA 27)),[(0,.row 3 data0 true)],[0],[],[0]⟩
  (Ai 0 (rA 322 [23,3,3,3,107] [] []))
theorem ZX(n m1:Nat)(data0:List D)(a1 b2:Int)(nn3 i10:Int):AF n (m1+1) data0 a1 b2 nn3 i10 =
 bK (i10<nn3) (kK (0≤Al6 .i64 (b2+i10)) (kK (Al6 .i64 (b2+i10)<(data0.length:Int)) (kK (0≤Al6 .i64 (a1+i10)) (kK (Al6 .i64 (a1+i10)<(data0.length:Int)) (kK (0≤Al6 .i64 (a1+i10)) (kK (Al6 .i64 (a1+i10)<(data0.length:Int)) (kK (0≤Al6 .i64 (b2+i10)) (kK (Al6 .i64 (b2+i10)<((data0.set (Ama (Al6 .i64 (a1+i10))) (D.int ((data0.getD (Ama (Al6 .i64 (b2+i10))) D.nil).toInt))).length:Int)) (AF n m1 ((data0.set (Ama (Al6 .i64 (a1+i10))) (D.int ((data0.getD (Ama (Al6 .i64 (b2+i10))) D.nil).toInt))).set (Ama (Al6 .i64 (b2+i10))) (D.int ((data0.getD (Ama (Al6 .i64 (a1+i10))) D.nil).toInt))) a1 b2 nn3 (Al6 .i64 (i10+1)))))))))))
 (.ret [D.sl data0]):=by kernel_rfl
theorem Ak0(n:Nat)(data0 a1:D)(b2 nn3:D)(cmp4_c0 cmp4_c1:D):fA JP n 322 [] [data0,a1,b2,nn3,(D.fn 156 [.ref 4,.ref 26] [cmp4_c0,cmp4_c1])] =
 AF n n data0.els a1.toInt b2.toInt nn3.toInt 0:=by kernel_rfl
def Yf:List (Nat×Orc):=[(6,⟨[(4,none),(5,none),(6,none)],[(4,true)],[]⟩)]
noncomputable def Rr(n m6:Nat)(nn5 i6:Int)(x4:D):Tree :=
 lA (eA Yf n 163 [1,1,1,1,0,1,0,0]) (Ak Yf 6) m6 ⟨(uA 4++(.ptr 4 []:: .i .i64 nn5:: .i .i64 i6::uA 47)),[(4,.var 139 (.d 139 x4) true)],[4],[],[]⟩
  (Ai 0 (Am (jA Yf n 163 [1,1,1,1,1]) (rA 163 [139] [.tmp 2,.tmp 3] [3,4])))
theorem WD(n m6:Nat)(nn5 i6:Int)(x4:D):Rr n (m6+1) nn5 i6 x4 =
 bK (0≤i6) (.br ((x4.fld 0).toBool) (kK (0≤i6) (kK (i6<(((x4.fld 1).els).length:Int)) (Rr n m6 (Al6 .i64 ((Al6 .i64 (nn5*4294967296))-(Al6 .i64 ((((x4.fld 1).els).getD (Ama i6) D.nil).toInt)))) (Al6 .i64 (i6-1)) x4)))
 (kK (0≤i6) (kK (i6<(((x4.fld 1).els).length:Int)) (Rr n m6 (Al6 .i64 ((Al6 .i64 (nn5*4294967296))+(Al6 .i64 ((((x4.fld 1).els).getD (Ama i6) D.nil).toInt)))) (Al6 .i64 (i6-1)) x4))))
 (.ret [D.int nn5,D.bool true]):=by kernel_rfl
theorem Aii(n:Nat)(a0:D):fA Yf n 163 [] [a0] =
 cK 223 [a0] fun Y1 =>
 bK (2<((((qA Y1).fld 1).els).length:Int)) (.ret [D.int 0,D.bool false])
 (cK 225 [D.int 9223372036854775807] fun Y2 =>
 cK 224 [qA Y1,qA Y2] fun Y3 =>
 bK (0<((qA Y3).toInt)) (.ret [D.int 0,D.bool false])
 (cK 225 [D.int (-9223372036854775808)] fun Y4 =>
 cK 224 [qA Y1,qA Y4] fun Y5 =>
 bK (((qA Y5).toInt)<0) (.ret [D.int 0,D.bool false])
 (Rr n n 0 (Al6 .i64 (((((qA Y1).fld 1).els).length:Int)-1)) (qA Y1)))):=by kernel_rfl
theorem Aid(n:Nat)(a0:D):fA [] n 223 [] [a0] =
 cK 265 [a0.fld 1] fun Y1 =>
 .br ((((qA Y1).els).length:Int)==0) (.ret [D.agg [D.bool false,D.sl []]])
 (.ret [D.agg [D.bool ((a0.fld 0).toBool),qA Y1]]):=by kernel_rfl
theorem Aia(n:Nat)(a0 b1:D):fA [] n 224 [] [a0,b1] =
 cK 267 [a0,b1] fun Y1 =>
 cK 266 [qA Y1] fun Y2 =>
 .ret [D.int ((qA Y2).toInt)]:=by kernel_rfl
theorem Aie(n:Nat)(nn0:D):fA [] n 225 [] [nn0] =
 bK (0≤nn0.toInt) (.br (!(4294967296 == (0:Int))) (.br (!(4294967296 == (0:Int))) (cK 223 [D.agg [D.bool false,D.sl [D.int (Al6 .u32 (Int.tmod nn0.toInt 4294967296)),D.int (Al6 .u32 (Al6 .i64 (Int.tdiv nn0.toInt 4294967296)))]]] fun Y1 =>
 .ret [qA Y1]) .fail) .fail)
 (.br (!(4294967296 == (0:Int))) (.br (!(4294967296 == (0:Int))) (cK 268 [D.sl [D.int (Al6 .u32 (Int.tmod (Al6 .i64 ((-1)-nn0.toInt)) 4294967296)),D.int (Al6 .u32 (Al6 .i64 (Int.tdiv (Al6 .i64 ((-1)-nn0.toInt)) 4294967296)))],D.sl [D.int 1]] fun Y2 =>
 cK 223 [D.agg [D.bool true,qA Y2]] fun Y3 =>
 .ret [qA Y3]) .fail) .fail):=by kernel_rfl
def BE:List (Nat×Orc):=[(6,⟨[(1,none),(4,none),(14,some 62),(15,none),(16,none)],[(1,true)],[]⟩)]
noncomputable def Pf(n m6:Nat)(size4:Int)(t14:D)(t15 t16:Int)(a1:D):Tree :=
 lA (eA BE n 228 [1,1,1,1,0,1,0,0]) (Ak BE 6) m6 ⟨(.undef:: .ptr 1 []:: .undef:: .undef:: .i .u64 size4::uA 9++(.d 62 t14:: .i .i64 t15:: .i .i64 t16::uA 24)),[(1,.var 187 (.d 187 a1) true)],[1],[],[]⟩
  (Ai 0 (Am (jA BE n 228 [1,1,1,1,1]) (rA 228 [187] [.tmp 2,.tmp 3] [3,4])))
theorem AaE(n m6:Nat)(size4:Int)(t14:D)(t15 t16:Int)(a1:D):Pf n (m6+1) size4 t14 t15 t16 a1 =
 bK (t16<t15) (kK (0≤t16) (kK (t16<(t14.els.length:Int)) (kK (0≤Al6 .u64 (Al6 .i64 (32*t16))) (Pf n m6 (Bm .or .u64 size4 (Al6 .u64 ((Al6 .u64 ((t14.els.getD (Ama t16) D.nil).toInt))*2 ^ (min (Ama (Al6 .u64 (Al6 .i64 (32*t16)))) (Aml .u64))))) t14 t15 (Al6 .i64 (t16+1)) a1))))
 (.br ((a1.fld 0).toBool) (bK (9223372036854775808<size4) (.ret [D.int 0,D.bool false])
 (.ret [D.int (Al6 .i64 (Al6 .u64 (0-size4))),D.bool true]))
 (bK (9223372036854775807<size4) (.ret [D.int 0,D.bool false])
 (.ret [D.int (Al6 .i64 size4),D.bool true]))):=by kernel_rfl
theorem AlI(n:Nat)(a0:D):fA BE n 228 [] [a0] =
 cK 269 [a0] fun Y1 =>
 bK (2<((((qA Y1).fld 1).els).length:Int)) (.ret [D.int 0,D.bool false])
 (Pf n n 0 ((qA Y1).fld 1) ((((qA Y1).fld 1).els).length:Int) 0 (qA Y1)):=by kernel_rfl
theorem AlE(n:Nat)(nn0:D):fA [] n 246 [] [nn0] =
 bK (nn0.toInt<0) (kK (0≤32) (cK 299 [D.sl [D.int (Al6 .u32 (Al6 .u64 (0-(Al6 .u64 nn0.toInt)))),D.int (Al6 .u32 (Am3 (Al6 .u64 (0-(Al6 .u64 nn0.toInt))) (2 ^ (min (Ama 32) (Aml .u64)))))]] fun Y1 =>
 cK 298 [D.bool (decide (nn0.toInt<0)),D.sl ((qA Y1).els)] fun Y2 =>
 .ret [qA Y2]))
 (kK (0≤32) (cK 299 [D.sl [D.int (Al6 .u32 (Al6 .u64 nn0.toInt)),D.int (Al6 .u32 (Am3 (Al6 .u64 nn0.toInt) (2 ^ (min (Ama 32) (Aml .u64)))))]] fun Y3 =>
 cK 298 [D.bool (decide (nn0.toInt<0)),D.sl ((qA Y3).els)] fun Y4 =>
 .ret [qA Y4])):=by kernel_rfl
theorem Al_(n:Nat)(a0 b1:D):fA [] n 253 [] [a0,b1] =
 cK 301 [a0] fun Y1 =>
 cK 301 [b1] fun Y2 =>
 bK (((qA Y1).toInt)<((qA Y2).toInt)) (.ret [D.int (-1)])
 (bK (((qA Y2).toInt)<((qA Y1).toInt)) (.ret [D.int 1])
 (bK (((qA Y1).toInt)<0) (cK 302 [b1.fld 1,a0.fld 1] fun Y3 =>
 .ret [D.int ((qA Y3).toInt)])
 (cK 302 [a0.fld 1,b1.fld 1] fun Y4 =>
 .ret [D.int ((qA Y4).toInt)]))):=by kernel_rfl
theorem AlC(n:Nat)(a0 b1:D):fA [] n 254 [] [a0,b1] =
 cK 303 [a0.fld 1,b1.fld 1] fun Y1 =>
 cK 298 [D.bool (!(((a0.fld 0).toBool)==((b1.fld 0).toBool))),qA Y1] fun Y2 =>
 .ret [qA Y2]:=by kernel_rfl
theorem Aig(n:Nat)(a0:D):fA [] n 266 [] [a0] =
 cK 223 [a0] fun Y1 =>
 .br (((((qA Y1).fld 1).els).length:Int)==0) (.ret [D.int 0])
 (.br (((qA Y1).fld 0).toBool) (.ret [D.int (-1)])
 (.ret [D.int 1])):=by kernel_rfl
theorem Aik(n:Nat)(a0 b1:D):fA [] n 267 [] [a0,b1] =
 cK 309 [b1] fun Y1 =>
 cK 308 [a0,qA Y1] fun Y2 =>
 .ret [qA Y2]:=by kernel_rfl
theorem AlD(n:Nat)(a0:D):fA [] n 269 [] [a0] =
 cK 299 [a0.fld 1] fun Y1 =>
 cK 298 [D.bool ((a0.fld 0).toBool),D.sl ((qA Y1).els)] fun Y2 =>
 .ret [qA Y2]:=by kernel_rfl
theorem AlL(n:Nat)(neg0 mag1:D):fA [] n 298 [] [neg0,mag1] =
 .br ((mag1.els.length:Int)==0) (.ret [D.agg [D.bool false,D.sl []]])
 (.ret [D.agg [D.bool neg0.toBool,mag1]]):=by kernel_rfl
theorem AlG(n:Nat)(a0:D):fA [] n 301 [] [a0] =
 cK 302 [a0.fld 1,D.sl []] fun Y1 =>
 .br (((qA Y1).toInt)==0) (.ret [D.int 0])
 (.br ((a0.fld 0).toBool) (.ret [D.int (-1)])
 (.ret [D.int 1])):=by kernel_rfl
theorem AlB(n:Nat)(a0 b1:D):fA [] n 306 [] [a0,b1] =
 cK 323 [a0.fld 1,b1.fld 1] fun Y1 =>
 .br (!((qC Y1).toBool)) (.ret [D.agg [D.bool false,D.sl []],D.agg [D.bool false,D.sl []],D.bool false])
 (cK 298 [D.bool (!(((a0.fld 0).toBool)==((b1.fld 0).toBool))),qA Y1] fun Y2 =>
 cK 298 [D.bool ((a0.fld 0).toBool),qB Y1] fun Y3 =>
 .br (!(((a0.fld 0).toBool)==((b1.fld 0).toBool))) (bK (0<(((qB Y1).els).length:Int)) (cK 246 [D.int 1] fun Y4 =>
 cK 324 [qA Y2,qA Y4] fun Y5 =>
 cK 313 [qA Y3,b1] fun Y6 =>
 .ret [qA Y5,qA Y6,D.bool true])
 (.ret [qA Y2,qA Y3,D.bool true]))
 (.ret [qA Y2,qA Y3,D.bool true])):=by kernel_rfl
theorem AhZ(n:Nat)(a0 b1:D):fA [] n 308 [] [a0,b1] =
 cK 223 [a0] fun Y1 =>
 cK 223 [b1] fun Y2 =>
 .br ((((qA Y1).fld 0).toBool)==(((qA Y2).fld 0).toBool)) (cK 268 [(qA Y1).fld 1,(qA Y2).fld 1] fun Y3 =>
 cK 223 [D.agg [D.bool (((qA Y1).fld 0).toBool),qA Y3]] fun Y4 =>
 .ret [qA Y4])
 (cK 320 [(qA Y1).fld 1,(qA Y2).fld 1] fun Y5 =>
 bK (0≤((qA Y5).toInt)) (cK 297 [(qA Y1).fld 1,(qA Y2).fld 1] fun Y6 =>
 cK 223 [D.agg [D.bool (((qA Y1).fld 0).toBool),qA Y6]] fun Y7 =>
 .ret [qA Y7])
 (cK 297 [(qA Y2).fld 1,(qA Y1).fld 1] fun Y8 =>
 cK 223 [D.agg [D.bool (((qA Y2).fld 0).toBool),qA Y8]] fun Y9 =>
 .ret [qA Y9])):=by kernel_rfl
theorem Aic(n:Nat)(a0:D):fA [] n 309 [] [a0] =
 cK 223 [D.agg [D.bool (!((a0.fld 0).toBool)),a0.fld 1]] fun Y1 =>
 .ret [qA Y1]:=by kernel_rfl
theorem Al9(n:Nat)(a0 b1:D):fA [] n 313 [] [a0,b1] =
 .br (((a0.fld 0).toBool)==((b1.fld 0).toBool)) (cK 325 [a0.fld 1,b1.fld 1] fun Y1 =>
 cK 298 [D.bool ((a0.fld 0).toBool),qA Y1] fun Y2 =>
 .ret [qA Y2])
 (cK 326 [a0.fld 1,b1.fld 1] fun Y3 =>
 .br ((qB Y3).toBool) (cK 298 [D.bool ((a0.fld 0).toBool),qA Y3] fun Y4 =>
 .ret [qA Y4])
 (cK 326 [b1.fld 1,a0.fld 1] fun Y5 =>
 cK 298 [D.bool ((b1.fld 0).toBool),qA Y5] fun Y6 =>
 .ret [qA Y6])):=by kernel_rfl
def BB:List (Nat×Orc):=[(4,⟨[(1,none),(4,none),(6,none),(7,none)],[(4,false),(6,true),(7,true)],[]⟩)]
noncomputable def M3(n m4:Nat)(nn1:Int)(t4_0:Bool)(out6 factor7:D):Tree :=
 lA (eA BB n 314 [1,1,1,0,0,0]) (Ak BB 4) m4 ⟨(.undef:: .i .i64 nn1:: .undef:: .undef:: .ptr 4 []:: .undef:: .ptr 6 []:: .ptr 7 []::uA 32),[(4,.var 187 (.agg 187 [.b t4_0,.mt]) true),(6,.var 187 (.d 187 out6) true),(7,.var 187 (.d 187 factor7) true)],[4,6,7],[],[]⟩
  (Ai 0 (Am (jA BB n 314 [1,1,1,1]) (rA 314 [187,3] [.cell 4 187,.tmp 5] [187,29])))
theorem AaD(n m4:Nat)(nn1:Int)(t4_0:Bool)(out6 factor7:D):M3 n (m4+1) nn1 t4_0 out6 factor7 =
 bK (0<nn1) (bK (32<(((factor7.fld 1).els).length:Int)) (.ret [D.agg [D.bool false,D.sl []],D.int 7])
 (.br ((Bm .and .i64 nn1 1)==1) (cK 254 [out6,factor7] fun Y3 =>
 bK (32<((((qA Y3).fld 1).els).length:Int)) (.ret [D.agg [D.bool false,D.sl []],D.int 7])
 (kK (0≤1) (bK (0<(Am3 nn1 (2 ^ (min (Ama 1) (Aml .i64))))) (cK 254 [factor7,factor7] fun Y4 =>
 M3 n m4 (Am3 nn1 (2 ^ (min (Ama 1) (Aml .i64)))) t4_0 (qA Y3) (qA Y4))
 (M3 n m4 (Am3 nn1 (2 ^ (min (Ama 1) (Aml .i64)))) t4_0 (qA Y3) factor7))))
 (bK (32<(((out6.fld 1).els).length:Int)) (.ret [D.agg [D.bool false,D.sl []],D.int 7])
 (kK (0≤1) (bK (0<(Am3 nn1 (2 ^ (min (Ama 1) (Aml .i64))))) (cK 254 [factor7,factor7] fun Y5 =>
 M3 n m4 (Am3 nn1 (2 ^ (min (Ama 1) (Aml .i64)))) t4_0 out6 (qA Y5))
 (M3 n m4 (Am3 nn1 (2 ^ (min (Ama 1) (Aml .i64)))) t4_0 out6 factor7))))))
 (.ret [out6,D.int 0]):=by kernel_rfl
theorem AlF(n:Nat)(a0 nn1:D):fA BB n 314 [] [a0,nn1] =
 bK (nn1.toInt<0) (.ret [D.agg [D.bool false,D.sl []],D.int 3])
 (cK 246 [D.int 1] fun Y1 =>
 cK 269 [a0] fun Y2 =>
 M3 n n nn1.toInt false (qA Y1) (qA Y2)):=by kernel_rfl
theorem AlK(n:Nat)(a0 b1:D):fA [] n 324 [] [a0,b1] =
 cK 313 [a0,D.agg [D.bool (!((b1.fld 0).toBool)),b1.fld 1]] fun Y1 =>
 .ret [qA Y1]:=by kernel_rfl
def Ya:List (Nat×Orc):=[(4,⟨[(0,some 62),(1,some 62),(5,none)],[],[]⟩)]
noncomputable def X_(n m4:Nat)(a0 b1:D)(i5:Int):Tree :=
 lA (eA Ya n 211 [1,1,0,1,0,0]) (Ak Ya 4) m4 ⟨(.d 62 a0:: .d 62 b1::uA 3++(.i .i64 i5::uA 20)),[],[],[],[]⟩
  (Ai 0 (Am (jA Ya n 211 [1,1,1]) (rA 211 [62,62] [.tmp 4] [4])))
theorem AhS(n m4:Nat)(a0 b1:D)(i5:Int):X_ n (m4+1) a0 b1 i5 =
 bK (i5<(a0.els.length:Int)) (kK (0≤i5) (kK (i5<(a0.els.length:Int)) (kK (0≤i5) (kK (i5<(b1.els.length:Int)) (.br (((a0.els.getD (Ama i5) D.nil).toInt)!=((b1.els.getD (Ama i5) D.nil).toInt)) (.ret [D.bool false])
 (X_ n m4 a0 b1 (Al6 .i64 (i5+1))))))))
 (.ret [D.bool true]):=by kernel_rfl
theorem AhT(n:Nat)(a0 b1:D):fA Ya n 211 [] [a0,b1] =
 .br ((a0.els.length:Int)!=(b1.els.length:Int)) (.ret [D.bool false])
 (X_ n n a0 b1 0):=by kernel_rfl
theorem AbP(n:Nat)(x0 y1:D):fA [] n 231 [] [x0,y1] =
 cK 271 [D.int x0.toInt,D.int y1.toInt] fun Y1 =>
 .ret [D.int ((qA Y1).toInt),D.int ((qB Y1).toInt)]:=by kernel_rfl
def X7:List (Nat×Orc):=[(3,⟨[(5,some 62),(6,some 62),(7,none)],[],[]⟩)]
noncomputable def Mn(n m3:Nat)(x5 y6:D)(k7:Int):Tree :=
 lA (eA X7 n 243 [1,1,0,1,0,0]) (Ak X7 3) m3 ⟨(uA 5++(.d 62 x5:: .d 62 y6:: .i .i64 k7::uA 26)),[],[],[],[]⟩
  (Ai 0 (Am (jA X7 n 243 [1,1,1]) (rA 243 [62,62] [.tmp 4] [62])))
theorem IG(n m3:Nat)(x5 y6:D)(k7:Int):Mn n (m3+1) x5 y6 k7 =
 bK (k7<100000) (bK (0<(y6.els.length:Int)) (cK 244 [x5,y6] fun Y3 =>
 Mn n m3 y6 (qB Y3) (Al6 .i64 (k7+1)))
 (.ret [x5]))
 (.ret [x5]):=by kernel_rfl
theorem AhQ(n:Nat)(a0 b1:D):fA X7 n 243 [] [a0,b1] =
 cK 265 [a0] fun Y1 =>
 cK 265 [b1] fun Y2 =>
 Mn n n (qA Y1) (qA Y2) 0:=by kernel_rfl
def X6:List (Nat×Orc):=[(5,⟨[(0,some 62),(1,some 62),(7,some 62),(8,some 62),(9,none)],[],[]⟩)]
noncomputable def Rp(n m5:Nat)(a0 b1:D)(q7 r8:D)(i9:Int):Tree :=
 lA (eA X6 n 244 [1,1,1,0,1,0,0]) (Ak X6 5) m5 ⟨(.d 62 a0:: .d 62 b1::uA 5++(.d 62 q7:: .d 62 r8:: .i .i64 i9::uA 33)),[],[],[],[]⟩
  (Ai 0 (Am (jA X6 n 244 [1,1,1,1]) (rA 244 [62,62] [.tmp 4,.tmp 5,.tmp 6] [62,62,4])))
theorem VX(n m5:Nat)(a0 b1:D)(q7 r8:D)(i9:Int):Rp n (m5+1) a0 b1 q7 r8 i9 =
 bK (0≤i9) (cK 296 [a0,D.int i9] fun Y2 =>
 cK 295 [r8,D.int ((qA Y2).toInt)] fun Y3 =>
 cK 297 [qA Y3,b1] fun Y4 =>
 .br ((qB Y4).toBool) (cK 295 [q7,D.int 1] fun Y5 =>
 Rp n m5 a0 b1 (qA Y5) (qA Y4) (Al6 .i64 (i9-1)))
 (cK 295 [q7,D.int 0] fun Y6 =>
 Rp n m5 a0 b1 (qA Y6) (qA Y3) (Al6 .i64 (i9-1))))
 (.ret [q7,r8,D.bool true]):=by kernel_rfl
theorem AhO(n:Nat)(a0 b1:D):fA X6 n 244 [] [a0,b1] =
 cK 265 [b1] fun Y1 =>
 .br ((((qA Y1).els).length:Int)==0) (.ret [D.sl [],D.sl [],D.bool false])
 (Rp n n a0 b1 (D.sl []) (D.sl []) (Al6 .i64 ((Al6 .i64 (32*(a0.els.length:Int)))-1))):=by kernel_rfl
def X9:List (Nat×Orc):=[(2,⟨[(0,some 62),(3,none)],[],[]⟩)]
noncomputable def X8(n m2:Nat)(a0:D)(nn3:Int):Tree :=
 lA (eA X9 n 265 [1,1,0,0,0]) (Ak X9 2) m2 ⟨(.d 62 a0:: .undef:: .undef:: .i .i64 nn3::uA 20),[],[],[],[]⟩
  (Ai 0 (Am (jA X9 n 265 [1,1,1]) (rA 265 [62] [.tmp 2] [62])))
theorem VY(n m2:Nat)(a0:D)(nn3:Int):X8 n (m2+1) a0 nn3 =
 bK (0<nn3) (kK (0≤Al6 .i64 (nn3-1)) (kK (Al6 .i64 (nn3-1)<(a0.els.length:Int)) (.br (((a0.els.getD (Ama (Al6 .i64 (nn3-1))) D.nil).toInt)==0) (X8 n m2 a0 (Al6 .i64 (nn3-1)))
 (kK (0≤nn3) (kK (nn3≤(a0.els.length:Int)) (kK ((a0.els.take (Ama nn3)).length≤Aj) (.ret [D.sl (a0.els.take (Ama nn3))])))))))
 (kK (0≤nn3) (kK (nn3≤(a0.els.length:Int)) (kK ((a0.els.take (Ama nn3)).length≤Aj) (.ret [D.sl (a0.els.take (Ama nn3))])))):=by kernel_rfl
theorem AhR(n:Nat)(a0:D):fA X9 n 265 [] [a0] =
 X8 n n a0 (a0.els.length:Int):=by kernel_rfl
def Xz:List (Nat×Orc):=[(4,⟨[(0,some 62),(1,some 62),(5,none),(6,none),(7,none)],[],[(.slot 5,1040,180)]⟩)]
noncomputable def Xy(n m4:Nat)(a0 b1:D)(out5:List D)(carry6 i7:Int):Tree :=
 lA (eA Xz n 268 [1,1,1,0,1,0,0]) (Ak Xz 4) m4 ⟨(.d 62 a0:: .d 62 b1::uA 3++(.row 1040:: .i .u64 carry6:: .i .i64 i7::uA 27)),[(1040,.row 180 out5 true)],[1040],[],[]⟩
  (Ai 0 (Am (jA Xz n 268 [1,1,1,1]) (rA 268 [62,62] [.tmp 4] [62])))
theorem VS(n m4:Nat)(a0 b1:D)(out5:List D)(carry6 i7:Int):Xy n (m4+1) a0 b1 out5 carry6 i7 =
 cK 310 [a0,b1] fun Y1 =>
 bK (i7≤((qA Y1).toInt)) (cK 311 [a0,D.int i7] fun Y2 =>
 cK 311 [b1,D.int i7] fun Y3 =>
 .br (!(4294967296 == (0:Int))) (kK (out5.length + [D.int (Al6 .u32 (Int.tmod (Al6 .u64 ((Al6 .u64 (((qA Y2).toInt)+((qA Y3).toInt)))+carry6)) 4294967296))].length≤Aj) (.br (!(4294967296 == (0:Int))) (Xy n m4 a0 b1 (out5++[D.int (Al6 .u32 (Int.tmod (Al6 .u64 ((Al6 .u64 (((qA Y2).toInt)+((qA Y3).toInt)))+carry6)) 4294967296))]) (Al6 .u64 (Int.tdiv (Al6 .u64 ((Al6 .u64 (((qA Y2).toInt)+((qA Y3).toInt)))+carry6)) 4294967296)) (Al6 .i64 (i7+1))) .fail)) .fail)
 (cK 265 [D.sl out5] fun Y4 =>
 .ret [qA Y4]):=by kernel_rfl
theorem AhK(n:Nat)(a0 b1:D):fA Xz n 268 [] [a0,b1] =
 Xy n n a0 b1 [] 0 0:=by kernel_rfl
theorem AbO(n:Nat)(x0 y1:D):fA [] n 271 [] [x0,y1] =
 kK (0≤32) (kK (0≤32) (kK (0≤32) (kK (0≤32) (kK (0≤32) (.ret [D.int (Al6 .u64 ((Al6 .u64 ((Al6 .u64 ((Am3 x0.toInt (2 ^ (min (Ama 32) (Aml .u64))))*(Am3 y1.toInt (2 ^ (min (Ama 32) (Aml .u64))))))+(Am3 (Al6 .u64 ((Al6 .u64 ((Am3 x0.toInt (2 ^ (min (Ama 32) (Aml .u64))))*(Bm .and .u64 y1.toInt 4294967295)))+(Am3 (Al6 .u64 ((Bm .and .u64 x0.toInt 4294967295)*(Bm .and .u64 y1.toInt 4294967295))) (2 ^ (min (Ama 32) (Aml .u64)))))) (2 ^ (min (Ama 32) (Aml .u64))))))+(Am3 (Al6 .u64 ((Bm .and .u64 (Al6 .u64 ((Al6 .u64 ((Am3 x0.toInt (2 ^ (min (Ama 32) (Aml .u64))))*(Bm .and .u64 y1.toInt 4294967295)))+(Am3 (Al6 .u64 ((Bm .and .u64 x0.toInt 4294967295)*(Bm .and .u64 y1.toInt 4294967295))) (2 ^ (min (Ama 32) (Aml .u64)))))) 4294967295)+(Al6 .u64 ((Bm .and .u64 x0.toInt 4294967295)*(Am3 y1.toInt (2 ^ (min (Ama 32) (Aml .u64)))))))) (2 ^ (min (Ama 32) (Aml .u64)))))),D.int (Al6 .u64 (x0.toInt*y1.toInt))]))))):=by kernel_rfl
def Ye:List (Nat×Orc):=[(4,⟨[(0,some 62),(5,none),(6,none),(7,none)],[],[(.slot 5,1040,180)]⟩)]
noncomputable def Yd(n m4:Nat)(a0:D)(out5:List D)(carry6 i7:Int):Tree :=
 lA (eA Ye n 295 [1,1,1,0,1,0,0]) (Ak Ye 4) m4 ⟨(.d 62 a0::uA 4++(.row 1040:: .i .u64 carry6:: .i .i64 i7::uA 25)),[(1040,.row 180 out5 true)],[1040],[],[]⟩
  (Ai 0 (Am (jA Ye n 295 [1,1,1,1]) (rA 295 [62,180] [.tmp 4] [62])))
theorem WB(n m4:Nat)(a0:D)(out5:List D)(carry6 i7:Int):Yd n (m4+1) a0 out5 carry6 i7 =
 bK (i7≤(a0.els.length:Int)) (cK 311 [a0,D.int i7] fun Y1 =>
 .br (!(4294967296 == (0:Int))) (kK (out5.length + [D.int (Al6 .u32 (Int.tmod (Al6 .u64 ((Al6 .u64 (2*((qA Y1).toInt)))+carry6)) 4294967296))].length≤Aj) (.br (!(4294967296 == (0:Int))) (Yd n m4 a0 (out5++[D.int (Al6 .u32 (Int.tmod (Al6 .u64 ((Al6 .u64 (2*((qA Y1).toInt)))+carry6)) 4294967296))]) (Al6 .u64 (Int.tdiv (Al6 .u64 ((Al6 .u64 (2*((qA Y1).toInt)))+carry6)) 4294967296)) (Al6 .i64 (i7+1))) .fail)) .fail)
 (cK 265 [D.sl out5] fun Y2 =>
 .ret [qA Y2]):=by kernel_rfl
theorem AhX(n:Nat)(a0 bit1:D):fA Ye n 295 [] [a0,bit1] =
 Yd n n a0 [] (Al6 .u64 bit1.toInt) 0:=by kernel_rfl
def X3:List (Nat×Orc):=[(3,⟨[(1,none),(5,none),(6,none)],[],[]⟩)]
noncomputable def X0(n m3:Nat)(i1 w5 k6:Int):Tree :=
 lA (eA X3 n 296 [1,1,0,1,0,0]) (Ak X3 3) m3 ⟨(.undef:: .i .i64 i1::uA 3++(.i .u64 w5:: .i .i64 k6::uA 15)),[],[],[],[]⟩
  (Ai 0 (Am (jA X3 n 296 [1,1,1]) (rA 296 [62,3] [.tmp 4] [180])))
theorem VU(n m3:Nat)(i1 w5 k6:Int):X0 n (m3+1) i1 w5 k6 =
 .br (!(32 == (0:Int))) (bK (k6<(Int.tmod i1 32)) (.br (!(2 == (0:Int))) (X0 n m3 i1 (Al6 .u64 (Int.tdiv w5 2)) (Al6 .i64 (k6+1))) .fail)
 (.br (!(2 == (0:Int))) (.ret [D.int (Al6 .u32 (Int.tmod w5 2))]) .fail)) .fail:=by kernel_rfl
theorem AhM(n:Nat)(a0 i1:D):fA X3 n 296 [] [a0,i1] =
 .br (!(32 == (0:Int))) (cK 311 [a0,D.int (Al6 .i64 (Int.tdiv i1.toInt 32))] fun Y1 =>
 X0 n n i1.toInt ((qA Y1).toInt) 0) .fail:=by kernel_rfl
def Yc:List (Nat×Orc):=[(6,⟨[(0,some 62),(1,some 62),(6,none),(7,none),(8,none)],[],[(.slot 6,1060,180)]⟩)]
noncomputable def Yb(n m6:Nat)(a0 b1:D)(out6:List D)(borrow7 i8:Int):Tree :=
 lA (eA Yc n 297 [1,1,1,1,0,1,0,0]) (Ak Yc 6) m6 ⟨(.d 62 a0:: .d 62 b1::uA 4++(.row 1060:: .i .u64 borrow7:: .i .i64 i8::uA 33)),[(1060,.row 180 out6 true)],[1060],[],[]⟩
  (Ai 0 (Am (jA Yc n 297 [1,1,1,1,1]) (rA 297 [62,62] [.tmp 4,.tmp 5] [62,4])))
theorem WA(n m6:Nat)(a0 b1:D)(out6:List D)(borrow7 i8:Int):Yb n (m6+1) a0 b1 out6 borrow7 i8 =
 cK 310 [a0,b1] fun Y2 =>
 bK (i8<((qA Y2).toInt)) (cK 311 [a0,D.int i8] fun Y3 =>
 cK 311 [b1,D.int i8] fun Y4 =>
 .br (!(4294967296 == (0:Int))) (kK (out6.length + [D.int (Al6 .u32 (Int.tmod (Al6 .u64 ((Al6 .u64 ((Al6 .u64 (4294967296+((qA Y3).toInt)))-((qA Y4).toInt)))-borrow7)) 4294967296))].length≤Aj) (.br (!(4294967296 == (0:Int))) (Yb n m6 a0 b1 (out6++[D.int (Al6 .u32 (Int.tmod (Al6 .u64 ((Al6 .u64 ((Al6 .u64 (4294967296+((qA Y3).toInt)))-((qA Y4).toInt)))-borrow7)) 4294967296))]) (Al6 .u64 (1-(Al6 .u64 (Int.tdiv (Al6 .u64 ((Al6 .u64 ((Al6 .u64 (4294967296+((qA Y3).toInt)))-((qA Y4).toInt)))-borrow7)) 4294967296)))) (Al6 .i64 (i8+1))) .fail)) .fail)
 (cK 265 [D.sl out6] fun Y5 =>
 .ret [qA Y5,D.bool true]):=by kernel_rfl
theorem AhU(n:Nat)(a0 b1:D):fA Yc n 297 [] [a0,b1] =
 cK 320 [a0,b1] fun Y1 =>
 bK (((qA Y1).toInt)<0) (.ret [D.sl [],D.bool false])
 (Yb n n a0 b1 [] 0 0):=by kernel_rfl
theorem Afh(n:Nat)(a0:D):fA [] n 299 [] [a0] =
 cK 321 [a0] fun Y1 =>
 kK (0≤(((qA Y1).els).length:Int)) (kK ((((qA Y1).els).length:Int)≤(((qA Y1).els).length:Int)) (kK ((((qA Y1).els).length:Int)≤Aj) (.ret [D.sl (((qA Y1).els).take (Amc (Ama (((qA Y1).els).length:Int)) (D.int 0)).length++(Amc (Ama (((qA Y1).els).length:Int)) (D.int 0)).drop ((qA Y1).els).length)]))):=by kernel_rfl
def Wj:List (Nat×Orc):=[(7,⟨[(0,some 62),(1,some 62),(5,none)],[],[]⟩)]
noncomputable def Wi(n m7:Nat)(a0 b1:D)(i5:Int):Tree :=
 lA (eA Wj n 302 [1,1,1,0,1,0,0]) (Ak Wj 7) m7 ⟨(.d 62 a0:: .d 62 b1::uA 3++(.i .i64 i5::uA 43)),[],[],[],[]⟩
  (Ai 1 (Am (jA Wj n 302 [1,1,1,1]) (rA 302 [62,62] [.tmp 4] [3])))
theorem RQ(n m7:Nat)(a0 b1:D)(i5:Int):Wi n (m7+1) a0 b1 i5 =
 bK (0≤i5) (kK (0≤i5) (kK (i5<(a0.els.length:Int)) (kK (0≤i5) (kK (i5<(b1.els.length:Int)) (bK (((a0.els.getD (Ama i5) D.nil).toInt)<((b1.els.getD (Ama i5) D.nil).toInt)) (.ret [D.int (-1)])
 (kK (0≤i5) (kK (i5<(a0.els.length:Int)) (kK (0≤i5) (kK (i5<(b1.els.length:Int)) (bK (((b1.els.getD (Ama i5) D.nil).toInt)<((a0.els.getD (Ama i5) D.nil).toInt)) (.ret [D.int 1])
 (Wi n m7 a0 b1 (Al6 .i64 (i5-1)))))))))))))
 (.ret [D.int 0]):=by kernel_rfl
theorem Afb(n:Nat)(a0 b1:D):fA Wj n 302 [] [a0,b1] =
 cK 321 [a0] fun Y1 =>
 cK 321 [b1] fun Y2 =>
 bK ((((qA Y1).els).length:Int)<(((qA Y2).els).length:Int)) (.ret [D.int (-1)])
 (bK ((((qA Y2).els).length:Int)<(((qA Y1).els).length:Int)) (.ret [D.int 1])
 (Wi n n (qA Y1) (qA Y2) (Al6 .i64 ((((qA Y1).els).length:Int)-1)))):=by kernel_rfl
def G6:List (Nat×Orc):=[(6,⟨[(1,some 62),(5,none),(30,some 62),(31,none),(32,none)],[],[(.slot 5,1060,180)]⟩),(10,⟨[(1,some 62),(5,none),(6,none),(7,none),(8,none),(30,some 62),(31,none),(32,none),(37,some 62),(38,none),(39,none)],[],[(.slot 5,1100,180)]⟩)]
noncomputable def Wm(n m6 m10:Nat)(b1:D)(out5:List D)(i6 x7 carry8:Int)(t30:D)(t31 t32:Int)(t37:D)(t38 t39:Int):Tree :=
 lA (eA G6 n 303 [1,1,1,1,0,1,0,0,1,1,0,0,1,1,0,1,0,0]) (Ak G6 10) m10 ⟨(.undef:: .d 62 b1::uA 3++(.row 1100:: .i .i64 i6:: .i .u32 x7:: .i .u64 carry8::uA 21++(.d 62 t30:: .i .i64 t31:: .i .i64 t32::uA 4++(.d 62 t37:: .i .i64 t38:: .i .i64 t39::uA 40)))),[(1100,.row 180 out5 true)],[1100],[],[]⟩
  (Ai 2 (Am (jA G6 n 303 [1,1,1,1,0,1,0,0,1,1,0,0,1,1,1]) (Ai 1 (Am (jA G6 n 303 [1,1,1,1,0,1,0,0,1,1,1]) (Fa Tryz.prog md (Ak G6 6) (fun s1=>lA (eA G6 n 303 [1,1,1,1,0,1,0,0]) (Ak G6 6) m6 s1 (Ai 0 (Am (jA G6 n 303 [1,1,1,1,1]) (rA 303 [62,62] [.tmp 4] [62])))) (Ai 0 (Am (jA G6 n 303 [1,1,1,1,1]) (rA 303 [62,62] [.tmp 4] [62]))))))))
noncomputable def Wn(n m6:Nat)(b1:D)(out5:List D)(t30:D)(t31 t32:Int):Tree :=
 lA (eA G6 n 303 [1,1,1,1,0,1,0,0]) (Ak G6 6) m6 ⟨(.undef:: .d 62 b1::uA 3++(.row 1060::uA 24++(.d 62 t30:: .i .i64 t31:: .i .i64 t32::uA 47))),[(1060,.row 180 out5 true)],[1060],[],[]⟩
  (Ai 0 (Am (jA G6 n 303 [1,1,1,1,1]) (rA 303 [62,62] [.tmp 4] [62])))
theorem RT(n m6 m10:Nat)(b1:D)(out5:List D)(i6 x7 carry8:Int)(t30:D)(t31 t32:Int)(t37:D)(t38 t39:Int):Wm n m6 (m10+1) b1 out5 i6 x7 carry8 t30 t31 t32 t37 t38 t39 =
 bK (t39<t38) (kK (0≤t39) (kK (t39<(t37.els.length:Int)) (kK (0≤Al6 .i64 (i6+t39)) (kK (Al6 .i64 (i6+t39)<(out5.length:Int)) (kK (0≤Al6 .i64 (i6+t39)) (kK (Al6 .i64 (i6+t39)<(out5.length:Int)) (kK (0≤32) (Wm n m6 m10 b1 (out5.set (Ama (Al6 .i64 (i6+t39))) (D.int (Al6 .u32 (Al6 .u64 ((Al6 .u64 ((Al6 .u64 ((Al6 .u64 x7)*(Al6 .u64 ((t37.els.getD (Ama t39) D.nil).toInt))))+(Al6 .u64 ((out5.getD (Ama (Al6 .i64 (i6+t39))) D.nil).toInt))))+carry8))))) i6 x7 (Am3 (Al6 .u64 ((Al6 .u64 ((Al6 .u64 ((Al6 .u64 x7)*(Al6 .u64 ((t37.els.getD (Ama t39) D.nil).toInt))))+(Al6 .u64 ((out5.getD (Ama (Al6 .i64 (i6+t39))) D.nil).toInt))))+carry8)) (2 ^ (min (Ama 32) (Aml .u64)))) t30 t31 t32 t37 t38 (Al6 .i64 (t39+1))))))))))
 (kK (0≤Al6 .i64 (i6+(b1.els.length:Int))) (kK (Al6 .i64 (i6+(b1.els.length:Int))<(out5.length:Int)) (Wn n m6 b1 (out5.set (Ama (Al6 .i64 (i6+(b1.els.length:Int)))) (D.int (Al6 .u32 carry8))) t30 t31 (Al6 .i64 (t32+1))))):=by kernel_rfl
theorem RU(n m6:Nat)(b1:D)(out5:List D)(t30:D)(t31 t32:Int):Wn n (m6+1) b1 out5 t30 t31 t32 =
 bK (t32<t31) (kK (0≤t32) (kK (t32<(t30.els.length:Int)) (Wm n m6 n b1 out5 t32 ((t30.els.getD (Ama t32) D.nil).toInt) 0 t30 t31 t32 b1 (b1.els.length:Int) 0)))
 (cK 321 [D.sl out5] fun Y3 =>
 .ret [qA Y3]):=by kernel_rfl
theorem Afg(n:Nat)(a0 b1:D):fA G6 n 303 [] [a0,b1] =
 cK 321 [a0] fun Y1 =>
 cK 321 [b1] fun Y2 =>
 .br ((((qA Y1).els).length:Int)==0) (.ret [D.sl []])
 (.br ((((qA Y2).els).length:Int)==0) (.ret [D.sl []])
 (kK (0≤Al6 .i64 ((((qA Y1).els).length:Int)+(((qA Y2).els).length:Int))) (kK (Al6 .i64 ((((qA Y1).els).length:Int)+(((qA Y2).els).length:Int))≤Al6 .i64 ((((qA Y1).els).length:Int)+(((qA Y2).els).length:Int))) (kK (Al6 .i64 ((((qA Y1).els).length:Int)+(((qA Y2).els).length:Int))≤Aj) (Wn n n (qA Y2) (Amc (Ama (Al6 .i64 ((((qA Y1).els).length:Int)+(((qA Y2).els).length:Int)))) (D.int 0)) (qA Y1) (((qA Y1).els).length:Int) 0))))):=by kernel_rfl
theorem AhW(n:Nat)(a0 b1:D):fA [] n 310 [] [a0,b1] =
 bK ((b1.els.length:Int)<(a0.els.length:Int)) (.ret [D.int (a0.els.length:Int)])
 (.ret [D.int (b1.els.length:Int)]):=by kernel_rfl
theorem AhV(n:Nat)(a0 i1:D):fA [] n 311 [] [a0,i1] =
 bK (i1.toInt<(a0.els.length:Int)) (kK (0≤i1.toInt) (kK (i1.toInt<(a0.els.length:Int)) (.ret [D.int (Al6 .u64 ((a0.els.getD (Ama i1.toInt) D.nil).toInt))])))
 (.ret [D.int 0]):=by kernel_rfl
def Wl:List (Nat×Orc):=[(2,⟨[(0,some 62),(1,some 62)],[],[]⟩)]
noncomputable def Q5(n m2:Nat)(a0 b1:D):Tree :=
 lA (eA Wl n 315 [1,1,0,0,0]) (Ak Wl 2) m2 ⟨(.d 62 a0:: .d 62 b1::uA 37),[],[],[],[]⟩
  (Ai 0 (Am (jA Wl n 315 [1,1,1]) (rA 315 [62,62] [.tmp 4] [62])))
theorem Afd(n m2:Nat)(a0 b1:D):Q5 n (m2+1) a0 b1 =
 bK (0<(b1.els.length:Int)) (bK ((a0.els.length:Int)≤2) (bK ((b1.els.length:Int)≤2) (cK 328 [a0] fun Y3 =>
 cK 328 [b1] fun Y4 =>
 cK 327 [D.int ((qA Y3).toInt),D.int ((qA Y4).toInt)] fun Y5 =>
 .ret [qA Y5])
 (cK 323 [a0,b1] fun Y6 =>
 Q5 n m2 b1 (qB Y6)))
 (cK 323 [a0,b1] fun Y7 =>
 Q5 n m2 b1 (qB Y7)))
 (cK 299 [a0] fun Y8 =>
 .ret [D.sl ((qA Y8).els)]):=by kernel_rfl
theorem Afe(n:Nat)(a0 b1:D):fA Wl n 315 [] [a0,b1] =
 cK 321 [a0] fun Y1 =>
 cK 321 [b1] fun Y2 =>
 Q5 n n (qA Y1) (qA Y2):=by kernel_rfl
def X5:List (Nat×Orc):=[(2,⟨[(0,some 62),(1,some 62),(5,none)],[],[]⟩)]
noncomputable def X4(n m2:Nat)(a0 b1:D)(i5:Int):Tree :=
 lA (eA X5 n 320 [1,0,1,0,0]) (Ak X5 2) m2 ⟨(.d 62 a0:: .d 62 b1::uA 3++(.i .i64 i5::uA 22)),[],[],[],[]⟩
  (Ai 0 (Am (jA X5 n 320 [1,1]) (rA 320 [62,62] [.tmp 4] [3])))
theorem VV(n m2:Nat)(a0 b1:D)(i5:Int):X4 n (m2+1) a0 b1 i5 =
 bK (0≤i5) (cK 311 [a0,D.int i5] fun Y2 =>
 cK 311 [b1,D.int i5] fun Y3 =>
 bK (((qA Y2).toInt)<((qA Y3).toInt)) (.ret [D.int (-1)])
 (cK 311 [a0,D.int i5] fun Y4 =>
 cK 311 [b1,D.int i5] fun Y5 =>
 bK (((qA Y5).toInt)<((qA Y4).toInt)) (.ret [D.int 1])
 (X4 n m2 a0 b1 (Al6 .i64 (i5-1)))))
 (.ret [D.int 0]):=by kernel_rfl
theorem AhN(n:Nat)(a0 b1:D):fA X5 n 320 [] [a0,b1] =
 cK 310 [a0,b1] fun Y1 =>
 X4 n n a0 b1 (Al6 .i64 (((qA Y1).toInt)-1)):=by kernel_rfl
def Wx:List (Nat×Orc):=[(2,⟨[(0,some 62),(3,none)],[],[]⟩)]
noncomputable def Ww(n m2:Nat)(a0:D)(nn3:Int):Tree :=
 lA (eA Wx n 321 [1,1,0,0,0]) (Ak Wx 2) m2 ⟨(.d 62 a0:: .undef:: .undef:: .i .i64 nn3::uA 18),[],[],[],[]⟩
  (Ai 0 (Am (jA Wx n 321 [1,1,1]) (rA 321 [62] [.tmp 2] [62])))
theorem SA(n m2:Nat)(a0:D)(nn3:Int):Ww n (m2+1) a0 nn3 =
 bK (0<nn3) (kK (0≤Al6 .i64 (nn3-1)) (kK (Al6 .i64 (nn3-1)<(a0.els.length:Int)) (.br (((a0.els.getD (Ama (Al6 .i64 (nn3-1))) D.nil).toInt)==0) (Ww n m2 a0 (Al6 .i64 (nn3-1)))
 (kK (0≤nn3) (kK (nn3≤nn3) (kK (nn3≤(a0.els.length:Int)) (.ret [D.sl (a0.els.take (Ama nn3))])))))))
 (kK (0≤nn3) (kK (nn3≤nn3) (kK (nn3≤(a0.els.length:Int)) (.ret [D.sl (a0.els.take (Ama nn3))])))):=by kernel_rfl
theorem Afu(n:Nat)(a0:D):fA Wx n 321 [] [a0] =
 Ww n n a0 (a0.els.length:Int):=by kernel_rfl
theorem Afc(n:Nat)(a0 b1:D):fA [] n 323 [] [a0,b1] =
 cK 321 [a0] fun Y1 =>
 cK 321 [b1] fun Y2 =>
 .br ((((qA Y2).els).length:Int)==0) (.ret [D.sl [],D.sl [],D.bool false])
 (cK 302 [qA Y1,qA Y2] fun Y3 =>
 bK (((qA Y3).toInt)<0) (cK 299 [qA Y1] fun Y4 =>
 .ret [D.sl [],D.sl ((qA Y4).els),D.bool true])
 (.br ((((qA Y2).els).length:Int)==1) (cK 299 [qA Y1] fun Y5 =>
 kK (0≤0) (kK (0<(((qA Y2).els).length:Int)) (cK 331 [D.sl ((qA Y5).els),D.int ((((qA Y2).els).getD (Ama 0) D.nil).toInt)] fun Y6 =>
 cK 321 [D.sl ((qB Y6).els)] fun Y7 =>
 cK 299 [D.sl [D.int ((qA Y6).toInt)]] fun Y8 =>
 .ret [qA Y7,D.sl ((qA Y8).els),D.bool true])))
 (cK 332 [qA Y1,qA Y2] fun Y9 =>
 .ret [qA Y9,qB Y9,D.bool true]))):=by kernel_rfl
def Wg:List (Nat×Orc):=[(8,⟨[(1,some 62),(5,none),(6,none),(30,none),(31,none)],[],[(.slot 5,1080,180)]⟩)]
noncomputable def Mf(n m8:Nat)(b1:D)(out5:List D)(carry6 t30 t31:Int):Tree :=
 lA (eA Wg n 325 [1,1,1,1,1,1,0,1,0,0]) (Ak Wg 8) m8 ⟨(.undef:: .d 62 b1::uA 3++(.row 1080:: .i .u32 carry6::uA 23++(.i .i64 t30:: .i .i64 t31::uA 33))),[(1080,.row 180 out5 true)],[1080],[],[]⟩
  (Ai 0 (Am (jA Wg n 325 [1,1,1,1,1,1,1]) (rA 325 [62,62] [.tmp 4] [62])))
theorem RO(n m8:Nat)(b1:D)(out5:List D)(carry6 t30 t31:Int):Mf n (m8+1) b1 out5 carry6 t30 t31 =
 bK (t31<t30) (bK (t31<(b1.els.length:Int)) (kK (0≤t31) (kK (t31<(b1.els.length:Int)) (kK (0≤t31) (kK (t31<(out5.length:Int)) (cK 333 [D.int ((out5.getD (Ama t31) D.nil).toInt),D.int ((b1.els.getD (Ama t31) D.nil).toInt),D.int carry6] fun Y3 =>
 kK (0≤t31) (kK (t31<(out5.length:Int)) (Mf n m8 b1 (out5.set (Ama t31) (D.int ((qA Y3).toInt))) ((qB Y3).toInt) t30 (Al6 .i64 (t31+1)))))))))
 (.br (carry6 == 0) (.br (carry6 != 0) (kK (out5.length + [D.int carry6].length≤Aj) (.ret [D.sl (out5++[D.int carry6])]))
 (.ret [D.sl out5]))
 (kK (0≤t31) (kK (t31<(out5.length:Int)) (cK 333 [D.int ((out5.getD (Ama t31) D.nil).toInt),D.int 0,D.int carry6] fun Y4 =>
 kK (0≤t31) (kK (t31<(out5.length:Int)) (Mf n m8 b1 (out5.set (Ama t31) (D.int ((qA Y4).toInt))) ((qB Y4).toInt) t30 (Al6 .i64 (t31+1)))))))))
 (.br (carry6 != 0) (kK (out5.length + [D.int carry6].length≤Aj) (.ret [D.sl (out5++[D.int carry6])]))
 (.ret [D.sl out5])):=by kernel_rfl
theorem Afa(n:Nat)(a0 b1:D):fA Wg n 325 [] [a0,b1] =
 cK 321 [a0] fun Y1 =>
 cK 321 [b1] fun Y2 =>
 bK ((((qA Y1).els).length:Int)<(((qA Y2).els).length:Int)) (kK (0≤(((qA Y2).els).length:Int)) (kK ((((qA Y2).els).length:Int)≤Al6 .i64 ((((qA Y2).els).length:Int)+1)) (kK (Al6 .i64 ((((qA Y2).els).length:Int)+1)≤Aj) (Mf n n (qA Y1) (((qA Y2).els).take (Amc (Ama (((qA Y2).els).length:Int)) (D.int 0)).length++(Amc (Ama (((qA Y2).els).length:Int)) (D.int 0)).drop ((qA Y2).els).length) 0 ((((qA Y2).els).take (Amc (Ama (((qA Y2).els).length:Int)) (D.int 0)).length++(Amc (Ama (((qA Y2).els).length:Int)) (D.int 0)).drop ((qA Y2).els).length).length:Int) 0))))
 (kK (0≤(((qA Y1).els).length:Int)) (kK ((((qA Y1).els).length:Int)≤Al6 .i64 ((((qA Y1).els).length:Int)+1)) (kK (Al6 .i64 ((((qA Y1).els).length:Int)+1)≤Aj) (Mf n n (qA Y2) (((qA Y1).els).take (Amc (Ama (((qA Y1).els).length:Int)) (D.int 0)).length++(Amc (Ama (((qA Y1).els).length:Int)) (D.int 0)).drop ((qA Y1).els).length) 0 ((((qA Y1).els).take (Amc (Ama (((qA Y1).els).length:Int)) (D.int 0)).length++(Amc (Ama (((qA Y1).els).length:Int)) (D.int 0)).drop ((qA Y1).els).length).length:Int) 0)))):=by kernel_rfl
def Wo:List (Nat×Orc):=[(6,⟨[(1,some 62),(6,none),(7,none),(19,none),(20,none)],[],[(.slot 6,1060,180)]⟩)]
noncomputable def Q6(n m6:Nat)(b1:D)(out6:List D)(borrow7 t19 t20:Int):Tree :=
 lA (eA Wo n 326 [1,1,1,1,0,1,0,0]) (Ak Wo 6) m6 ⟨(.undef:: .d 62 b1::uA 4++(.row 1060:: .i .u32 borrow7::uA 11++(.i .i64 t19:: .i .i64 t20::uA 28))),[(1060,.row 180 out6 true)],[1060],[],[]⟩
  (Ai 0 (Am (jA Wo n 326 [1,1,1,1,1]) (rA 326 [62,62] [.tmp 4,.tmp 5] [62,4])))
theorem RV(n m6:Nat)(b1:D)(out6:List D)(borrow7 t19 t20:Int):Q6 n (m6+1) b1 out6 borrow7 t19 t20 =
 bK (t20<t19) (bK (t20<(b1.els.length:Int)) (kK (0≤t20) (kK (t20<(b1.els.length:Int)) (kK (0≤t20) (kK (t20<(out6.length:Int)) (cK 334 [D.int ((out6.getD (Ama t20) D.nil).toInt),D.int ((b1.els.getD (Ama t20) D.nil).toInt),D.int borrow7] fun Y4 =>
 kK (0≤t20) (kK (t20<(out6.length:Int)) (Q6 n m6 b1 (out6.set (Ama t20) (D.int ((qA Y4).toInt))) ((qB Y4).toInt) t19 (Al6 .i64 (t20+1)))))))))
 (.br (borrow7 == 0) (cK 321 [D.sl out6] fun Y5 =>
 .ret [qA Y5,D.bool true])
 (kK (0≤t20) (kK (t20<(out6.length:Int)) (cK 334 [D.int ((out6.getD (Ama t20) D.nil).toInt),D.int 0,D.int borrow7] fun Y6 =>
 kK (0≤t20) (kK (t20<(out6.length:Int)) (Q6 n m6 b1 (out6.set (Ama t20) (D.int ((qA Y6).toInt))) ((qB Y6).toInt) t19 (Al6 .i64 (t20+1)))))))))
 (cK 321 [D.sl out6] fun Y7 =>
 .ret [qA Y7,D.bool true]):=by kernel_rfl
theorem Afi(n:Nat)(a0 b1:D):fA Wo n 326 [] [a0,b1] =
 cK 302 [a0,b1] fun Y1 =>
 bK (((qA Y1).toInt)<0) (.ret [D.sl [],D.bool false])
 (cK 299 [a0] fun Y2 =>
 cK 321 [b1] fun Y3 =>
 Q6 n n (qA Y3) ((qA Y2).els) 0 (((qA Y2).els).length:Int) 0):=by kernel_rfl
def Wv:List (Nat×Orc):=[(1,⟨[(0,none),(1,none)],[],[]⟩)]
noncomputable def Wu(n m1:Nat)(a0 b1:Int):Tree :=
 lA (eA Wv n 327 [1,0,0,0]) (Ak Wv 1) m1 ⟨(.i .u64 a0:: .i .u64 b1::uA 16),[],[],[],[]⟩
  (Ai 0 (Am (jA Wv n 327 [1,1]) (rA 327 [22,22] [.tmp 4] [62])))
theorem Afr(n m1:Nat)(a0 b1:Int):Wu n (m1+1) a0 b1 =
 .br (b1 != 0) (.br (!(b1 == (0:Int))) (Wu n m1 b1 (Int.tmod a0 b1)) .fail)
 (kK (0≤32) (cK 299 [D.sl [D.int (Al6 .u32 a0),D.int (Al6 .u32 (Am3 a0 (2 ^ (min (Ama 32) (Aml .u64)))))]] fun Y1 =>
 .ret [D.sl ((qA Y1).els)])):=by kernel_rfl
theorem Aft(n:Nat)(a0 b1:D):fA Wv n 327 [] [a0,b1] =
 Wu n n a0.toInt b1.toInt:=by kernel_rfl
def W0:List (Nat×Orc):=[(3,⟨[(3,none),(6,some 62),(7,none),(8,none)],[],[]⟩)]
noncomputable def Of(n m3:Nat)(out3:Int)(t6:D)(t7 t8:Int):Tree :=
 lA (eA W0 n 328 [1,1,0,1,0,0]) (Ak W0 3) m3 ⟨(uA 3++(.i .u64 out3:: .undef:: .undef:: .d 62 t6:: .i .i64 t7:: .i .i64 t8::uA 14)),[],[],[],[]⟩
  (Ai 0 (Am (jA W0 n 328 [1,1,1]) (rA 328 [62] [.tmp 2] [22])))
theorem SD(n m3:Nat)(out3:Int)(t6:D)(t7 t8:Int):Of n (m3+1) out3 t6 t7 t8 =
 bK (t8<t7) (kK (0≤t8) (kK (t8<(t6.els.length:Int)) (kK (0≤Al6 .u64 (Al6 .i64 (32*t8))) (Of n m3 (Bm .or .u64 out3 (Al6 .u64 ((Al6 .u64 ((t6.els.getD (Ama t8) D.nil).toInt))*2 ^ (min (Ama (Al6 .u64 (Al6 .i64 (32*t8)))) (Aml .u64))))) t6 t7 (Al6 .i64 (t8+1))))))
 (.ret [D.int out3]):=by kernel_rfl
theorem Afw(n:Nat)(a0:D):fA W0 n 328 [] [a0] =
 Of n n 0 a0 (a0.els.length:Int) 0:=by kernel_rfl
def Wt:List (Nat×Orc):=[(3,⟨[(0,none),(1,none),(5,none),(6,none)],[],[(.slot 0,0,180)]⟩)]
noncomputable def Ws(n m3:Nat)(a0:List D)(by1 rest5 i6:Int):Tree :=
 lA (eA Wt n 331 [1,1,0,1,0,0]) (Ak Wt 3) m3 ⟨(.row 0:: .i .u32 by1::uA 3++(.i .u64 rest5:: .i .i64 i6::uA 29)),[(0,.row 180 a0 true)],[0],[],[0]⟩
  (Ai 0 (Am (jA Wt n 331 [1,1,1]) (rA 331 [62,180] [.tmp 4] [180])))
theorem RZ(n m3:Nat)(a0:List D)(by1 rest5 i6:Int):Ws n (m3+1) a0 by1 rest5 i6 =
 bK (0≤i6) (kK (0≤32) (kK (0≤i6) (kK (i6<(a0.length:Int)) (.br (!((Al6 .u64 by1)==(0:Int))) (kK (0≤i6) (kK (i6<(a0.length:Int)) (.br (!((Al6 .u64 by1)==(0:Int))) (Ws n m3 (a0.set (Ama i6) (D.int (Al6 .u32 (Al6 .u64 (Int.tdiv (Bm .or .u64 (Al6 .u64 (rest5*2 ^ (min (Ama 32) (Aml .u64)))) (Al6 .u64 ((a0.getD (Ama i6) D.nil).toInt))) (Al6 .u64 by1)))))) by1 (Int.tmod (Bm .or .u64 (Al6 .u64 (rest5*2 ^ (min (Ama 32) (Aml .u64)))) (Al6 .u64 ((a0.getD (Ama i6) D.nil).toInt))) (Al6 .u64 by1)) (Al6 .i64 (i6-1))) .fail))) .fail))))
 (.ret [D.int (Al6 .u32 rest5),D.sl a0]):=by kernel_rfl
theorem Afq(n:Nat)(a0 by1:D):fA Wt n 331 [] [a0,by1] =
 Ws n n a0.els by1.toInt 0 (Al6 .i64 ((a0.els.length:Int)-1)):=by kernel_rfl
theorem AbJ(n:Nat)(x0 y1 carry2:D):fA [] n 333 [] [x0,y1,carry2] =
 kK (0≤32) (.ret [D.int (Al6 .u32 (Al6 .u64 ((Al6 .u64 ((Al6 .u64 x0.toInt)+(Al6 .u64 y1.toInt)))+(Al6 .u64 carry2.toInt)))),D.int (Al6 .u32 (Am3 (Al6 .u64 ((Al6 .u64 ((Al6 .u64 x0.toInt)+(Al6 .u64 y1.toInt)))+(Al6 .u64 carry2.toInt))) (2 ^ (min (Ama 32) (Aml .u64)))))]):=by kernel_rfl
theorem AbQ(n:Nat)(x0 y1 borrow2:D):fA [] n 334 [] [x0,y1,borrow2] =
 kK (0≤31) (.ret [D.int (Al6 .u32 ((Al6 .u32 (x0.toInt-y1.toInt))-borrow2.toInt)),D.int (Am3 (Bm .or .u32 (Bm .and .u32 (Bm .xor .u32 (IntKind.max .u32) x0.toInt) y1.toInt) (Bm .and .u32 (Bm .xor .u32 (IntKind.max .u32) (Bm .xor .u32 x0.toInt y1.toInt)) (Al6 .u32 ((Al6 .u32 (x0.toInt-y1.toInt))-borrow2.toInt)))) (2 ^ (min (Ama 31) (Aml .u32))))]):=by kernel_rfl
theorem AbK(n:Nat)(x0:D):fA [] n 335 [] [x0] =
 cK 341 [D.int x0.toInt] fun Y1 =>
 .ret [D.int (Al6 .i64 (32-((qA Y1).toInt)))]:=by kernel_rfl
def Wz:List (Nat×Orc):=[(4,⟨[(0,some 62),(1,none),(5,none),(6,none),(14,some 62),(15,none),(16,none)],[],[(.slot 5,1040,180)]⟩)]
noncomputable def Wy(n m4:Nat)(a0:D)(shift1:Int)(out5:List D)(carry6:Int)(t14:D)(t15 t16:Int):Tree :=
 lA (eA Wz n 336 [1,1,1,0,1,0,0]) (Ak Wz 4) m4 ⟨(.d 62 a0:: .i .i64 shift1::uA 3++(.row 1040:: .i .u64 carry6::uA 7++(.d 62 t14:: .i .i64 t15:: .i .i64 t16::uA 26))),[(1040,.row 180 out5 true)],[1040],[],[]⟩
  (Ai 0 (Am (jA Wz n 336 [1,1,1,1]) (rA 336 [62,3] [.tmp 4] [62])))
theorem SC(n m4:Nat)(a0:D)(shift1:Int)(out5:List D)(carry6:Int)(t14:D)(t15 t16:Int):Wy n (m4+1) a0 shift1 out5 carry6 t14 t15 t16 =
 bK (t16<t15) (kK (0≤t16) (kK (t16<(t14.els.length:Int)) (kK (0≤Al6 .u64 shift1) (kK (0≤t16) (kK (t16<(out5.length:Int)) (kK (0≤32) (Wy n m4 a0 shift1 (out5.set (Ama t16) (D.int (Al6 .u32 (Bm .or .u64 (Al6 .u64 ((Al6 .u64 ((t14.els.getD (Ama t16) D.nil).toInt))*2 ^ (min (Ama (Al6 .u64 shift1)) (Aml .u64)))) carry6)))) (Am3 (Bm .or .u64 (Al6 .u64 ((Al6 .u64 ((t14.els.getD (Ama t16) D.nil).toInt))*2 ^ (min (Ama (Al6 .u64 shift1)) (Aml .u64)))) carry6) (2 ^ (min (Ama 32) (Aml .u64)))) t14 t15 (Al6 .i64 (t16+1)))))))))
 (kK (0≤(a0.els.length:Int)) (kK ((a0.els.length:Int)<(out5.length:Int)) (.ret [D.sl (out5.set (Ama (a0.els.length:Int)) (D.int (Al6 .u32 carry6)))]))):=by kernel_rfl
theorem Afv(n:Nat)(a0 shift1:D):fA Wz n 336 [] [a0,shift1] =
 kK (0≤Al6 .i64 ((a0.els.length:Int)+1)) (kK (Al6 .i64 ((a0.els.length:Int)+1)≤Al6 .i64 ((a0.els.length:Int)+1)) (kK (Al6 .i64 ((a0.els.length:Int)+1)≤Aj) (Wy n n a0 shift1.toInt (Amc (Ama (Al6 .i64 ((a0.els.length:Int)+1))) (D.int 0)) 0 a0 (a0.els.length:Int) 0))):=by kernel_rfl
def Wr:List (Nat×Orc):=[(4,⟨[(0,some 62),(1,some 62),(5,none),(7,none),(8,none)],[],[]⟩)]
noncomputable def Oe(n m4:Nat)(a0 divisor1:D)(nn5 guess7 rest8:Int):Tree :=
 lA (eA Wr n 337 [1,1,1,1,0,0,0]) (Ak Wr 4) m4 ⟨(.d 62 a0:: .d 62 divisor1::uA 3++(.i .i64 nn5:: .undef:: .i .u64 guess7:: .i .u64 rest8::uA 68)),[],[],[],[]⟩
  (Ai 0 (Am (jA Wr n 337 [1,1,1,1,1]) (rA 337 [62,62] [.tmp 4] [22])))
theorem Afm(n m4:Nat)(a0 divisor1:D)(nn5 guess7 rest8:Int):Oe n (m4+1) a0 divisor1 nn5 guess7 rest8 =
 kK (0≤32) (.br ((Am3 guess7 (2 ^ (min (Ama 32) (Aml .u64))))!=0) (kK (0≤Al6 .i64 (nn5-1)) (kK (Al6 .i64 (nn5-1)<(divisor1.els.length:Int)) (kK (0≤32) (.br ((Am3 (Al6 .u64 (rest8+(Al6 .u64 ((divisor1.els.getD (Ama (Al6 .i64 (nn5-1))) D.nil).toInt)))) (2 ^ (min (Ama 32) (Aml .u64))))!=0) (.ret [D.int (Al6 .u64 (guess7-1))])
 (Oe n m4 a0 divisor1 nn5 (Al6 .u64 (guess7-1)) (Al6 .u64 (rest8+(Al6 .u64 ((divisor1.els.getD (Ama (Al6 .i64 (nn5-1))) D.nil).toInt)))))))))
 (kK (0≤Al6 .i64 (nn5-2)) (kK (Al6 .i64 (nn5-2)<(divisor1.els.length:Int)) (kK (0≤32) (kK (0≤Al6 .i64 (nn5-2)) (kK (Al6 .i64 (nn5-2)<(a0.els.length:Int)) (bK ((Bm .or .u64 (Al6 .u64 (rest8*2 ^ (min (Ama 32) (Aml .u64)))) (Al6 .u64 ((a0.els.getD (Ama (Al6 .i64 (nn5-2))) D.nil).toInt)))<(Al6 .u64 (guess7*(Al6 .u64 ((divisor1.els.getD (Ama (Al6 .i64 (nn5-2))) D.nil).toInt))))) (kK (0≤Al6 .i64 (nn5-1)) (kK (Al6 .i64 (nn5-1)<(divisor1.els.length:Int)) (kK (0≤32) (.br ((Am3 (Al6 .u64 (rest8+(Al6 .u64 ((divisor1.els.getD (Ama (Al6 .i64 (nn5-1))) D.nil).toInt)))) (2 ^ (min (Ama 32) (Aml .u64))))!=0) (.ret [D.int (Al6 .u64 (guess7-1))])
 (Oe n m4 a0 divisor1 nn5 (Al6 .u64 (guess7-1)) (Al6 .u64 (rest8+(Al6 .u64 ((divisor1.els.getD (Ama (Al6 .i64 (nn5-1))) D.nil).toInt)))))))))
 (.ret [D.int guess7])))))))):=by kernel_rfl
theorem Afn(n:Nat)(a0 divisor1:D):fA Wr n 337 [] [a0,divisor1] =
 kK (0≤(divisor1.els.length:Int)) (kK ((divisor1.els.length:Int)<(a0.els.length:Int)) (kK (0≤32) (kK (0≤Al6 .i64 ((divisor1.els.length:Int)-1)) (kK (Al6 .i64 ((divisor1.els.length:Int)-1)<(a0.els.length:Int)) (kK (0≤Al6 .i64 ((divisor1.els.length:Int)-1)) (kK (Al6 .i64 ((divisor1.els.length:Int)-1)<(divisor1.els.length:Int)) (.br (!((Al6 .u64 ((divisor1.els.getD (Ama (Al6 .i64 ((divisor1.els.length:Int)-1))) D.nil).toInt))==(0:Int))) (kK (0≤Al6 .i64 ((divisor1.els.length:Int)-1)) (kK (Al6 .i64 ((divisor1.els.length:Int)-1)<(divisor1.els.length:Int)) (.br (!((Al6 .u64 ((divisor1.els.getD (Ama (Al6 .i64 ((divisor1.els.length:Int)-1))) D.nil).toInt))==(0:Int))) (Oe n n a0 divisor1 (divisor1.els.length:Int) (Al6 .u64 (Int.tdiv (Bm .or .u64 (Al6 .u64 ((Al6 .u64 ((a0.els.getD (Ama (divisor1.els.length:Int)) D.nil).toInt))*2 ^ (min (Ama 32) (Aml .u64)))) (Al6 .u64 ((a0.els.getD (Ama (Al6 .i64 ((divisor1.els.length:Int)-1))) D.nil).toInt))) (Al6 .u64 ((divisor1.els.getD (Ama (Al6 .i64 ((divisor1.els.length:Int)-1))) D.nil).toInt)))) (Int.tmod (Bm .or .u64 (Al6 .u64 ((Al6 .u64 ((a0.els.getD (Ama (divisor1.els.length:Int)) D.nil).toInt))*2 ^ (min (Ama 32) (Aml .u64)))) (Al6 .u64 ((a0.els.getD (Ama (Al6 .i64 ((divisor1.els.length:Int)-1))) D.nil).toInt))) (Al6 .u64 ((divisor1.els.getD (Ama (Al6 .i64 ((divisor1.els.length:Int)-1))) D.nil).toInt)))) .fail))) .fail))))))):=by kernel_rfl
def Wq:List (Nat×Orc):=[(4,⟨[(0,some 62),(1,none),(5,none),(6,none),(7,none)],[],[(.slot 5,1040,180)]⟩)]
noncomputable def Wp(n m4:Nat)(a0:D)(shift1:Int)(out5:List D)(above6 i7:Int):Tree :=
 lA (eA Wq n 340 [1,1,1,0,1,0,0]) (Ak Wq 4) m4 ⟨(.d 62 a0:: .i .i64 shift1::uA 3++(.row 1040:: .i .u64 above6:: .i .i64 i7::uA 34)),[(1040,.row 180 out5 true)],[1040],[],[]⟩
  (Ai 0 (Am (jA Wq n 340 [1,1,1,1]) (rA 340 [62,3] [.tmp 4] [62])))
theorem RY(n m4:Nat)(a0:D)(shift1:Int)(out5:List D)(above6 i7:Int):Wp n (m4+1) a0 shift1 out5 above6 i7 =
 bK (0≤i7) (kK (0≤32) (kK (0≤i7) (kK (i7<(a0.els.length:Int)) (kK (0≤Al6 .u64 shift1) (kK (0≤i7) (kK (i7<(out5.length:Int)) (kK (0≤i7) (kK (i7<(a0.els.length:Int)) (Wp n m4 a0 shift1 (out5.set (Ama i7) (D.int (Al6 .u32 (Am3 (Bm .or .u64 (Al6 .u64 (above6*2 ^ (min (Ama 32) (Aml .u64)))) (Al6 .u64 ((a0.els.getD (Ama i7) D.nil).toInt))) (2 ^ (min (Ama (Al6 .u64 shift1)) (Aml .u64))))))) (Al6 .u64 ((a0.els.getD (Ama i7) D.nil).toInt)) (Al6 .i64 (i7-1)))))))))))
 (cK 321 [D.sl out5] fun Y1 =>
 .ret [qA Y1]):=by kernel_rfl
theorem Afk(n:Nat)(a0 shift1:D):fA Wq n 340 [] [a0,shift1] =
 kK (0≤(a0.els.length:Int)) (kK ((a0.els.length:Int)≤(a0.els.length:Int)) (kK ((a0.els.length:Int)≤Aj) (Wp n n a0 shift1.toInt (Amc (Ama (a0.els.length:Int)) (D.int 0)) 0 (Al6 .i64 ((a0.els.length:Int)-1))))):=by kernel_rfl
theorem AbM(n:Nat)(x0:D):fA [] n 341 [] [x0] =
 bK (65536≤x0.toInt) (kK (0≤16) (bK (256≤(Am3 x0.toInt (2 ^ (min (Ama 16) (Aml .u32))))) (kK (0≤8) (kK (0≤Al6 .u8 (Am3 (Am3 x0.toInt (2 ^ (min (Ama 16) (Aml .u32)))) (2 ^ (min (Ama 8) (Aml .u32))))) (kK (Al6 .u8 (Am3 (Am3 x0.toInt (2 ^ (min (Ama 16) (Aml .u32)))) (2 ^ (min (Ama 8) (Aml .u32))))<(Jq.size:Int)) (.ret [D.int (Al6 .i64 ((Al6 .i64 (16+8))+(Al6 .i64 (((Jq.data.toList.getD (Ama (Al6 .u8 (Am3 (Am3 x0.toInt (2 ^ (min (Ama 16) (Aml .u32)))) (2 ^ (min (Ama 8) (Aml .u32)))))) 0).toNat:Nat):Int))))]))))
 (kK (0≤Al6 .u8 (Am3 x0.toInt (2 ^ (min (Ama 16) (Aml .u32))))) (kK (Al6 .u8 (Am3 x0.toInt (2 ^ (min (Ama 16) (Aml .u32))))<(Jq.size:Int)) (.ret [D.int (Al6 .i64 (16+(Al6 .i64 (((Jq.data.toList.getD (Ama (Al6 .u8 (Am3 x0.toInt (2 ^ (min (Ama 16) (Aml .u32)))))) 0).toNat:Nat):Int))))])))))
 (bK (256≤x0.toInt) (kK (0≤8) (kK (0≤Al6 .u8 (Am3 x0.toInt (2 ^ (min (Ama 8) (Aml .u32))))) (kK (Al6 .u8 (Am3 x0.toInt (2 ^ (min (Ama 8) (Aml .u32))))<(Jq.size:Int)) (.ret [D.int (Al6 .i64 ((Al6 .i64 (0+8))+(Al6 .i64 (((Jq.data.toList.getD (Ama (Al6 .u8 (Am3 x0.toInt (2 ^ (min (Ama 8) (Aml .u32)))))) 0).toNat:Nat):Int))))]))))
 (kK (0≤Al6 .u8 x0.toInt) (kK (Al6 .u8 x0.toInt<(Jq.size:Int)) (.ret [D.int (Al6 .i64 (0+(Al6 .i64 (((Jq.data.toList.getD (Ama (Al6 .u8 x0.toInt)) 0).toNat:Nat):Int))))])))):=by kernel_rfl
def B:Nat:=4294967296
theorem Ay:B=4294967296:=rfl
theorem Bw:0<B:=by decide
theorem Bp(i:Nat):0<B ^ i:=Nat.pow_pos Bw
theorem Ej(x:Ao):x.toNat<B:=x.isLt
def nv:List Ao→Nat
 | []=>0
 | x::l=>x.toNat+B*nv l
@[simp] theorem FZ:nv []=0:=rfl
theorem G8(l m:List Ao):nv (l++m)=nv l+B ^ l.length*nv m:=by
 induction l with
 | nil=>simp
 | cons x l ih =>
  simp only[List.cons_append,nv,ih,Amg,Anc,Nat.mul_add]
  rw[Anb (B ^ l.length) B,Nat.mul_assoc];omega
theorem Il(l:List Ao)(x:Ao):nv (l++[x])=nv l+B ^ l.length*x.toNat:=by rw[G8];simp[nv]
theorem B7(l:List Ao):nv l<B ^ l.length:=by
 induction l with
 | nil=>simp
 | cons x l ih =>
  simp only[nv,Amg,Anc]
  have hx:=Ej x
  have:B*(nv l+1)≤B*B ^ l.length:=Nat.mul_le_mul_left _ ih
  rw[Anb (B ^ l.length) B]
  rw[Nat.mul_add]at this
  omega
theorem W2(l:List Ao)(i:Nat):nv (l.drop i)=nv l / B ^ i:=by
 induction i generalizing l with
 | zero=>simp
 | succ i ih =>
  cases l with
  | nil=>simp
  | cons x l =>
   rw[List.drop_succ_cons,ih,Anc,Anb,← Ane]
   simp only[nv]
   rw[Nat.add_mul_div_left _ _ Bw,Nat.div_eq_of_lt (Ej x),Anl]
theorem Dv(l:List Ao)(i:Nat)(hi:i<l.length):(l[i]).toNat=nv l / B ^ i % B:=by
 rw[← W2,Am2 hi,nv,Nat.add_mul_mod_self_left,Am4 (Ej _)]
theorem FY(l:List Ao)(i:Nat)(hi:l.length≤i):nv l / B ^ i % B=0:=by
 rw[← W2,List.drop_eq_nil_of_le hi];rfl
theorem W3(k:Nat):nv (Amc k 0)=0:=by
 induction k with
 | zero=>rfl
 | succ k ih=>rw[List.replicate_succ,nv,ih];rfl
theorem Q7{out:List Ao}{z i:Nat}{d:Ao}(hl:out.length=i)(h:nv out=z % B ^ i)(hd:d.toNat=z / B ^ i % B):nv (out++[d])=z % B ^ (i+1):=by
 rw[Il,hl,h,hd,Nat.mod_pow_succ]
def lb(n:Nat):List Ao:=if h:n=0 then [] else Amt 32 n::lb (n / B)
termination_by n
decreasing_by exact Nat.div_lt_self (Nat.pos_of_ne_zero h) (by decide)
theorem Ct:lb 0 = []:=by rw[lb];simp
theorem N4{n:Nat}(h:n≠0):lb n=Amt 32 n::lb (n / B):=by rw[lb,dif_neg h]
theorem Bq(n:Nat):nv (lb n)=n:=by
 induction n using Nat.strongRecOn with
 | _ n ih =>
  by_cases h:n=0
  · subst h;rw[Ct];rfl
  · rw[N4 h,nv,ih _ (Nat.div_lt_self (Nat.pos_of_ne_zero h) (by decide)),BitVec.toNat_ofNat]
    exact Nat.mod_add_div n B
theorem A0{n k:Nat} : (lb n).length≤k↔n<B ^ k:=by
 induction k generalizing n with
 | zero =>
  by_cases h:n=0
  · subst h;simp[Ct]
  · rw[N4 h];simp;omega
 | succ k ih =>
  by_cases h:n=0
  · subst h;simp[Ct,Bp]
  · rw[N4 h,Amg,Nat.succ_le_succ_iff,ih,Anj Bw,Anc]
theorem EZ{n:Nat} : lb n = []↔n=0:=by
 constructor
 · intro h;have:=Bq n;rw[h]at this;simpa using this.symm
 · rintro rfl;exact Ct
theorem Gc{n:Nat} : (lb n).length=0↔n=0:=by rw[Am1,EZ]
theorem QC{l:List Ao}(h : ∀ hne:l≠[],l.getLast hne≠0):lb (nv l)=l:=by
 induction l with
 | nil=>simp[Ct]
 | cons x l ih =>
  have ihl:=ih (fun hne=>by have:=h (by simp);rwa[List.getLast_cons hne]at this)
  have hpos:nv (x::l)≠0:=by
   intro h0
   simp only[nv]at h0
   cases l with
   | nil =>
    have:=h (by simp)
    simp only[List.getLast_singleton]at this
    exact this (BitVec.eq_of_toNat_eq (by simp;omega))
   | cons y m =>
    have hv:nv (y::m)=0:=by
     rcases Nat.eq_zero_or_pos (nv (y::m)) with h | h
     · exact h
     · have:=Nat.mul_le_mul_left B h;rw[Ay]at this h0;omega
    rw[hv,Ct]at ihl
    cases ihl
  rw[N4 hpos]
  have e2:nv (x::l) / B=nv l:=by simp only[nv];rw[Nat.add_mul_div_left _ _ Bw,Nat.div_eq_of_lt (Ej x),Anl]
  rw[e2,ihl]
  congr 1
  apply BitVec.eq_of_toNat_eq
  simp only[nv,BitVec.toNat_ofNat]
  show (x.toNat+B*nv l) % B=x.toNat
  rw[Nat.add_mul_mod_self_left,Am4 (Ej x)]
theorem Vz{l:List Ao}{k:Nat}(hk:k≤l.length)(hz : ∀ i,k≤i→(hi:i<l.length)→l[i]=0)(ht : ∀ (hi:k-1<l.length),0<k→l[k-1]≠0):lb (nv l)=l.take k:=by
 have e:nv l=nv (l.take k):=by
  have:=G8 (l.take k) (l.drop k)
  rw[Am6]at this
  have hd:l.drop k=Amc (l.length-k) 0:=by
   apply List.ext_getElem
   · simp
   · intro i h1 h2
     simp only[List.getElem_drop,List.getElem_replicate]
     exact hz _ (by omega) _
  rw[this,hd,W3];simp
 rw[e]
 apply QC
 intro hne
 have hk0:0<k:=by
  rcases Nat.eq_zero_or_pos k with h | h
  · subst h;simp at hne
  · exact h
 rw[List.getLast_eq_getElem]
 simp only[List.getElem_take,Amr]
 have:=ht (by omega) hk0
 have he:min k l.length-1=k-1:=by omega
 simp only[he]
 exact this
theorem BP(x y i:Nat):(x+y) / B ^ i % B=(x / B ^ i % B+y / B ^ i % B+(x % B ^ i+y % B ^ i) / B ^ i) % B:=by
 have h1:(x+y) / B ^ i=x / B ^ i+y / B ^ i+(x % B ^ i+y % B ^ i) / B ^ i:=by
  have hx:=Nat.div_add_mod x (B ^ i)
  have hy:=Nat.div_add_mod y (B ^ i)
  conv=>lhs;rw[← hx,← hy]
  rw[show B ^ i*(x / B ^ i)+x % B ^ i+(B ^ i*(y / B ^ i)+y % B ^ i)=(x % B ^ i+y % B ^ i)+B ^ i*(x / B ^ i+y / B ^ i) by rw[Nat.mul_add];omega,Nat.add_mul_div_left _ _ (Bp i)]
  omega
 rw[h1]
 simp[Nat.add_mod]
theorem BO(x y i:Nat):(x % B ^ (i+1)+y % B ^ (i+1)) / B ^ (i+1)=(x / B ^ i % B+y / B ^ i % B+(x % B ^ i+y % B ^ i) / B ^ i) / B:=by
 rw[Nat.mod_pow_succ,Nat.mod_pow_succ,Anc,← Ane]
 congr 1
 rw[show x % B ^ i+B ^ i*(x / B ^ i % B)+(y % B ^ i+B ^ i*(y / B ^ i % B))=(x % B ^ i+y % B ^ i)+B ^ i*(x / B ^ i % B+y / B ^ i % B) by rw[Nat.mul_add];omega,Nat.add_mul_div_left _ _ (Bp i)]
 omega
theorem V3{x y b:Nat}(h:x / b<y / b):x<y:=by
 rcases Ann x y with h1 | h1
 · exact h1
 · have:=Nat.div_le_div_right (c:=b) h1;omega
theorem Aak{x y:Nat}(h:y≤x)(i:Nat) : ∃ zi c c',zi=(x-y) / B ^ i % B∧c=((x-y) % B ^ i+y % B ^ i) / B ^ i∧c'=((x-y) % B ^ (i+1)+y % B ^ (i+1)) / B ^ (i+1)∧c'≤1∧x / B ^ i % B+B*c'=zi+y / B ^ i % B+c:=by
 refine ⟨_,_,_,rfl,rfl,rfl,?_,?_⟩
 · have h1:=Am5 (x-y) (Bp (i+1))
   have h2:=Am5 y (Bp (i+1))
   have:((x-y) % B ^ (i+1)+y % B ^ (i+1)) / B ^ (i+1)<2:=by rw[Anj (Bp _)];omega
   omega
 · have h1:=BP (x-y) y i
   rw[Nat.sub_add_cancel h]at h1
   rw[BO,h1]
   exact Nat.mod_add_div _ _
theorem Alu(x b i:Nat):(2*x+b) / B ^ i % B=(2*(x / B ^ i % B)+(2*(x % B ^ i)+b) / B ^ i) % B:=by
 have h1:(2*x+b) / B ^ i=2*(x / B ^ i)+(2*(x % B ^ i)+b) / B ^ i:=by
  have hx:=Nat.div_add_mod x (B ^ i)
  conv=>lhs;rw[← hx]
  rw[show 2*(B ^ i*(x / B ^ i)+x % B ^ i)+b=(2*(x % B ^ i)+b)+B ^ i*(2*(x / B ^ i)) by rw[Nat.mul_add,Nat.mul_left_comm];omega,Nat.add_mul_div_left _ _ (Bp i)]
  omega
 rw[h1]
 simp[Nat.add_mod,Nat.mul_mod]
theorem Alt(x b i:Nat):(2*(x % B ^ (i+1))+b) / B ^ (i+1)=(2*(x / B ^ i % B)+(2*(x % B ^ i)+b) / B ^ i) / B:=by
 rw[Nat.mod_pow_succ,Anc,← Ane]
 congr 1
 rw[show 2*(x % B ^ i+B ^ i*(x / B ^ i % B))+b=(2*(x % B ^ i)+b)+B ^ i*(2*(x / B ^ i % B)) by rw[Nat.mul_add,Nat.mul_left_comm];omega,Nat.add_mul_div_left _ _ (Bp i)]
 omega
theorem KL(i:Nat):B ^ i=2 ^ (32*i):=by rw[Nat.pow_mul];rfl
theorem AbI(x i:Nat):x / B ^ (i / 32) % B / 2 ^ (i % 32) % 2=x / 2 ^ i % 2:=by
 have h1:=Nat.toNat_testBit (x / B ^ (i / 32) % B) (i % 32)
 have h2:=Nat.toNat_testBit x i
 rw[← h1,← h2]
 congr 1
 rw[show B=2 ^ 32 from rfl,Nat.testBit_mod_two_pow,← Nat.pow_mul,Nat.testBit_div_two_pow]
 have:i % 32<32:=Am5 _ (by decide)
 simp only[this,decide_true,Bool.true_and]
 congr 1
 omega
theorem AeB{x y:Nat}(h:y≠0)(h2:x % y≠0):2*(y % (x % y))<y:=by
 have h1:=Am5 x (Nat.pos_of_ne_zero h)
 rcases Ann y (2*(x % y)) with h3 | h3
 · have:y % (x % y)=y-x % y:=by
    rw[Nat.mod_eq_sub_mod (by omega),Am4 (by omega)]
   omega
 · have:=Am5 y (Nat.pos_of_ne_zero h2)
   omega
theorem Ea{t:Nat}(h:t<B):D.int (t:Int)=dB (Amt 32 t):=by
 show _=D.int ((Amt 32 t).toNat:Int)
 rw[show (Amt 32 t).toNat=t by rw[BitVec.toNat_ofNat];exact Am4 h]
theorem ofNat_lt{t:Nat}(h:t<B):(Amt 32 t).toNat=t:=by rw[BitVec.toNat_ofNat];exact Am4 h
theorem AaM(k:Nat)(h:k<9223372036854775807):Al6 .i64 (((k+1:Nat):Int)-1)=(k:Int):=by rw[At (by omega) (by omega)];omega
theorem Ua(l:List Ao)(k:Nat):D.sl ((l.map dB).take k)=dL (l.take k):=by rw[dL,List.map_take]
theorem Mo(l:List Ao)(hl:l.length≤1000000):Sp 265 [dL l] [dL (lb (nv l))]:=by
 refine Af (l.length+1) (AhR _ _) ?_
 have:=Ii (P:=Tryz.prog) (md:=md) (fun m k (_:Unit)=>X8 (l.length+1) m (dL l) (k:Int)) (fun _ _=>[dL (lb (nv l))]) (fun k _=>k≤l.length∧∀ i,k≤i→(hi:i<l.length)→l[i]=0)
  (fun m s ⟨h1,h2⟩=>by
   simp only[VY,Bz,Amd,Amr]
   refine Aq (Ad (Ad (Ax (by simp[Aj]) (Ac ?_))))
   rw[Vz (k:=0) (by omega) h2 (fun _ h=>by omega),Ua];rfl)
  (fun m k s ⟨h1,h2⟩ ih=>by
   have hk:l[k]? = some l[k]:=Amb _
   simp only[VY,Bz,Amd,Amr,AaM k (by omega),Amj,As hk,Dc,Cd]
   refine Ad (Ad (Ad (Ae (fun h=> ?_) (fun h=> ?_))))
   · refine ih () ⟨by omega,fun i hi hlt=> ?_⟩
     by_cases he:i=k
     · subst he;exact BitVec.eq_of_toNat_eq (by simp;omega)
     · exact h2 i (by omega) hlt
   · refine Ad (Ad (Ax (by unfold Aj;omega) (Ac ?_)))
     rw[Vz (k:=k+1) (by omega) h2 (fun _ _ hc=>h (by have hc':l[k]=0:=hc;rw[hc'];rfl)),Ua])
  (l.length+1) l.length () (by omega) ⟨Amo _,fun i h1 h2=>by omega⟩
 simpa using this
theorem Ji(l:List Ao)(i:Nat)(hi:i<9223372036854775807):Sp 311 [dL l,.int i] [.int ((nv l / B ^ i % B:Nat):Int)]:=by
 refine Af 0 (AhV _ _ _) ?_
 simp only[Bz,Amd,Al,Amj]
 refine Ae (fun h=> ?_) (fun h=> ?_)
 · have hk:l[i]? = some (l[i]'(by omega)):=Amb _
   refine Ad (Ad (Ac ?_))
   have:=Ej l[i]
   rw[As hk,Dc,Bn (by omega) (by rw[Ay]at this;omega),Dv]
 · refine Ac ?_
   rw[FY _ _ (by omega)];rfl
theorem Rq(a b:List Ao):Sp 310 [dL a,dL b] [.int ((max a.length b.length:Nat):Int)]:=by
 refine Af 0 (AhW _ _ _) ?_
 simp only[Bz,Amd]
 refine Ae (fun h=>Ac ?_) (fun h=>Ac ?_)
 · rw[Nat.max_eq_left (by omega)]
 · rw[Nat.max_eq_right (by omega)]
def Dm(a b:Nat):Int:=if a<b then -1 else if a=b then 0 else 1
theorem VW(a b:List Ao)(ha:a.length≤1000000)(hb:b.length≤1000000):Sp 320 [dL a,dL b] [.int (Dm (nv a) (nv b))]:=by
 refine Af (max a.length b.length+1) (AhN _ _ _) (Aa (Rq a b) ?_)
 simp only[Ag,Al]
 have key:=Ii (P:=Tryz.prog) (md:=md) (fun m k (_:Unit)=>X4 (max a.length b.length+1) m (dL a) (dL b) ((k:Int)-1)) (fun _ _=>[.int (Dm (nv a) (nv b))]) (fun k _=>k≤1000000∧nv a / B ^ k=nv b / B ^ k)
  (fun m s ⟨_,h⟩=>by
   simp only[VV]
   refine Aq (Ac ?_)
   simp at h
   simp[Dm,h])
  (fun m k s ⟨h0,h⟩ ih=>by
   simp only[VV,show ((k+1:Nat):Int)-1=(k:Int) by omega]
   have ea:=Nat.div_add_mod (nv a / B ^ k) B
   have eb:=Nat.div_add_mod (nv b / B ^ k) B
   rw[Ane,← Anc]at ea eb
   rw[h]at ea
   generalize B*(nv b / B ^ (k+1))=q at ea eb
   refine Ad (Aa (Ji a k (by omega)) (Aa (Ji b k (by omega)) ?_))
   simp only[Ag,Al]
   refine Ae (fun h'=>Ac ?_) (fun h'=>Aa (Ji a k (by omega)) (Aa (Ji b k (by omega)) ?_))
   · have hlt:=V3 (show nv a / B ^ k<nv b / B ^ k by omega)
     simp only[Dm];rw[if_pos hlt]
   · simp only[Ag,Al]
     refine Ae (fun h2=>Ac ?_) (fun h2=> ?_)
     · have hlt:=V3 (show nv b / B ^ k<nv a / B ^ k by omega)
       simp only[Dm];rw[if_neg (by omega),if_neg (by omega)]
     · rw[At (by omega) (by omega)]
       exact ih () ⟨by omega,by omega⟩)
  (max a.length b.length+1) (max a.length b.length) () (by omega) ⟨by omega,by
   rw[Nat.div_eq_of_lt,Nat.div_eq_of_lt]
   · exact Am_ (B7 b) (Nat.pow_le_pow_right Bw (Nat.le_max_right _ _))
   · exact Am_ (B7 a) (Nat.pow_le_pow_right Bw (Nat.le_max_left _ _))⟩
 rw[At (by omega) (by omega)]
 exact key
theorem VT(a b:List Ao)(ha:a.length≤100000)(hb:b.length≤100000):Sp 268 [dL a,dL b] [dL (lb (nv a+nv b))]:=by
 refine Af (max a.length b.length+3) (AhK _ _ _) ?_
 have hmx:max a.length b.length≤100000:=by omega
 have hlt:nv a+nv b<B ^ (max a.length b.length+1):=by
  have h1:nv a<B ^ max a.length b.length:=Am_ (B7 a) (Nat.pow_le_pow_right Bw (Nat.le_max_left _ _))
  have h2:nv b<B ^ max a.length b.length:=Am_ (B7 b) (Nat.pow_le_pow_right Bw (Nat.le_max_right _ _))
  rw[Anc,Ay];rw[Ay]at h1 h2;omega
 have key:=Cw (max a.length b.length+1) (fun m k (s:List Ao×Nat)=>Xy (max a.length b.length+3) m (dL a) (dL b) (s.1.map dB) (s.2:Int) (k:Int)) (fun _ _=>[dL (lb (nv a+nv b))])
  (fun k s=>s.1.length=k∧nv s.1=(nv a+nv b) % B ^ k∧s.2=(nv a % B ^ k+nv b % B ^ k) / B ^ k)
  (fun m s ⟨h1,h2,h3⟩=>by
   simp only[VS]
   refine Aa (Rq a b) ?_
   simp only[Ag,Al]
   refine Aq (Aa (Mo s.1 (by omega)) (Ac ?_))
   rw[h2,Am4 hlt];rfl)
  (fun m k s hk ⟨h1,h2,h3⟩ ih=>by
   simp only[VS]
   refine Aa (Rq a b) ?_
   simp only[Ag,Al]
   refine Ad (Aa (Ji a k (by omega)) (Aa (Ji b k (by omega)) ?_))
   simp only[Ag,Al]
   have hd:=BP (nv a) (nv b) k
   have hc:=BO (nv a) (nv b) k
   have la:=Am5 (nv a / B ^ k) Bw
   have lb':=Am5 (nv b / B ^ k) Bw
   have lc:s.2≤1:=by
    rw[h3]
    have r1:=Am5 (nv a) (Bp k)
    have r2:=Am5 (nv b) (Bp k)
    have:(nv a % B ^ k+nv b % B ^ k) / B ^ k<2:=by rw[Anj (Bp k)];omega
    omega
   rw[← h3]at hd hc
   generalize nv a / B ^ k % B=x at *
   generalize nv b / B ^ k % B=y at *
   have hB:=Ay
   rw[show (x+y+s.2) / B=(x+y+s.2) / 4294967296 from rfl]at hc
   have t1:Al6 .u64 (Al6 .u64 ((x:Int)+(y:Int))+(s.2:Int))=((x+y+s.2:Nat):Int):=by
    rw[Bn (x:=(x:Int)+y) (by omega) (by omega),Bn (by omega) (by omega)];omega
   rw[t1,Int.tmod_eq_emod_of_nonneg (by omega),Int.tdiv_eq_ediv_of_nonneg (by omega),show (((x+y+s.2:Nat):Int) % 4294967296)=(((x+y+s.2) % B:Nat):Int) by rw[Ay];omega,
    show (((x+y+s.2:Nat):Int) / 4294967296)=(((x+y+s.2) / 4294967296:Nat):Int) by omega]
   have hm:=Am5 (x+y+s.2) Bw
   rw[E6 (x:=(((x+y+s.2) % B:Nat):Int)) (by omega) (by generalize (x+y+s.2) % B=z at *; omega),Bn (x:=(((x+y+s.2) / 4294967296:Nat):Int)) (by omega) (by omega),D0 (by omega),Ea hm]
   simp only[Amd,List.length_singleton]
   refine Bi (by decide) (Ax (by unfold Aj;omega) (Bi (by decide) ?_))
   have:=ih (s.1++[Amt 32 ((x+y+s.2) % B)],(x+y+s.2) / 4294967296) ⟨by simp[h1],Q7 h1 h2 (by rw[ofNat_lt hm,hd]),by rw[hc]⟩
   simpa using this)
  (max a.length b.length+3) 0 ([],0) (by omega) (by omega) ⟨rfl,by simp[Nat.mod_one],by simp[Nat.mod_one]⟩
 exact key
theorem AkG{x y zi c c':Nat}(hx:x<B)(hy:y<B)(hz:zi<B)(hc:c≤1)(hc':c'≤1)(e:x+B*c'=zi+y+c) :
  Al6 .u32 (Int.tmod (Al6 .u64 (Al6 .u64 (Al6 .u64 (4294967296+(x:Int))-(y:Int))-(c:Int))) 4294967296)=(zi:Int) ∧
  Al6 .u64 (1-Al6 .u64 (Int.tdiv (Al6 .u64 (Al6 .u64 (Al6 .u64 (4294967296+(x:Int))-(y:Int))-(c:Int))) 4294967296))=(c':Int):=by
 rw[Ay]at hx hy hz e
 have t1:Al6 .u64 (Al6 .u64 (Al6 .u64 (4294967296+(x:Int))-(y:Int))-(c:Int))=(zi:Int)+4294967296*(1-(c':Int)):=by
  rw[Bn (x:=4294967296+(x:Int)) (by omega) (by omega),Bn (x:=4294967296+(x:Int)-y) (by omega) (by omega),Bn (by omega) (by omega)];omega
 rw[t1,Int.tmod_eq_emod_of_nonneg (by omega),Int.tdiv_eq_ediv_of_nonneg (by omega),show ((zi:Int)+4294967296*(1-(c':Int))) % 4294967296=(zi:Int) by omega,show ((zi:Int)+4294967296*(1-(c':Int))) / 4294967296=1-(c':Int) by omega]
 rw[E6 (x:=(zi:Int)) (by omega) (by omega),Bn (x:=1-(c':Int)) (by omega) (by omega),show (1:Int)-(1-(c':Int))=(c':Int) by omega,Bn (x:=(c':Int)) (by omega) (by omega)]
 exact ⟨rfl,rfl⟩
theorem II(a b:List Ao)(ha:a.length≤100000)(hb:b.length≤100000):Sp 297 [dL a,dL b] [dL (lb (nv a-nv b)),.bool (decide (nv b≤nv a))]:=by
 refine Af (max a.length b.length+3) (AhU _ _ _) (Aa (VW a b (by omega) (by omega)) ?_)
 have hmx:max a.length b.length≤100000:=by omega
 simp only[Ag,Al]
 refine Ae (fun h=>Ac ?_) (fun h=> ?_)
 · have hlt:nv a<nv b:=by
    unfold Dm at h
    rcases Ann (nv a) (nv b) with h1 | h1
    · exact h1
    · rw[if_neg (by omega)]at h;split at h <;> omega
   rw[Nat.sub_eq_zero_of_le (by omega),Ct,decide_eq_false (by omega)];rfl
 · have hge:nv b≤nv a:=by
    unfold Dm at h
    rcases Ann (nv a) (nv b) with h1 | h1
    · rw[if_pos h1]at h;omega
    · exact h1
   rw[decide_eq_true hge]
   have hlt:nv a-nv b<B ^ max a.length b.length:=by
    have h1:nv a<B ^ max a.length b.length:=Am_ (B7 a) (Nat.pow_le_pow_right Bw (Nat.le_max_left _ _))
    omega
   have key:=Cw (max a.length b.length) (fun m k (s:List Ao×Nat)=>Yb (max a.length b.length+3) m (dL a) (dL b) (s.1.map dB) (s.2:Int) (k:Int)) (fun _ _=>[dL (lb (nv a-nv b)),.bool true])
    (fun k s=>s.1.length=k∧nv s.1=(nv a-nv b) % B ^ k∧s.2=((nv a-nv b) % B ^ k+nv b % B ^ k) / B ^ k)
    (fun m s ⟨h1,h2,h3⟩=>by
     simp only[WA]
     refine Aa (Rq a b) ?_
     simp only[Ag,Al]
     refine Aq (Aa (Mo s.1 (by omega)) (Ac ?_))
     rw[h2,Am4 hlt];rfl)
    (fun m k s hk ⟨h1,h2,h3⟩ ih=>by
     simp only[WA]
     refine Aa (Rq a b) ?_
     simp only[Ag,Al]
     refine Ad (Aa (Ji a k (by omega)) (Aa (Ji b k (by omega)) ?_))
     simp only[Ag,Al]
     obtain ⟨zi,c,c',e1,e2,e3,e4,e5⟩:=Aak hge k
     have la:=Am5 (nv a / B ^ k) Bw
     have lb':=Am5 (nv b / B ^ k) Bw
     have lz:=Am5 ((nv a-nv b) / B ^ k) Bw
     rw[← e1]at lz
     rw[← e2]at h3
     have hB:=Ay
     have lc:c≤1:=by
      rw[e2]
      have r1:=Am5 (nv a-nv b) (Bp k)
      have r2:=Am5 (nv b) (Bp k)
      have:((nv a-nv b) % B ^ k+nv b % B ^ k) / B ^ k<2:=by rw[Anj (Bp k)];omega
      omega
     rw[h3]
     generalize nv a / B ^ k % B=x at *
     generalize nv b / B ^ k % B=y at *
     obtain ⟨t1,t2⟩:=AkG la lb' lz lc e4 e5
     rw[t1,t2,D0 (by omega),Ea lz]
     simp only[Amd,List.length_singleton]
     refine Bi (by decide) (Ax (by unfold Aj;omega) (Bi (by decide) ?_))
     have:=ih (s.1++[Amt 32 zi],c') ⟨by simp[h1],Q7 h1 h2 (by rw[ofNat_lt lz,e1]),e3⟩
     simpa using this)
    (max a.length b.length+3) 0 ([],0) (by omega) (by omega) ⟨rfl,by simp[Nat.mod_one],by simp[Nat.mod_one]⟩
   exact key
theorem IJ(a:List Ao)(b:Nat)(hb:b≤1)(ha:a.length≤100000):Sp 295 [dL a,.int b] [dL (lb (2*nv a+b))]:=by
 refine Af (a.length+3) (AhX _ _ _) ?_
 have hlt:2*nv a+b<B ^ (a.length+1):=by
  have:=B7 a
  rw[Anc,Ay];rw[Ay]at this;omega
 have key:=Cw (a.length+1) (fun m k (s:List Ao×Nat)=>Yd (a.length+3) m (dL a) (s.1.map dB) (s.2:Int) (k:Int)) (fun _ _=>[dL (lb (2*nv a+b))])
  (fun k s=>s.1.length=k∧nv s.1=(2*nv a+b) % B ^ k∧s.2=(2*(nv a % B ^ k)+b) / B ^ k)
  (fun m s ⟨h1,h2,h3⟩=>by
   simp only[WB,Bz,Amd]
   refine Aq (Aa (Mo s.1 (by omega)) (Ac ?_))
   rw[h2,Am4 hlt];rfl)
  (fun m k s hk ⟨h1,h2,h3⟩ ih=>by
   simp only[WB,Bz,Amd]
   refine Ad (Aa (Ji a k (by omega)) ?_)
   simp only[Ag,Al]
   have hd:=Alu (nv a) b k
   have hc:=Alt (nv a) b k
   have la:=Am5 (nv a / B ^ k) Bw
   have hB:=Ay
   have lc:s.2≤1:=by
    rw[h3]
    have r1:=Am5 (nv a) (Bp k)
    have:(2*(nv a % B ^ k)+b) / B ^ k<2:=by rw[Anj (Bp k)];omega
    omega
   rw[← h3]at hd hc
   generalize nv a / B ^ k % B=x at *
   rw[show (2*x+s.2) / B=(2*x+s.2) / 4294967296 from rfl]at hc
   have t1:Al6 .u64 (Al6 .u64 (2*(x:Int))+(s.2:Int))=((2*x+s.2:Nat):Int):=by
    rw[Bn (x:=2*(x:Int)) (by omega) (by omega),Bn (by omega) (by omega)];omega
   rw[t1,Int.tmod_eq_emod_of_nonneg (by omega),Int.tdiv_eq_ediv_of_nonneg (by omega),show (((2*x+s.2:Nat):Int) % 4294967296)=(((2*x+s.2) % B:Nat):Int) by rw[Ay];omega,
    show (((2*x+s.2:Nat):Int) / 4294967296)=(((2*x+s.2) / 4294967296:Nat):Int) by omega]
   have hm:=Am5 (2*x+s.2) Bw
   rw[E6 (x:=(((2*x+s.2) % B:Nat):Int)) (by omega) (by generalize (2*x+s.2) % B=z at *; omega),Bn (x:=(((2*x+s.2) / 4294967296:Nat):Int)) (by omega) (by omega),D0 (by omega),Ea hm]
   simp only[List.length_singleton]
   refine Bi (by decide) (Ax (by unfold Aj;omega) (Bi (by decide) ?_))
   have:=ih (s.1++[Amt 32 ((2*x+s.2) % B)],(2*x+s.2) / 4294967296) ⟨by simp[h1],Q7 h1 h2 (by rw[ofNat_lt hm,hd]),by rw[hc]⟩
   simpa using this)
  (a.length+3) 0 ([],b) (by omega) (by omega) ⟨rfl,by simp[Nat.mod_one],by simp[Nat.mod_one]⟩
 simp only[Al]
 rw[Bn (by omega) (by omega)]
 exact key
theorem AhL(a:List Ao)(i:Nat)(hi:i<9223372036854775807):Sp 296 [dL a,.int i] [.int ((nv a / 2 ^ i % 2:Nat):Int)]:=by
 refine Af 40 (AhM _ _ _) (Bi (by decide) ?_)
 simp only[Al]
 rw[Int.tdiv_eq_ediv_of_nonneg (by omega),show (i:Int) / 32=((i / 32:Nat):Int) by omega,At (by omega) (by omega)]
 refine Aa (Ji a (i / 32) (by omega)) ?_
 simp only[Ag,Al]
 have hm:Int.tmod (i:Int) 32=((i % 32:Nat):Int):=by rw[Int.tmod_eq_emod_of_nonneg (by omega)];omega
 have key:=Cw (i % 32) (fun m k (v:Nat)=>X0 40 m (i:Int) (v:Int) (k:Int)) (fun k v=>[.int ((v / 2 ^ (i % 32-k) % 2:Nat):Int)]) (fun _ v=>v<4294967296)
  (fun m v hv=>by
   simp only[VU,hm]
   refine Bi (by decide) (Aq (Bi (by decide) (Ac ?_)))
   rw[Int.tmod_eq_emod_of_nonneg (by omega),show (v:Int) % 2=((v % 2:Nat):Int) by omega,E6 (by omega) (by omega)]
   simp)
  (fun m k v hk hv ih=>by
   simp only[VU,hm]
   refine Bi (by decide) (Ad (Bi (by decide) ?_))
   rw[D0 (by omega),Int.tdiv_eq_ediv_of_nonneg (by omega),show (v:Int) / 2=((v / 2:Nat):Int) by omega,Bn (by omega) (by omega)]
   have:=ih (v / 2) (by omega)
   rw[show i % 32-k=(i % 32-(k+1))+1 by omega,Anc,Anb,← Ane]
   exact this)
  40 0 (nv a / B ^ (i / 32) % B) (by omega) (by omega) (Am5 _ Bw)
 rw[Nat.sub_zero,AbI]at key
 exact key
theorem IF(a b:List Ao)(ha:a.length≤10000)(hb:b.length≤10000):Sp 244 [dL a,dL b] [dL (lb (nv a / nv b)),dL (lb (if nv b=0 then 0 else nv a % nv b)),.bool (decide (nv b≠0))]:=by
 refine Af (32*a.length+1) (AhO _ _ _) (Aa (Mo b (by omega)) ?_)
 simp only[Ag,Bz,Amd,Cd]
 refine Ae (fun h=>Ac ?_) (fun h=> ?_)
 · have h0:nv b=0:=Gc.1 (by omega)
   simp[h0,Ct,dL]
 · have h0:nv b≠0:=fun hh=>h (by rw[hh,Ct];rfl)
   rw[decide_eq_true h0,if_neg h0]
   have key:=Ii (P:=Tryz.prog) (md:=md) (fun m k (s:Nat×Nat)=>Rp (32*a.length+1) m (dL a) (dL b) (dL (lb s.1)) (dL (lb s.2)) ((k:Int)-1)) (fun _ _=>[dL (lb (nv a / nv b)),dL (lb (nv a % nv b)),.bool true])
    (fun k s=>k≤320000∧nv a / 2 ^ k=nv b*s.1+s.2∧s.2<nv b)
    (fun m s ⟨_,h1,h2⟩=>by
     simp only[VX]
     refine Aq (Ac ?_)
     simp only[Nat.pow_zero,Nat.div_one]at h1
     rw[h1,Nat.mul_add_div (Nat.pos_of_ne_zero h0),Nat.div_eq_of_lt h2,Nat.mul_add_mod,Am4 h2];simp)
    (fun m k s ⟨hk,h1,h2⟩ ih=>by
     simp only[VX,show ((k+1:Nat):Int)-1=(k:Int) by omega]
     have hr:(lb s.2).length≤b.length:=A0.2 (Nat.lt_trans h2 (B7 b))
     have hq:(lb s.1).length≤a.length:=by
       refine A0.2 (Nat.lt_of_le_of_lt ?_ (B7 a))
       have h3:nv a / 2 ^ (k+1)≤nv a:=Nat.div_le_self _ _
       have h4:=Nat.le_mul_of_pos_left s.1 (Nat.pos_of_ne_zero h0)
       omega
     have hbit:nv a / 2 ^ k % 2≤1:=by omega
     have hdec:nv a / 2 ^ k=2*(nv a / 2 ^ (k+1))+nv a / 2 ^ k % 2:=by
       rw[Anc,← Ane];omega
     generalize hbt:nv a / 2 ^ k % 2=bt at *
     have hlen2:(lb (2*s.2+bt)).length≤b.length+1:=by
       refine A0.2 ?_
       have:=B7 b
       rw[Anc,Ay];rw[Ay]at this;omega
     have sp1:=AhL a k (by omega)
     rw[hbt]at sp1
     refine Ad (Aa sp1 ?_)
     simp only[Ag,Al]
     refine Aa (IJ (lb s.2) bt hbit (by omega)) ?_
     simp only[Ag,Bq]
     refine Aa (II (lb (2*s.2+bt)) b (by omega) (by omega)) ?_
     simp only[Ag,Cm,Az,Bq]
     refine Ae (fun h3=> ?_) (fun h3=> ?_)
     · refine Aa (IJ (lb s.1) 1 (by omega) (by omega)) ?_
       simp only[Ag,Bq]
       rw[At (by omega) (by omega)]
       refine ih (2*s.1+1,2*s.2+bt-nv b) ⟨by omega,?_,by simp only;omega⟩
       simp only
       rw[hdec,h1,Nat.mul_add,Nat.mul_add,Nat.mul_left_comm];omega
     · refine Aa (IJ (lb s.1) 0 (by omega) (by omega)) ?_
       simp only[Ag,Bq]
       rw[At (by omega) (by omega)]
       refine ih (2*s.1+0,2*s.2+bt) ⟨by omega,?_,by simp only;omega⟩
       simp only
       rw[hdec,h1,Nat.mul_add,Nat.add_zero,Nat.mul_left_comm];omega)
    (32*a.length+1) (32*a.length) (0,0) (by omega) ⟨by omega,by
     rw[← KL,Nat.div_eq_of_lt (B7 a)];rfl,Nat.pos_of_ne_zero h0⟩
   rw[At (x:=32*(a.length:Int)) (by omega) (by omega),At (by omega) (by omega)]
   simp only[Ct]at key
   exact key
theorem AhP(a b:List Ao)(ha:a.length≤1000)(hb:b.length≤1000):Sp 243 [dL a,dL b] [dL (lb (Nat.gcd (nv a) (nv b)))]:=by
 obtain ⟨K,hK⟩ : ∃ K,K=1000:=⟨_,rfl⟩
 obtain ⟨J,hJ⟩ : ∃ J,J=32000:=⟨_,rfl⟩
 refine Af 100001 (AhQ _ _ _) (Aa (Mo a (by omega)) (Aa (Mo b (by omega)) ?_))
 simp only[Ag]
 have key : ∀ (j k m x y:Nat),(lb x).length≤K→(lb y).length≤K→y<2 ^ j→k+2*j+2≤99000→2*j+1<m→Tw (Mn 100001 m (dL (lb x)) (dL (lb y)) (k:Int)) [dL (lb (Nat.gcd x y))]:=by
  intro j
  induction j with
  | zero =>
   intro k m x y _ _ hy hk hm
   obtain ⟨m,rfl⟩ : ∃ m',m=m'+1:=⟨m-1,by omega⟩
   have:y=0:=by simpa using hy
   subst this
   simp only[IG,Bz,Amd,Ct,Amu]
   refine Ad (Aq (Ac ?_))
   rw[Nat.gcd_zero_right]
  | succ j ih =>
   intro k m x y hx hy hlt hk hm
   have stop : ∀ (k m x:Nat),k<100000→0<m→Tw (Mn 100001 m (dL (lb x)) (dL (lb 0)) (k:Int)) [dL (lb (Nat.gcd x 0))]:=by
     intro k m x hk hm
     obtain ⟨m,rfl⟩ : ∃ m',m=m'+1:=⟨m-1,by omega⟩
     simp only[IG,Bz,Amd,Ct,Amu]
     refine Ad (Aq (Ac ?_))
     rw[Nat.gcd_zero_right]
   have step : ∀ (k m x y:Nat),k<100000→(lb x).length≤K→(lb y).length≤K→y≠0→Tw (Mn 100001 m (dL (lb y)) (dL (lb (x % y))) ((k+1:Nat):Int)) [dL (lb (Nat.gcd y (x % y)))]→Tw (Mn 100001 (m+1) (dL (lb x)) (dL (lb y)) (k:Int)) [dL (lb (Nat.gcd x y))]:=by
     intro k m x y hk hx hy h0 hw
     simp only[Tw,IG,Bz,Amd]
     have hne:(lb y).length≠0:=fun hh=>h0 (Gc.1 hh)
     have sp:=IF (lb x) (lb y) (by omega) (by omega)
     rw[Bq,Bq,if_neg h0]at sp
     refine Ad (Ad (Aa sp ?_))
     simp only[Cm]
     rw[D0 (by omega),Nat.gcd_comm x y,Nat.gcd_rec,Nat.gcd_comm]
     exact hw
   by_cases h0:y=0
   · subst h0;exact stop k m x (by omega) (by omega)
   · obtain ⟨m,rfl⟩ : ∃ m',m=m'+2:=⟨m-2,by omega⟩
     have hl1:(lb (x % y)).length≤K:=A0.2 (Nat.lt_of_le_of_lt (Nat.le_of_lt (Am5 x (Nat.pos_of_ne_zero h0))) (A0.1 hy))
     refine step k (m+1) x y (by omega) hx hy h0 ?_
     by_cases h1:x % y=0
     · rw[h1];exact stop (k+1) (m+1) y (by omega) (by omega)
     · refine step (k+1) m y (x % y) (by omega) hy hl1 h1 ?_
       have hh:=AeB h0 h1
       refine ih (k+1+1) m (x % y) (y % (x % y)) hl1 (A0.2 (Nat.lt_trans (Am5 y (Nat.pos_of_ne_zero h1)) (A0.1 hl1))) ?_ (by omega) (by omega)
       rw[Anc]at hlt;omega
 have h1:(lb (nv a)).length≤K:=Nat.le_trans (A0.2 (B7 a)) (by omega)
 have h2:(lb (nv b)).length≤K:=Nat.le_trans (A0.2 (B7 b)) (by omega)
 have hlt:nv b<2 ^ J:=by
  refine Am_ (B7 b) ?_
  rw[KL]
  exact Nat.pow_le_pow_right (by decide) (by omega)
 exact key J 0 100001 _ _ h1 h2 hlt (by omega) (by omega)
theorem Ul{α:Type} [DecidableEq α] {P:Program}{md:Nat→FMode}(f:α→D)(hf : ∀ x y,(f x).toInt=(f y).toInt→x=y)(a b:List α)(hlen:a.length=b.length)(hbig:a.length≤9223372036854775807)(L:Nat→Int→Tree)
  (hL : ∀ m i,L (m+1) i = .br (decide (i<((a.map f).length:Int))) (.br (decide (0≤i)) (.br (decide (i<((a.map f).length:Int))) (.br (decide (0≤i)) (.br (decide (i<((b.map f).length:Int)))
   (.br ((((a.map f).getD (Ama i) D.nil).toInt)!=(((b.map f).getD (Ama i) D.nil).toInt)) (.ret [D.bool false]) (L m (Al6 .i64 (i+1)))) .fail) .fail) .fail) .fail) (.ret [D.bool true])) :
  (L (a.length+1) 0).wp P md (fun zs=>zs = [.bool (decide (a=b))]):=by
 have key:=V2 (P:=P) (md:=md) a.length (fun m k (_:Unit)=>L m (k:Int)) (fun _ _=>[.bool (decide (a=b))]) (fun k _=>a.take k=b.take k)
  (fun m s h=>by
   simp only[hL,Amd]
   refine Aq (Ac ?_)
   rw[Am7 (Amo _),Am7 (by omega)]at h
   rw[decide_eq_true h])
  (fun m k s hk h ih=>by
   have ha:a[k]? = some a[k]:=Amb _
   have hb:b[k]? = some (b[k]'(by omega)):=Amb _
   simp only[hL,Amd,Amj,As ha,As hb,C0]
   refine Ad (Ad (Ad (Ad (Ad (Ae (fun hne=>Ac ?_) (fun heq=> ?_))))))
   · rw[decide_eq_false]
     rintro rfl
     exact hne rfl
   · rw[D0 (by omega)]
     refine ih () ?_
     have:a[k]=b[k]:=hf _ _ (Amn.1 heq)
     rw[List.take_succ_eq_append_getElem hk,List.take_succ_eq_append_getElem (by omega),h,this])
  (a.length+1) 0 () (by omega) (by omega) (by simp)
 exact key
theorem NA{k:Nat}(x y:BitVec k)(h:(dB x).toInt=(dB y).toInt):x=y:=BitVec.eq_of_toNat_eq (Int.ofNat.inj h)
theorem NH(x y:Int)(h:(D.int x).toInt=(D.int y).toInt):x=y:=h
theorem VZ(a b:List Ao)(ha:a.length≤9223372036854775807):Sp 211 [dL a,dL b] [.bool (decide (a=b))]:=by
 refine Af (a.length+1) (AhT _ _ _) ?_
 simp only[Bz,Amd,C0]
 refine Ae (fun h=>Ac ?_) (fun h=> ?_)
 · rw[decide_eq_false];rintro rfl;exact h rfl
 · exact Ul dB NA a b (by omega) ha (fun m i=>X_ (a.length+1) m (dL a) (dL b) i) (fun m i=>AhS _ _ _ _ _)
structure Wh where
 neg:Bool
 mag:List Ao
def dW(w:Wh):D:= .agg [.bool w.neg,dL w.mag]
def zv(w:Wh):Int:=if w.neg then -(nv w.mag:Int) else (nv w.mag:Int)
def wz(z:Int):Wh:=⟨decide (z<0),lb z.natAbs⟩
@[simp] theorem E9 (w:Wh):(dW w).fld 0 = .bool w.neg:=rfl
@[simp] theorem Ev (w:Wh):(dW w).fld 1=dL w.mag:=rfl
theorem Ac8(b:Bool)(l:List Ao):D.agg [.bool b,dL l]=dW ⟨b,l⟩:=rfl
theorem Ub:D.agg [.bool false,.sl []]=dW (wz 0):=by simp[dW,wz,Ct,dL]
theorem Ko(w:Wh):(zv w).natAbs=nv w.mag:=by unfold zv;split <;> omega
theorem He(w:Wh):(lb (zv w).natAbs).length≤w.mag.length:=by rw[Ko];exact A0.2 (B7 _)
theorem Cy(z:Int):zv (wz z)=z:=by
 unfold zv wz
 simp only[Bq,decide_eq_true_eq]
 split <;> omega
theorem Sv(b:Bool)(n:Nat):zv ⟨b,lb n⟩=if b then -(n:Int) else (n:Int):=by simp only[zv,Bq]
theorem AlP:wz 0=⟨false,[]⟩:=by simp[wz,Ct]
theorem AaN(b:Bool){n:Nat}(h:n≠0):wz (if b then -(n:Int) else (n:Int))=⟨b,lb n⟩:=by
 cases b <;> simp[wz] <;> omega
theorem AaO(w:Wh):wz (zv w)=if nv w.mag=0 then ⟨false,[]⟩ else ⟨w.neg,lb (nv w.mag)⟩:=by
 split
 · rename_i h
   unfold zv;rw[h];simp[AlP]
 · rename_i h
   unfold zv
   exact AaN _ h
theorem Ps(a b:Bool):(a == b)=decide (a=b):=by cases a <;> cases b <;> rfl
def Bc(z:Int):Prop:= -9223372036854775808≤z∧z≤9223372036854775807
instance (z:Int):Decidable (Bc z):=by unfold Bc;infer_instance
def Fp(z:Int):List D:=if Bc z then [.int z,.bool true] else [.int 0,.bool false]
def Ff(z:Int):Int:=if z<0 then -1 else if z=0 then 0 else 1
def Ch(x y:Int):Int:=if x<y then -1 else if x=y then 0 else 1
theorem Fy(w:Wh)(h:w.mag.length≤1000000):Sp 223 [dW w] [dW (wz (zv w))]:=by
 refine Af 0 (Aid _ _) (Aa (Mo w.mag h) ?_)
 simp only[Ag,Bz,Amd,Cd,E9,Az]
 refine Ae (fun h=>Ac ?_) (fun h=>Ac ?_)
 · have h0:nv w.mag=0:=Gc.1 (by omega)
   rw[AaO,if_pos h0];rfl
 · have h0:nv w.mag≠0:=fun hh=>h (by rw[hh,Ct];rfl)
   rw[AaO,if_neg h0];rfl
theorem Sh{n:Nat}(h:n<18446744073709551616):nv [Amt 32 (n % 4294967296),Amt 32 (n / 4294967296)]=n:=by
 simp only[nv,FZ]
 rw[ofNat_lt (by rw[Ay];omega),ofNat_lt (by rw[Ay];omega),Ay];omega
theorem IK(z:Int)(h:Bc z):Sp 225 [.int z] [dW (wz z)]:=by
 unfold Bc at h
 refine Af 0 (Aie _ _) ?_
 simp only[Al]
 refine Ae (fun h0=> ?_) (fun h0=> ?_)
 · obtain ⟨n,rfl⟩ : ∃ n:Nat,z=n:=⟨z.toNat,by omega⟩
   have e : [D.int (Al6 .u32 (Int.tmod (n:Int) 4294967296)),D.int (Al6 .u32 (Al6 .i64 (Int.tdiv (n:Int) 4294967296)))] = [Amt 32 (n % 4294967296),Amt 32 (n / 4294967296)].map dB:=by
    rw[Int.tmod_eq_emod_of_nonneg (by omega),Int.tdiv_eq_ediv_of_nonneg (by omega),show (n:Int) % 4294967296=((n % 4294967296:Nat):Int) by omega,show (n:Int) / 4294967296=((n / 4294967296:Nat):Int) by omega,
     At (by omega) (by omega),E6 (by omega) (by omega),E6 (by omega) (by omega),Ea (by rw[Ay];omega),Ea (by rw[Ay];omega)];rfl
   rw[e]
   have hv:=Sh (n:=n) (by omega)
   refine Bi (by decide) (Bi (by decide) (Aa (Fy ⟨false,[Amt 32 (n % 4294967296),Amt 32 (n / 4294967296)]⟩ (by simp)) (Ac ?_)))
   simp only[Ag,zv,hv];rfl
 · obtain ⟨n,rfl⟩ : ∃ n:Nat,z = -1-(n:Int):=⟨(-1-z).toNat,by omega⟩
   have e : [D.int (Al6 .u32 (Int.tmod (Al6 .i64 (-1-(-1-(n:Int)))) 4294967296)),D.int (Al6 .u32 (Al6 .i64 (Int.tdiv (Al6 .i64 (-1-(-1-(n:Int)))) 4294967296)))] = [Amt 32 (n % 4294967296),Amt 32 (n / 4294967296)].map dB:=by
    rw[show (-1:Int)-(-1-(n:Int))=(n:Int) by omega,At (x:=(n:Int)) (by omega) (by omega),Int.tmod_eq_emod_of_nonneg (by omega),Int.tdiv_eq_ediv_of_nonneg (by omega),show (n:Int) % 4294967296=((n % 4294967296:Nat):Int) by omega,show (n:Int) / 4294967296=((n / 4294967296:Nat):Int) by omega,
     At (by omega) (by omega),E6 (by omega) (by omega),E6 (by omega) (by omega),Ea (by rw[Ay];omega),Ea (by rw[Ay];omega)];rfl
   rw[e]
   have hv:=Sh (n:=n) (by omega)
   have sp:=VT [Amt 32 (n % 4294967296),Amt 32 (n / 4294967296)] [1] (by simp) (by simp)
   rw[hv,show nv [1]=1 from rfl]at sp
   refine Bi (by decide) (Bi (by decide) (Aa sp ?_))
   simp only[Ag]
   have hl:(lb (n+1)).length≤3:=A0.2 (by show n+1<79228162514264337593543950336;omega)
   refine Aa (Fy ⟨true,lb (n+1)⟩ (by simp only;omega)) (Ac ?_)
   simp only[Ag,Sv,if_true]
   rw[show -((n+1:Nat):Int) = -1-(n:Int) by omega]
theorem Aib(w:Wh)(h:w.mag.length≤1000000):Sp 309 [dW w] [dW (wz (-zv w))]:=by
 refine Af 0 (Aic _ _) ?_
 simp only[E9,Ev,Az]
 refine Aa (Fy ⟨!w.neg,w.mag⟩ h) (Ac ?_)
 simp only[Ag]
 rw[show zv ⟨!w.neg,w.mag⟩ = -zv w by unfold zv;cases w.neg <;> simp]
theorem AhY(a b:Wh)(ha:a.mag.length≤10000)(hb:b.mag.length≤10000):Sp 308 [dW a,dW b] [dW (wz (zv a+zv b))]:=by
 refine Af 0 (AhZ _ _ _) (Aa (Fy a (by omega)) (Aa (Fy b (by omega)) ?_))
 have la:=He a
 have lb':=He b
 generalize zv a=x at *
 generalize zv b=y at *
 simp only[Ag,E9,Ev,Az,Ps,wz]
 have hadd:(lb (x.natAbs+y.natAbs)).length≤10001:=by
   refine A0.2 ?_
   have h1:=A0.1 (Nat.le_trans la ha)
   have h2:=A0.1 (Nat.le_trans lb' hb)
   obtain ⟨K,hK⟩ : ∃ K,K=10000:=⟨_,rfl⟩
   rw[← hK]at h1 h2
   rw[show 10001=K+1 by omega,Anc,Ay]
   rw[Ay]at h1 h2
   omega
 have hsub : ∀ p q:Nat,(lb p).length≤10000→(lb (p-q)).length≤10000:=fun p q hp=>by
   obtain ⟨K,hK⟩ : ∃ K,K=10000:=⟨_,rfl⟩
   rw[← hK]at hp ⊢
   exact A0.2 (Nat.lt_of_le_of_lt (Nat.sub_le _ _) (A0.1 hp))
 refine Ae (fun h=> ?_) (fun h=> ?_)
 · have sp:=VT (lb x.natAbs) (lb y.natAbs) (by omega) (by omega)
   rw[Bq,Bq]at sp
   refine Aa sp ?_
   simp only[Ag]
   refine Aa (Fy ⟨decide (x<0),lb (x.natAbs+y.natAbs)⟩ (by simp only;omega)) (Ac ?_)
   simp only[Ag,Sv]
   have h':x<0↔y<0:=by simpa using h
   congr 2
   rw[show (if decide (x<0)=true then -((x.natAbs+y.natAbs:Nat):Int) else ((x.natAbs+y.natAbs:Nat):Int))=x+y by
     by_cases hx:x<0 <;> simp[hx] <;> omega]
   rfl
 · have h' : ¬ (x<0↔y<0):=by simpa using h
   have sp:=VW (lb x.natAbs) (lb y.natAbs) (by omega) (by omega)
   rw[Bq,Bq]at sp
   refine Aa sp ?_
   simp only[Ag,Al,Dm]
   refine Ae (fun h2=> ?_) (fun h2=> ?_)
   · have sp:=II (lb x.natAbs) (lb y.natAbs) (by omega) (by omega)
     rw[Bq,Bq]at sp
     refine Aa sp ?_
     simp only[Ag]
     refine Aa (Fy ⟨decide (x<0),lb (x.natAbs-y.natAbs)⟩ (by simp only;have:=hsub x.natAbs y.natAbs (by omega);omega)) (Ac ?_)
     simp only[Ag,Sv]
     have hge:y.natAbs≤x.natAbs:=by split at h2 <;> omega
     rw[show (if decide (x<0)=true then -((x.natAbs-y.natAbs:Nat):Int) else ((x.natAbs-y.natAbs:Nat):Int))=x+y by
      by_cases hx:x<0 <;> simp[hx] <;> omega]
     rfl
   · have sp:=II (lb y.natAbs) (lb x.natAbs) (by omega) (by omega)
     rw[Bq,Bq]at sp
     refine Aa sp ?_
     simp only[Ag]
     refine Aa (Fy ⟨decide (y<0),lb (y.natAbs-x.natAbs)⟩ (by simp only;have:=hsub y.natAbs x.natAbs (by omega);omega)) (Ac ?_)
     simp only[Ag,Sv]
     have hge:x.natAbs<y.natAbs:=by
      rcases Ann x.natAbs y.natAbs with h3 | h3
      · exact h3
      · rw[if_neg (by omega)]at h2;split at h2 <;> omega
     rw[show (if decide (y<0)=true then -((y.natAbs-x.natAbs:Nat):Int) else ((y.natAbs-x.natAbs:Nat):Int))=x+y by
      by_cases hx:y<0 <;> simp[hx] <;> omega]
     rfl
theorem Aij(a b:Wh)(ha:a.mag.length≤10000)(hb:b.mag.length≤10000):Sp 267 [dW a,dW b] [dW (wz (zv a-zv b))]:=by
 refine Af 0 (Aik _ _ _) (Aa (Aib b (by omega)) ?_)
 simp only[Ag]
 have:=He b
 refine Aa (AhY a (wz (-zv b)) ha (by simp only[wz,Int.natAbs_neg];omega)) (Ac ?_)
 simp only[Ag,Cy,← Int.sub_eq_add_neg]
theorem Aif(a:Wh)(ha:a.mag.length≤1000000):Sp 266 [dW a] [.int (Ff (zv a))]:=by
 refine Af 0 (Aig _ _) (Aa (Fy a ha) ?_)
 generalize zv a=x
 simp only[Ag,E9,Ev,Bz,Amd,Cd,Az,wz]
 have h0:((lb x.natAbs).length:Int)=0↔x=0:=by rw[Int.natCast_eq_zero,Gc];omega
 unfold Ff
 refine Ae (fun h=>Ac ?_) (fun h=>Ae (fun h2=>Ac ?_) (fun h2=>Ac ?_))
 · rw[if_neg (by have:=h0.1 h;omega),if_pos (h0.1 h)]
 · rw[if_pos h2]
 · rw[if_neg h2,if_neg (fun hh=>h (h0.2 hh))]
theorem AkJ{a b:Wh}{k:Nat}(ha:a.mag.length≤k)(hb:b.mag.length≤k):(wz (zv a-zv b)).mag.length≤k+1:=by
 simp only[wz]
 refine A0.2 ?_
 have h1:=A0.1 (Nat.le_trans (He a) ha)
 have h2:=A0.1 (Nat.le_trans (He b) hb)
 rw[Anc,Ay]
 rw[Ay]at h1 h2
 omega
theorem WC(a b:Wh)(ha:a.mag.length≤10000)(hb:b.mag.length≤10000):Sp 224 [dW a,dW b] [.int (Ch (zv a) (zv b))]:=by
 refine Af 0 (Aia _ _ _) (Aa (Aij a b ha hb) ?_)
 simp only[Ag]
 have:=AkJ ha hb
 refine Aa (Aif _ (by omega)) (Ac ?_)
 simp only[Ag,Al,Cy]
 congr 2
 unfold Ff Ch
 split <;> split <;> first | rfl | omega | (split <;> split <;> first | rfl | omega) | (split <;> first | rfl | omega)
theorem Aih(a:Wh)(ha:a.mag.length≤10000):Sp 163 [dW a] (Fp (zv a)):=by
 refine Af 10 (Aii _ _) (Aa (Fy a (by omega)) ?_)
 generalize zv a=z
 simp only[Ag,E9,Ev,Bz,Amd]
 refine Ae (fun h=>Ac ?_) (fun h=> ?_)
 · have : ¬ (lb z.natAbs).length≤2:=by simp only[wz]at h;omega
   rw[A0]at this
   have : ¬ Bc z:=by
     intro hr
     apply this
     unfold Bc at hr
     show z.natAbs<18446744073709551616
     omega
   rw[Fp,if_neg this]
 · have hl:(wz z).mag.length≤2:=by omega
   have hof : ∀ y,Bc y→(wz y).mag.length≤2:=fun y hy=>A0.2 (by unfold Bc at hy;show y.natAbs<18446744073709551616;omega)
   have r1:Bc 9223372036854775807:=by decide
   have r2:Bc (-9223372036854775808):=by decide
   refine Aa (IK _ r1) (Aa (WC (wz z) (wz 9223372036854775807) (by omega) (by have:=hof _ r1;omega)) ?_)
   simp only[Ag,Al,Cy,Ch]
   refine Ae (fun h2=>Ac ?_) (fun h2=> ?_)
   · rw[Fp,if_neg]
     unfold Bc
     split at h2
     · omega
     · split at h2 <;> omega
   · refine Aa (IK _ r2) (Aa (WC (wz z) (wz (-9223372036854775808)) (by omega) (by have:=hof _ r2;omega)) ?_)
     simp only[Ag,Al,Cy,Ch]
     refine Ae (fun h3=>Ac ?_) (fun h3=> ?_)
     · rw[Fp,if_neg]
       unfold Bc
       split at h3
       · omega
       · split at h3 <;> omega
     · have hz:Bc z:=by
        unfold Bc
        constructor
        · split at h3 <;> omega
        · split at h2
          · omega
          · split at h2 <;> omega
       rw[Fp,if_pos hz]
       have key:=Ii (P:=Tryz.prog) (md:=md) (fun m k (x:Int)=>Rr 10 m x ((k:Int)-1) (dW (wz z))) (fun _ _=>[.int z,.bool true])
        (fun k x=>k≤(wz z).mag.length∧x=if z<0 then -((z.natAbs / B ^ k:Nat):Int) else ((z.natAbs / B ^ k:Nat):Int))
        (fun m x ⟨_,hx⟩=>by
          simp only[WD]
          refine Aq (Ac ?_)
          rw[hx]
          simp only[Nat.pow_zero,Nat.div_one]
          congr 2
          split <;> omega)
        (fun m k x ⟨hk,hx⟩ ih=>by
          have hk':k<(lb z.natAbs).length:=hk
          have hg:(lb z.natAbs)[k]? = some (lb z.natAbs)[k]:=Amb _
          simp only[WD,show ((k+1:Nat):Int)-1=(k:Int) by omega,E9,Ev,Bz,Amd,Az,Amj]
          have e1:(wz z).mag=lb z.natAbs:=rfl
          have e2:(wz z).neg=decide (z<0):=rfl
          rw[e1,e2,As hg,Dc,Dv,Bq]
          have hd:=Nat.mod_add_div (z.natAbs / B ^ k) B
          rw[Ane,← Anc]at hd
          have hle:z.natAbs / B ^ k≤z.natAbs:=Nat.div_le_self _ _
          have hm:=Am5 (z.natAbs / B ^ k) Bw
          unfold Bc at hz
          have ih':=ih (if z<0 then -((z.natAbs / B ^ k:Nat):Int) else ((z.natAbs / B ^ k:Nat):Int)) ⟨by omega,rfl⟩
          generalize z.natAbs / B ^ k=p at *
          generalize z.natAbs / B ^ (k+1)=q at *
          generalize p % B=r at *
          rw[Ay]at hd hm
          refine Ad (Ae (fun hn=> ?_) (fun hn=> ?_))
          · rw[if_pos hn]at hx ih'
            refine Ad (Ad ?_)
            rw[hx,At (x:= -(q:Int)*4294967296) (by omega) (by omega),At (x:=(r:Int)) (by omega) (by omega),At (x:= -(q:Int)*4294967296-r) (by omega) (by omega),At (by omega) (by omega),show -(q:Int)*4294967296-(r:Int) = -(p:Int) by omega]
            exact ih'
          · rw[if_neg hn]at hx ih'
            refine Ad (Ad ?_)
            rw[hx,At (x:=(q:Int)*4294967296) (by omega) (by omega),At (x:=(r:Int)) (by omega) (by omega),At (x:=(q:Int)*4294967296+r) (by omega) (by omega),At (by omega) (by omega),show (q:Int)*4294967296+(r:Int)=(p:Int) by omega]
            exact ih')
        10 (wz z).mag.length 0 (by omega) ⟨Amo _,by
          have:z.natAbs / B ^ (wz z).mag.length=0:=Nat.div_eq_of_lt (A0.1 (Amo _))
          rw[this];simp⟩
       rw[At (by omega) (by omega)]
       exact key
theorem Fd(l:List Ao)(hl:l.length<9223372036854775807):Sp 321 [dL l] [dL (lb (nv l))]:=by
 refine Af (l.length+1) (Afu _ _) ?_
 have:=Ii (P:=Tryz.prog) (md:=md) (fun m k (_:Unit)=>Ww (l.length+1) m (dL l) (k:Int)) (fun _ _=>[dL (lb (nv l))]) (fun k _=>k≤l.length∧∀ i,k≤i→(hi:i<l.length)→l[i]=0)
  (fun m s ⟨h1,h2⟩=>by
   simp only[SA,Bz,Amd,Amr]
   refine Aq (Ad (Ad (Ad (Ac ?_))))
   rw[Vz (k:=0) (by omega) h2 (fun _ h=>by omega),Ua];rfl)
  (fun m k s ⟨h1,h2⟩ ih=>by
   have hk:l[k]? = some l[k]:=Amb _
   simp only[SA,Bz,Amd,Amr,AaM k (by omega),Amj,As hk,Dc,Cd]
   refine Ad (Ad (Ad (Ae (fun h=> ?_) (fun h=> ?_))))
   · refine ih () ⟨by omega,fun i hi hlt=> ?_⟩
     by_cases he:i=k
     · subst he;exact BitVec.eq_of_toNat_eq (by simp;omega)
     · exact h2 i (by omega) hlt
   · refine Ad (Ad (Ad (Ac ?_)))
     rw[Vz (k:=k+1) (by omega) h2 (fun _ _ hc=>h (by have hc':l[k]=0:=hc;rw[hc'];rfl)),Ua])
  (l.length+1) l.length () (by omega) ⟨Amo _,fun i h1 h2=>by omega⟩
 simpa using this
theorem G7(l:List Ao)(hl:l.length≤1000000):Sp 299 [dL l] [dL (lb (nv l))]:=by
 refine Af 0 (Afh _ _) (Aa (Fd l (by omega)) ?_)
 have h1:(lb (nv l)).length≤l.length:=A0.2 (B7 l)
 simp only[Ag,Bz,Amd,Anf,Amj]
 refine Ad (Ad (Ax (by unfold Aj;omega) (Ac ?_)))
 rw[Am7 (by simp),List.drop_eq_nil_of_le (by simp),Amx];rfl
theorem Kl(b:Bool)(n:Nat):Sp 298 [.bool b,dL (lb n)] [dW (wz (if b then -(n:Int) else (n:Int)))]:=by
 refine Af 0 (AlL _ _ _) ?_
 simp only[Bz,Amd,Cd,Az]
 refine Ae (fun h=>Ac ?_) (fun h=>Ac ?_)
 · have:n=0:=Gc.1 (by omega)
   subst this
   simp[Ub]
 · have:n≠0:=fun hh=>h (by rw[hh,Ct];rfl)
   rw[AaN _ this];rfl
theorem BA(w:Wh)(h:w.mag.length≤1000000):Sp 269 [dW w] [dW (wz (zv w))]:=by
 refine Af 0 (AlD _ _) (Aa (G7 w.mag h) ?_)
 simp only[Ag,E9,Az]
 exact Aa (Kl w.neg (nv w.mag)) (Ac rfl)
theorem Nm(x:Nat):Am3 (x:Int) (2 ^ (min (Ama 32) (Aml .u64)))=((x / 4294967296:Nat):Int):=by
 show Am3 (x:Int) 4294967296=_
 rw[Int.fdiv_eq_ediv_of_nonneg _ (by omega)];omega
theorem Alv{z:Int}(h:z<0)(h2 : -9223372036854775808≤z):Al6 .u64 (0-Al6 .u64 z) = -z:=by
 rw[IntKind.wrap_u64,IntKind.wrap_u64];omega
theorem So(z:Int)(h:Bc z):Sp 246 [.int z] [dW (wz z)]:=by
 unfold Bc at h
 refine Af 0 (AlE _ _) ?_
 simp only[Al]
 have main : ∀ n:Nat,n<18446744073709551616→[D.int (Al6 .u32 (n:Int)),D.int (Al6 .u32 (Am3 (n:Int) (2 ^ (min (Ama 32) (Aml .u64)))))] = [Amt 32 (n % 4294967296),Amt 32 (n / 4294967296)].map dB:=by
   intro n hn
   rw[Nm,E6 (x:=((n / 4294967296:Nat):Int)) (by omega) (by omega),Ea (t:=n / 4294967296) (by rw[Ay];omega),show Al6 .u32 (n:Int)=((n % 4294967296:Nat):Int) by rw[IntKind.wrap_u32];omega,Ea (t:=n % 4294967296) (by rw[Ay];omega)];rfl
 refine Ae (fun h0=> ?_) (fun h0=> ?_)
 · obtain ⟨n,hn⟩ : ∃ n:Nat,-z=n:=⟨(-z).toNat,by omega⟩
   rw[Alv h0 h.1,hn,main n (by omega)]
   simp only[h0,decide_true]
   have sp:=G7 [Amt 32 (n % 4294967296),Amt 32 (n / 4294967296)] (by simp)
   rw[Sh (by omega)]at sp
   refine Ad (Aa sp ?_)
   simp only[Ag]
   refine Aa (Kl true n) (Ac ?_)
   simp only[Ag,if_true]
   rw[show -(n:Int)=z by omega]
 · obtain ⟨n,rfl⟩ : ∃ n:Nat,z=n:=⟨z.toNat,by omega⟩
   rw[Bn (by omega) (by omega),main n (by omega)]
   simp only[h0,decide_false]
   have sp:=G7 [Amt 32 (n % 4294967296),Amt 32 (n / 4294967296)] (by simp)
   rw[Sh (by omega)]at sp
   refine Ad (Aa sp ?_)
   simp only[Ag]
   exact Aa (Kl false n) (Ac rfl)
theorem GN{x d:Nat}(hx:x<4294967296)(hd:d<4294967296):Bm .or .u64 (x:Int) ((d*4294967296:Nat):Int)=((x+d*4294967296:Nat):Int):=by
 have h:=GM (Amt 64 x) (Amt 64 (d*4294967296))
 rw[BitVec.toNat_or,BitVec.toNat_ofNat,BitVec.toNat_ofNat,Am4 (a:=x) (by omega),Am4 (a:=d*4294967296) (by omega)]at h
 rw[h]
 congr 1
 have:=Nat.two_pow_add_eq_or_of_lt (i:=32) (b:=x) (by omega) d
 rw[show 2 ^ 32*d=d*4294967296 by omega]at this
 rw[Nat.or_comm,← this];omega
theorem AlH(a:Wh)(ha:a.mag.length≤1000000):Sp 228 [dW a] (Fp (zv a)):=by
 refine Af 10 (AlI _ _) (Aa (BA a (by omega)) ?_)
 generalize zv a=z
 simp only[Ag,E9,Ev,Bz,Amd]
 refine Ae (fun h=>Ac ?_) (fun h=> ?_)
 · have : ¬ (lb z.natAbs).length≤2:=by simp only[wz]at h;omega
   rw[A0]at this
   have : ¬ Bc z:=by
    intro hr
    apply this
    unfold Bc at hr
    show z.natAbs<18446744073709551616
    omega
   rw[Fp,if_neg this]
 · have hl:(lb z.natAbs).length≤2:=by simp only[wz]at h;omega
   have hlt:z.natAbs<18446744073709551616:=A0.1 hl
   have fin : ∀ (m:Nat) (t:D) (k:Int),Tw (Pf 10 (m+1) (z.natAbs:Int) t k k (dW (wz z))) (Fp z):=by
    intro m t k
    simp only[Tw,AaE,E9,Az,wz]
    refine Aq (Ae (fun hn=>Ae (fun h2=>Ac ?_) (fun h2=>Ac ?_)) (fun hn=>Ae (fun h2=>Ac ?_) (fun h2=>Ac ?_)))
    · rw[Fp,if_neg];unfold Bc;omega
    · rw[Fp,if_pos (by unfold Bc;omega),IntKind.wrap_u64,IntKind.wrap_i64]
      congr 2
      omega
    · rw[Fp,if_neg];unfold Bc;omega
    · rw[Fp,if_pos (by unfold Bc;omega),At (by omega) (by omega)]
      congr 2
      omega
   have one : ∀ (m:Nat) (l:List Ao) (t:Int) (k x:Nat) (d:Ao),k≤1→l[k]? = some d→(k:Int)<t→(k=0→x=0)→x<4294967296→Tw (Pf 10 m ((x+d.toNat*4294967296 ^ k:Nat):Int) (dL l) t ((k+1:Nat):Int) (dW (wz z))) (Fp z)→Tw (Pf 10 (m+1) (x:Int) (dL l) t (k:Int) (dW (wz z))) (Fp z):=by
    intro m l t k x d hk hd ht hx hx2 hw
    have hkl:k<l.length:=(Ame.1 hd).1
    have hdl:=Ej d
    rw[Ay]at hdl
    simp only[Tw,AaE,Bz,Amd,Amj,As hd,Dc]
    rw[At (x:=32*(k:Int)) (by omega) (by omega),Bn (x:=32*(k:Int)) (by omega) (by omega),Bn (x:=(d.toNat:Int)) (by omega) (by omega),D0 (by omega)]
    refine Ad (Ad (Ad (Ad ?_)))
    have e:Bm .or .u64 (x:Int) (Al6 .u64 ((d.toNat:Int)*2 ^ (min (Ama (32*(k:Int))) (Aml .u64))))=((x+d.toNat*4294967296 ^ k:Nat):Int):=by
      rcases (by omega:k=0∨k=1) with rfl | rfl
      · rw[hx rfl]
        show Bm .or .u64 ((0:Nat):Int) (Al6 .u64 ((d.toNat:Int)*1))=_
        rw[Int.mul_one,Bn (by omega) (by omega)]
        have:=GM (0:Ap) (Amt 64 d.toNat)
        rw[BitVec.toNat_or,BitVec.toNat_ofNat,Am4 (a:=d.toNat) (by omega)]at this
        simpa using this
      · show Bm .or .u64 (x:Int) (Al6 .u64 ((d.toNat:Int)*4294967296))=_
        rw[show (d.toNat:Int)*4294967296=((d.toNat*4294967296:Nat):Int) by omega,Bn (by omega) (by omega),GN hx2 hdl]
        try simp
    rw[e]
    exact hw
   have hz0:z.natAbs=nv (lb z.natAbs):=(Bq _).symm
   simp only[show (wz z).mag=lb z.natAbs from rfl]
   generalize hll:lb z.natAbs=ll at *
   match ll,hl with
   | [],_ =>
    have:z.natAbs=0:=by simpa using hz0
    have hf:=fin 9 (dL []) 0
    rw[this]at hf
    exact hf
   | [d],_ =>
    have:z.natAbs=d.toNat:=by simpa [nv]using hz0
    refine one 9 [d] 1 0 0 d (by omega) rfl (by omega) (fun _=>rfl) (by omega) ?_
    have hf:=fin 8 (dL [d]) 1
    rw[this]at hf
    simpa using hf
   | [d,e],_ =>
    have:z.natAbs=d.toNat+e.toNat*4294967296:=by simp only[nv,FZ]at hz0;rw[Ay]at hz0;omega
    have hdl:=Ej d
    rw[Ay]at hdl
    refine one 9 [d,e] 2 0 0 d (by omega) rfl (by omega) (fun _=>rfl) (by omega) ?_
    have:=one 8 [d,e] 2 1 d.toNat e (by omega) rfl (by omega) (fun h=>by omega) (by omega) (by
      have hf:=fin 7 (dL [d,e]) 2
      rw[this]at hf
      simpa using hf)
    simpa using this
def Bo(n:Num):Int:=zv ⟨n.neg,n.top⟩
def Bj(n:Num):Int:=(nv n.bot:Int)
def Cn(z:Int):Num:=⟨decide (z<0),lb z.natAbs,[1]⟩
def K6:Option Int→List D
 | some z=>[.int z,.bool true]
 | none=>[.int 0,.bool false]
def Lg(z:Int):Option Int:=if Bc z then some z else none
theorem Aad(z:Int):Fp z=K6 (Lg z):=by unfold Fp Lg;split <;> rfl
def De(n:Num):Option Int:=if n.bot = [1] then Lg (Bo n) else none
def C4(p q:Int):Num×Int :=
 if q=0 then (.zero,3)
 else if 32<(lb (p.natAbs / Nat.gcd p.natAbs q.natAbs)).length∨32<(lb (q.natAbs / Nat.gcd p.natAbs q.natAbs)).length then (.zero,7)
 else (⟨decide (0<(lb (p.natAbs / Nat.gcd p.natAbs q.natAbs)).length)&& !(decide (p<0)==decide (q<0)),lb (p.natAbs / Nat.gcd p.natAbs q.natAbs),lb (q.natAbs / Nat.gcd p.natAbs q.natAbs)⟩,0)
def Eo(n:Num):Bool:=decide (n.top.length≤32∧n.bot.length≤32∧C4 (Bo n) (Bj n)=(n,0))
theorem Ia:D.agg [.bool false,.sl [],.sl []]=dN .zero:=rfl
theorem AfR(l:List Ao):(l = [1])↔(l.length=1∧∀ h:0<l.length,l[0].toNat=1):=by
 constructor
 · rintro rfl;exact ⟨rfl,fun _=>rfl⟩
 · rintro ⟨h1,h2⟩
   match l,h1 with
   | [x],_=>have:=h2 (by simp);simp at this;exact congrArg (· :: []) (BitVec.eq_of_toNat_eq (by simpa using this))
theorem SV{P:Program}{md:Nat→FMode}(l:List Ao):(Tree.br (((l.map dB).length:Int)==1) (.br (decide (0≤(0:Int))) (.br (decide (0<((l.map dB).length:Int))) (.ret [D.bool ((((l.map dB).getD (Ama 0) D.nil).toInt)==1)]) .fail) .fail) (.ret [D.bool false])).wp P md (fun zs=>zs = [.bool (decide (l = [1]))]):=by
 simp only[Amd,Cd]
 refine Ae (fun h=>Ad (Ad (Ac ?_))) (fun h=>Ac ?_)
 · have hg:l[0]? = some (l[0]'(by omega)):=Amb _
   rw[show Ama 0=0 from rfl,As hg,Dc]
   congr 2
   rw[decide_eq_decide,AfR]
   refine ⟨fun hh=>⟨by omega,fun _=>by omega⟩,fun hh=>by have:=hh.2 (by omega);omega⟩
 · rw[decide_eq_false];rintro rfl;exact h rfl
theorem Ain(n:Num):Sp 162 [dN n] [.bool (decide (n.bot = [1]))]:=by
 refine Af 0 (Aio _ _) ?_
 simp only[Ls,Bz]
 exact SV n.bot
theorem Kb(l:List Ao):Sp 227 [dL l] [.bool (decide (l = [1]))]:=by
 refine Af 0 (Ah5 _ _) ?_
 simp only[Bz]
 exact SV l
theorem WE(n:Num)(h:n.top.length≤1000000):Sp 164 [dN n] [dW (wz (Bo n))]:=by
 refine Af 0 (Aiy _ _) ?_
 simp only[Lr,Ni,Az]
 exact Aa (Fy ⟨n.neg,n.top⟩ h) (Ac rfl)
theorem Ail(n:Num)(h:n.bot.length≤1000000):Sp 210 [dN n] [dW (wz (Bj n))]:=by
 refine Af 0 (Aim _ _) ?_
 simp only[Ls]
 exact Aa (Fy ⟨false,n.bot⟩ h) (Ac rfl)
theorem Aiz(w:Wh)(h:w.mag.length≤1000000):Sp 226 [dW w] [dN (Cn (zv w))]:=by
 refine Af 0 (Ai0 _ _) (Aa (Fy w h) (Ac rfl))
theorem Air(z:Int)(h:Bc z):Sp 165 [.int z] [dN (Cn z)]:=by
 refine Af 0 (Ais _ _) (Aa (IK z h) ?_)
 have hl:(wz z).mag.length≤2:=A0.2 (by unfold Bc at h;show z.natAbs<18446744073709551616;omega)
 refine Aa (Aiz (wz z) (by omega)) (Ac ?_)
 rw[Cy];rfl
theorem Aiw(n:Num)(h:n.top.length≤10000):Sp 77 [dN n] (K6 (De n)):=by
 refine Af 0 (Aix _ _) (Aa (Ain n) ?_)
 simp only[Ag,Az,Ed]
 unfold De
 refine Ae (fun h=>Ac ?_) (fun h0=> ?_)
 · rw[if_neg h];rfl
 · rw[if_pos (Amn.1 h0)]
   refine Aa (WE n (by omega)) ?_
   have hl:(wz (Bo n)).mag.length≤n.top.length:=He ⟨n.neg,n.top⟩
   refine Aa (Aih (wz (Bo n)) (by omega)) ?_
   rw[Cy,Aad]
   cases Lg (Bo n) <;> exact Ac rfl
theorem Fe(n:Num):Sp 229 [dN n] [dW ⟨n.neg,n.top⟩]:=Af 0 (Ah6 _ _) (Ac rfl)
theorem Xo(n:Num)(h:n.top.length≤1000000):Sp 166 [dN n] (K6 (De n)):=by
 refine Af 0 (Ah0 _ _) (Aa (Kb n.bot) ?_)
 simp only[Ag,Az,Ed]
 unfold De
 refine Ae (fun h=>Ac ?_) (fun h0=> ?_)
 · rw[if_neg h];rfl
 · rw[if_pos (Amn.1 h0)]
   refine Aa (Fe n) (Aa (AlH ⟨n.neg,n.top⟩ h) ?_)
   rw[Aad,show zv ⟨n.neg,n.top⟩=Bo n from rfl]
   cases Lg (Bo n) <;> exact Ac rfl
def Lj(z:Int):Num:=if 32<(lb z.natAbs).length then .zero else Cn z
theorem Xp(w:Wh)(h:w.mag.length≤1000000):Sp 245 [dW w] [dN (Lj (zv w))]:=by
 refine Af 0 (Ah2 _ _) (Aa (BA w h) ?_)
 simp only[Ag,E9,Ev,Bz,Amd,Az]
 unfold Lj
 refine Ae (fun h=>Ac ?_) (fun h=>Ac ?_)
 · rw[if_pos (by simp only[wz]at h;omega)];rfl
 · rw[if_neg (by simp only[wz]at h;omega)];rfl
theorem K8(z:Int)(h:Bc z):Sp 212 [.int z] [dN (Cn z)]:=by
 refine Af 0 (Ahu _ _) (Aa (So z h) ?_)
 have hl:(wz z).mag.length≤2:=A0.2 (by unfold Bc at h;show z.natAbs<18446744073709551616;omega)
 refine Aa (Xp (wz z) (by omega)) (Ac ?_)
 rw[Cy,Lj,if_neg (by simp only[wz]at hl;omega)];rfl
theorem FX(a b:Num):(a=b)↔(a.neg=b.neg∧a.top=b.top∧a.bot=b.bot):=by
 cases a;cases b;simp
theorem IL(a b:Num)(h1:a.top.length≤9223372036854775807)(h2:a.bot.length≤9223372036854775807):Sp 137 [dN a,dN b] [.bool (decide (a=b))]:=by
 refine Af 0 (Aiv _ _ _) ?_
 simp only[Lr,Ni,Ls,Az,Ps]
 refine Ae (fun e1=>Aa (VZ a.top b.top h1) ?_) (fun e1=>Ac ?_)
 · simp only[Ag,Az]
   refine Ae (fun e2=>Aa (VZ a.bot b.bot h2) (Ac ?_)) (fun e2=>Ac ?_)
   · simp only[Ag,Az]
     congr 2
     rw[decide_eq_decide,FX];simp[e1,e2]
   · rw[decide_eq_false];rintro rfl;exact e2 rfl
 · rw[decide_eq_false];rintro rfl;exact e1 rfl
theorem ZQ(a b:List Ao)(ha:a.length≤9223372036854775807):Sp 312 [dL a,dL b] [.bool (decide (a=b))]:=by
 refine Af (a.length+1) (Akl _ _ _) ?_
 simp only[Bz,Amd,C0]
 refine Ae (fun h=>Ac ?_) (fun h=> ?_)
 · rw[decide_eq_false];rintro rfl;exact h rfl
 · refine Ul dB NA a b (by omega) ha (fun m i=>Z6 (a.length+1) m (dL a) (dL b) (a.length:Int) i) (fun m i=> ?_)
   rw[Akk]
   simp only[Bz,Amd]
theorem ZP(a b:List Int)(ha:a.length≤9223372036854775807):Sp 234 [dI a,dI b] [.bool (decide (a=b))]:=by
 refine Af (a.length+1) (Akj _ _ _) ?_
 simp only[B_,Amd,C0]
 refine Ae (fun h=>Ac ?_) (fun h=> ?_)
 · rw[decide_eq_false];rintro rfl;exact h rfl
 · refine Ul D.int NH a b (by omega) ha (fun m i=>Z4 (a.length+1) m (dI a) (dI b) (a.length:Int) i) (fun m i=> ?_)
   rw[Aki]
   simp only[B_,Amd]
theorem Ahx(a b:Num)(h1:a.top.length≤9223372036854775807)(h2:a.bot.length≤9223372036854775807):Sp 274 [dN a,dN b] [.bool (decide (a=b))]:=by
 refine Af 0 (Ahy _ _ _) ?_
 simp only[Lr,Ni,Ls,Az,Ps]
 refine Ae (fun e1=>Aa (ZQ a.top b.top h1) ?_) (fun e1=>Ac ?_)
 · simp only[Ag,Az]
   refine Ae (fun e2=>Aa (ZQ a.bot b.bot h2) (Ac ?_)) (fun e2=>Ac ?_)
   · simp only[Ag,Az]
     congr 2
     rw[decide_eq_decide,FX];simp[e1,e2]
   · rw[decide_eq_false];rintro rfl;exact e2 rfl
 · rw[decide_eq_false];rintro rfl;exact e1 rfl
theorem Aip(p q:Wh)(hp:p.mag.length≤1000)(hq:q.mag.length≤1000):Sp 209 [dW p,dW q] [dN (C4 (zv p) (zv q)).1,.int (C4 (zv p) (zv q)).2]:=by
 refine Af 0 (Aiq _ _ _) (Aa (Fy p (by omega)) (Aa (Fy q (by omega)) ?_))
 have lp:=He p
 have lq:=He q
 generalize zv p=x at *
 generalize zv q=y at *
 simp only[Ag,E9,Ev,Bz,Amd,Az,Cd,wz]
 refine Ae (fun h=>Ac ?_) (fun h=> ?_)
 · have:y=0:=by have:=Gc.1 (show (lb y.natAbs).length=0 by omega);omega
   unfold C4;rw[if_pos this];rfl
 · have hy:y≠0:=fun hh=>h (by rw[hh];simp[Ct])
   have sp:=AhP (lb x.natAbs) (lb y.natAbs) (by omega) (by omega)
   rw[Bq,Bq]at sp
   refine Aa sp ?_
   simp only[Ag]
   have hg:Nat.gcd x.natAbs y.natAbs≠0:=fun hh=>hy (by have:=(Nat.gcd_eq_zero_iff.1 hh).2;omega)
   have hgl:(lb (Nat.gcd x.natAbs y.natAbs)).length≤1000:=by
    refine Nat.le_trans ?_ (Nat.le_trans lq hq)
    refine A0.2 (Nat.lt_of_le_of_lt (Nat.gcd_le_right _ (by omega)) (A0.1 (Amo _)))
   have sp1:=IF (lb x.natAbs) (lb (Nat.gcd x.natAbs y.natAbs)) (by omega) (by omega)
   have sp2:=IF (lb y.natAbs) (lb (Nat.gcd x.natAbs y.natAbs)) (by omega) (by omega)
   rw[Bq,Bq]at sp1 sp2
   refine Aa sp1 (Aa sp2 ?_)
   simp only[Ag,Bz,Amd]
   unfold C4
   rw[if_neg hy]
   refine Ae (fun h1=>Ac ?_) (fun h1=>Ae (fun h2=>Ac ?_) (fun h2=>Ae (fun h3=>Ac ?_) (fun h3=>Ac ?_)))
   · rw[if_pos (by omega)];rfl
   · rw[if_pos (by omega)];rfl
   · rw[if_neg (by omega),decide_eq_true (p:=0<(lb (x.natAbs / Nat.gcd x.natAbs y.natAbs)).length) (by omega),Bool.true_and];rfl
   · rw[if_neg (by omega),decide_eq_false (p:=0<(lb (x.natAbs / Nat.gcd x.natAbs y.natAbs)).length) (by omega),Bool.false_and];rfl
theorem Ait(n:Num):Sp 133 [dN n] [.bool (Eo n)]:=by
 refine Af 0 (Aiu _ _) ?_
 simp only[Ni,Ls,Bz,Amd]
 unfold Eo
 refine Ae (fun h=>Ac ?_) (fun h=>Ae (fun h'=>Ac ?_) (fun h'=> ?_))
 · rw[decide_eq_false (by omega)]
 · rw[decide_eq_false (by omega)]
 · refine Aa (WE n (by omega)) (Aa (Ail n (by omega)) ?_)
   have l1:(wz (Bo n)).mag.length≤n.top.length:=He ⟨n.neg,n.top⟩
   have l2:(wz (Bj n)).mag.length≤n.bot.length:=He ⟨false,n.bot⟩
   refine Aa (Aip (wz (Bo n)) (wz (Bj n)) (by omega) (by omega)) ?_
   simp only[Ag,Cm,Al,Cd,Cy]
   generalize C4 (Bo n) (Bj n)=r
   refine Ae (fun h3=>Aa (IL n r.1 (by omega) (by omega)) (Ac ?_)) (fun h3=>Ac ?_)
   · simp only[Ag,Az]
     congr 2
     rw[decide_eq_decide]
     refine ⟨fun hh=>⟨by omega,by omega,by rw[hh];exact Prod.ext rfl h3⟩,fun hh=>by rw[hh.2.2]⟩
   · rw[decide_eq_false]
     rintro ⟨_,_,hh⟩
     exact h3 (by rw[hh])
theorem Ai2(n:Nat)(c0:D):fA [] n 135 [] [c0] =
 bK (0≤c0.toInt) (bK (c0.toInt≤1114111) (bK (c0.toInt<55296) (.ret [D.bool true])
 (.ret [D.bool (decide (57343<c0.toInt))]))
 (.ret [D.bool false]))
 (.ret [D.bool false]):=by kernel_rfl
theorem Tf : ∃ N:Nat,9223372036854775808<N:=⟨9223372036854775809,by decide⟩
def Bd:List Int→Int→Int
 | [],p=>p
 | x::xs,p=>if 2048<p*x then 0 else Bd xs (p*x)
def A5(l:List Int):Int×Int :=
 if 6<l.length then (0,7) else if l.any (fun x=>decide (x<0)) then (0,3) else if l.any (fun x=>decide (2048<x)) then (0,7)
 else if l.any (fun x=>decide (x=0)) then (0,0) else if Bd l 1=0 then (0,7) else (Bd l 1,0)
theorem HE{x y:Int}(h1:1≤x)(h2:x≤2048)(h3:1≤y)(h4:y≤2048):1≤x*y∧x*y≤4194304:=by
 constructor
 · have:=Int.mul_le_mul h1 h3 (by omega) (by omega);omega
 · have:=Int.mul_le_mul h2 h4 (by omega) (by omega);omega
theorem UO : ∀ (l:List Int) (p:Int),1≤p→p≤2048→(∀ x∈l,1≤x∧x≤2048)→0≤Bd l p∧Bd l p≤2048
 | [],p,h1,h2,_=>by simp only[Bd];omega
 | x::xs,p,h1,h2,h=>by
  simp only[Bd]
  have hx:=h x (by simp)
  have:=HE h1 h2 hx.1 hx.2
  split
  · omega
  · exact UO xs (p*x) this.1 (by omega) (fun y hy=>h y (by simp[hy]))
theorem Pn{l:List Int}{p:Int→Bool}(h : ¬ l.any p=true) : ∀ x∈l,p x=false:=fun x hx=>by
 cases hp:p x with
 | false=>rfl
 | true=>exact absurd (List.any_eq_true.2 ⟨x,hx,hp⟩) h
theorem Tt{l:List Int}(h1 : ¬ l.any (fun x=>decide (x<0))=true)(h2 : ¬ l.any (fun x=>decide (2048<x))=true)(h3 : ¬ l.any (fun x=>decide (x=0))=true) : ∀ x∈l,1≤x∧x≤2048:=fun x hx=>by
 have a:=of_decide_eq_false (Pn h1 x hx)
 have b:=of_decide_eq_false (Pn h2 x hx)
 have c:=of_decide_eq_false (Pn h3 x hx)
 omega
theorem F5(l:List Int):0≤(A5 l).1∧(A5 l).1≤2048:=by
 unfold A5
 split
 · decide
 split
 · decide
 split
 · decide
 split
 · decide
 split
 · decide
 · rename_i h1 h2 h3 h4 _;exact UO l 1 (by decide) (by decide) (Tt h2 h3 h4)
theorem Gr{l:List Int}(h:(A5 l).2=0):l.length≤6∧∀ x∈l,0≤x∧x≤2048:=by
 unfold A5 at h
 split at h
 · cases h
 split at h
 · cases h
 split at h
 · cases h
 · rename_i h1 h2 h3
   refine ⟨by omega,fun x hx=> ?_⟩
   have a:=of_decide_eq_false (Pn h2 x hx)
   have b:=of_decide_eq_false (Pn h3 x hx)
   omega
def Dt(p:Int→Bool):Nat→List Int→Int
 | _,[]=> -1
 | k,x::xs=>if p x then (k:Int) else Dt p (k+1) xs
def J2(p:Int):List D:=if p=0 then [.int 0,.int 7] else [.int p,.int 0]
theorem Mm(x:Int)(xs:List Int)(p:Int):Bd (x::xs) p=if 2048<p*x then 0 else Bd xs (p*x):=rfl
theorem Ad_(p:Int→Bool)(k:Nat)(x:Int)(xs:List Int):Dt p k (x::xs)=if p x then (k:Int) else Dt p (k+1) xs:=rfl
theorem Ai3(N:Nat)(l:List Int)(hl:l.length<N)(hb:l.length≤6)(hx : ∀ x∈l,1≤x∧x≤2048):Tw (Rs N N (dI l) 1 0) (J2 (Bd l 1)):=by
 have key:=B3 l (fun m k (p:Int)=>Rs N m (dI l) p (k:Int)) (fun rest p=>J2 (Bd rest p)) (fun _ p=>1≤p∧p≤2048)
  (fun m k p hk hI=>by
   simp only[WF,B_,Amd]
   refine Aq (Ac ?_)
   show _=J2 p
   rw[J2,if_neg (by omega)])
  (fun m k p x rest hd hI ih=>by
   obtain ⟨h1,h2,h3⟩:=Bx hd
   have hxx:=hx x (Amh h2)
   have hp:=HE hI.1 hI.2 hxx.1 hxx.2
   simp only[WF,B_,Amd,Amj,As h2,Al,Bb k,At (x:=p*x) (by omega) (by omega)]
   repeat (refine Ad ?_)
   rw[Mm]
   refine Ae (fun h=>Ac ?_) (fun h=> ?_)
   · rw[if_pos h];rfl
   · rw[if_neg h];exact ih _ ⟨hp.1,by omega⟩)
  N 0 1 (by omega) (by omega) (by decide)
 exact key
theorem Ai4(l:List Int):Sp 52 [dI l] [.int (A5 l).1,.int (A5 l).2]:=by
  refine Af (l.length+1) (Ai5 _ _) ?_
  simp only[B_,Amd]
  unfold A5
  refine Ae (fun h=>Ac ?_) (fun h=> ?_)
  · rw[if_pos (by omega)]
  · rw[if_neg (by omega)]
    have key:=B3 l (fun m k (s:Bool×Bool)=>K_ (l.length+1) m (dI l) s.1 s.2 (k:Int))
      (fun rest s=>if rest.any (fun x=>decide (x<0)) then [.int 0,.int 3] else if s.1||rest.any (fun x=>decide (2048<x)) then [.int 0,.int 7] else if s.2||rest.any (fun x=>decide (x=0)) then [.int 0,.int 0] else J2 (Bd l 1))
      (fun rest s=>(∀ x∈l,(0≤x∧(s.1=true∨x≤2048)∧(s.2=true∨x≠0))∨x∈rest))
      (fun m k s hk hI=>by
        simp only[WG,B_,Amd]
        refine Aq (Bu (fun h1=>Ac ?_) (fun h1=>Bu (fun h2=>Ac ?_) (fun h2=> ?_)))
        · simp[h1]
        · simp[h1,h2]
        · simp only[h1,h2,List.any_nil,Bool.or_self,Bool.false_eq_true,if_false]
          refine Ai3 (l.length+1) l (by omega) (by omega) (fun x hx=> ?_)
          rcases hI x hx with ⟨a,b,c⟩ | b
          · rw[h1]at b;rw[h2]at c
            simp at b c
            omega
          · cases b)
      (fun m k s x rest hd hI ih=>by
        obtain ⟨h1,h2,h3⟩:=Bx hd
        simp only[WG,B_,Amd,Amj,As h2,Al,Bb k,Cd]
        repeat (refine Ad ?_)
        refine Ae (fun h=>Ac ?_) (fun h=> ?_)
        · simp[h]
        · have hih : ∀ s':Bool×Bool,s'=(s.1||decide (2048<x),s.2||decide (x=0))→Tw (K_ (l.length+1) m (dI l) s'.1 s'.2 ((k+1:Nat):Int)) (if (x::rest).any (fun x=>decide (x<0)) then [.int 0,.int 3] else if s.1||(x::rest).any (fun x=>decide (2048<x)) then [.int 0,.int 7] else if s.2||(x::rest).any (fun x=>decide (x=0)) then [.int 0,.int 0] else J2 (Bd l 1)):=fun s' hs'=>by
            have:=ih s' (fun y hy=>by
              subst hs'
              rcases hI y hy with ⟨a,b,c⟩ | b
              · refine .inl ⟨a,?_,?_⟩
                · rcases b with b | b
                  · left;simp[b]
                  · right;exact b
                · rcases c with b | b
                  · left;simp[b]
                  · right;exact b
              · rcases Amw.1 b with rfl | b
                · left
                  refine ⟨by omega,?_,?_⟩
                  · by_cases hh:2048<y
                    · left;simp[hh]
                    · right;omega
                  · by_cases hh:y=0
                    · left;simp[hh]
                    · right;exact hh
                · exact .inr b)
            subst hs'
            rw[List.any_cons,List.any_cons,List.any_cons,decide_eq_false h,Bool.false_or,← Bool.or_assoc,← Bool.or_assoc]
            exact this
          refine Bu (fun b1=>Bu (fun b2=> ?_) (fun b2=> ?_)) (fun b1=> ?_)
          · exact hih (true,true) (by simp[b1,b2])
          · repeat (refine Ad ?_)
            exact hih (true,decide (x=0)) (by simp[b1,b2])
          · repeat (refine Ad ?_)
            refine Bu (fun b2=> ?_) (fun b2=> ?_)
            · exact hih (decide (2048<x),true) (by simp[b1,b2])
            · repeat (refine Ad ?_)
              exact hih (decide (2048<x),decide (x=0)) (by simp[b1,b2]))
      (l.length+1) 0 (false,false) (by omega) (by omega) (fun x hx=> .inr hx)
    have e:(fun (c:Int×Int)=>[D.int c.1,D.int c.2]) (if l.any (fun x=>decide (x<0)) then (0,3) else if l.any (fun x=>decide (2048<x)) then (0,7)
      else if l.any (fun x=>decide (x=0)) then (0,0) else if Bd l 1=0 then (0,7) else (Bd l 1,0))=(if l.any (fun x=>decide (x<0)) then [.int 0,.int 3] else if false||l.any (fun x=>decide (2048<x)) then [.int 0,.int 7] else if false||l.any (fun x=>decide (x=0)) then [.int 0,.int 0] else J2 (Bd l 1)):=by
      simp only[Bool.false_or]
      split
      · rfl
      split
      · rfl
      split
      · rfl
      show _=J2 _
      unfold J2
      split <;> rfl
    show Tw _ ((fun (c:Int×Int)=>[D.int c.1,D.int c.2]) _)
    rw[e]
    exact key
theorem Vj(p:Int→Bool) : ∀ (l:List Int) (k:Nat),decide (0≤Dt p k l)=l.any p
 | [],k=>by simp[Dt]
 | x::xs,k=>by
  rw[Ad_,List.any_cons]
  by_cases hp:p x=true
  · rw[if_pos hp];simp[hp]
  · rw[if_neg hp,Vj p xs (k+1)];simp[hp]
theorem JM(l:List Int)(v:Int)(hb:l.length≤9223372036854775807):Sp 74 [dI l,.int v] [.bool (l.any (fun x=>decide (x=v)))]:=by
 refine Af 0 (Akf _ _ _) (Aa (ys:=[.int (Dt (fun x=>decide (x=v)) 0 l)]) ?_ (Ac ?_))
 · refine Af (l.length+1) (Akp _ _ _) ?_
   have key:=B3 l (fun m k (_:Unit)=>Z8 (l.length+1) m (dI l) v (l.length:Int) (k:Int)) (fun rest _=>[.int (Dt (fun x=>decide (x=v)) (l.length-rest.length) rest)]) (fun _ _=>True)
    (fun m k p hk hI=>by
     simp only[ZU]
     refine Aq (Ac ?_)
     simp[Dt])
    (fun m k p x rest hd hI ih=>by
     obtain ⟨h1,h2,h3⟩:=Bx hd
     have hle:=congrArg List.length hd;rw[Amp,Amg]at hle;have hk:l.length-(x::rest).length=k:=by rw[Amg];omega
     have hk':l.length-rest.length=k+1:=by omega
     simp only[ZU,B_,Amd,Amj,As h2,Al,Bb k,Cd]
     repeat (refine Ad ?_)
     simp only[Dt,hk]
     refine Ae (fun h=>Ac ?_) (fun h=> ?_)
     · simp[h]
     · have:=ih () trivial
       rw[hk']at this
       simpa [show ¬ x=v from fun e=>h e.symm]using this)
    (l.length+1) 0 () (by omega) (by omega) trivial
   simpa using key
 · exact congrArg (fun b=>[D.bool b]) (Vj _ l 0)
theorem AaT(x:Int):Sp 168 [.int x] [.bool (decide (x<0))]:=Af 0 (AjN _ _) (Ac rfl)
theorem AaU(x:Int):Sp 169 [.int x] [.bool (decide (2048<x))]:=Af 0 (AjO _ _) (Ac rfl)
theorem AaR(l:List Int)(hb:l.length≤6):Sp 167 [dI l,D.fn 168 [] []] [.bool (l.any (fun x=>decide (x<0)))]:=by
 refine Af 0 (Akd _ _) (Aa (ys:=[.int (Dt (fun x=>decide (x<0)) 0 l)]) ?_ (Ac ?_))
 · refine Af (l.length+1) (Akn _ _) ?_
   have key:=B3 l (fun m k (_:Unit)=>Hz (l.length+1) m (dI l) (D.fn 168 [] []) (l.length:Int) (k:Int)) (fun rest _=>[.int (Dt (fun x=>decide (x<0)) (l.length-rest.length) rest)]) (fun _ _=>True)
    (fun m k p hk hI=>by
     simp only[ZS]
     refine Aq (Ac ?_)
     simp[Dt])
    (fun m k p x rest hd hI ih=>by
     obtain ⟨h1,h2,h3⟩:=Bx hd
     have hle:=congrArg List.length hd;rw[Amp,Amg]at hle;have hk:l.length-(x::rest).length=k:=by rw[Amg];omega
     have hk':l.length-rest.length=k+1:=by omega
     simp only[ZS,B_,Amd,Amj,As h2,Al,Bb k,Gx,Gv,Gw,Amx]
     repeat (refine Ad ?_)
     refine Aa (AaT x) ?_
     simp only[Ag,Az,Dt,hk]
     refine Ae (fun h=>Ac ?_) (fun h=> ?_)
     · simp[h]
     · have:=ih () trivial
       rw[hk']at this
       simpa [h]using this)
    (l.length+1) 0 () (by omega) (by omega) trivial
   simpa using key
 · exact congrArg (fun b=>[D.bool b]) (Vj _ l 0)
theorem AaS(l:List Int)(hb:l.length≤6):Sp 167 [dI l,D.fn 169 [] []] [.bool (l.any (fun x=>decide (2048<x)))]:=by
 refine Af 0 (Ake _ _) (Aa (ys:=[.int (Dt (fun x=>decide (2048<x)) 0 l)]) ?_ (Ac ?_))
 · refine Af (l.length+1) (Ako _ _) ?_
   have key:=B3 l (fun m k (_:Unit)=>Hz (l.length+1) m (dI l) (D.fn 169 [] []) (l.length:Int) (k:Int)) (fun rest _=>[.int (Dt (fun x=>decide (2048<x)) (l.length-rest.length) rest)]) (fun _ _=>True)
    (fun m k p hk hI=>by
     simp only[ZT]
     refine Aq (Ac ?_)
     simp[Dt])
    (fun m k p x rest hd hI ih=>by
     obtain ⟨h1,h2,h3⟩:=Bx hd
     have hle:=congrArg List.length hd;rw[Amp,Amg]at hle;have hk:l.length-(x::rest).length=k:=by rw[Amg];omega
     have hk':l.length-rest.length=k+1:=by omega
     simp only[ZT,B_,Amd,Amj,As h2,Al,Bb k,Gx,Gv,Gw,Amx]
     repeat (refine Ad ?_)
     refine Aa (AaU x) ?_
     simp only[Ag,Az,Dt,hk]
     refine Ae (fun h=>Ac ?_) (fun h=> ?_)
     · simp[h]
     · have:=ih () trivial
       rw[hk']at this
       simpa [h]using this)
    (l.length+1) 0 () (by omega) (by omega) trivial
   simpa using key
 · exact congrArg (fun b=>[D.bool b]) (Vj _ l 0)
theorem AjS(l:List Int)(hb:l.length≤6)(hx : ∀ x∈l,1≤x∧x≤2048):Sp 170 [dI l] [.int (Bd l 1)]:=by
 refine Af (l.length+1) (ZJ _ _) ?_
 have key:=B3 l (fun m k (p:Int)=>R5 (l.length+1) m p (dI l) (l.length:Int) (k:Int)) (fun rest p=>[.int (Bd rest p)]) (fun _ p=>1≤p∧p≤2048)
  (fun m k p hk hI=>by
   simp only[Zw]
   exact Aq (Ac rfl))
  (fun m k p x rest hd hI ih=>by
   obtain ⟨h1,h2,h3⟩:=Bx hd
   have hxx:=hx x (Amh h2)
   have hp:=HE hI.1 hI.2 hxx.1 hxx.2
   simp only[Zw,B_,Amd,Amj,As h2,Al,Bb k,At (x:=p*x) (by omega) (by omega)]
   repeat (refine Ad ?_)
   simp only[Bd]
   refine Ae (fun h=>Ac ?_) (fun h=> ?_)
   · rw[if_pos h]
   · rw[if_neg h];exact ih _ ⟨hp.1,by omega⟩)
  (l.length+1) 0 1 (by omega) (by omega) (by decide)
 simpa using key
theorem Mv(l:List Int):Sp 81 [dI l] [.int (A5 l).1,.int (A5 l).2]:=by
 refine Af 0 (AjP _ _) ?_
 simp only[B_,Amd]
 unfold A5
 refine Ae (fun h=>Ac ?_) (fun h=> ?_)
 · rw[if_pos (by omega)]
 · rw[if_neg (by omega)]
   refine Aa (AaR l (by omega)) ?_
   simp only[Ag,Az]
   refine Bu (fun h1=>Ac (by rw[if_pos h1])) (fun h1=> ?_)
   rw[if_neg (by simp[h1])]
   refine Aa (AaS l (by omega)) ?_
   simp only[Ag,Az]
   refine Bu (fun h2=>Ac (by rw[if_pos h2])) (fun h2=> ?_)
   rw[if_neg (by simp[h2])]
   refine Aa (JM l 0 (by omega)) ?_
   simp only[Ag,Az]
   refine Bu (fun h3=>Ac (by rw[if_pos h3])) (fun h3=> ?_)
   rw[if_neg (by simp[h3])]
   refine Aa (AjS l (by omega) (Tt (by simp[h1]) (by simp[h2]) (by simp[h3]))) ?_
   simp only[Ag,Al,Cd]
   refine Ae (fun h4=>Ac (by rw[if_pos h4])) (fun h4=>Ac (by rw[if_neg h4]))
theorem WH(a b:List Int)(ha:a.length≤9223372036854775807):Sp 54 [dI a,dI b] [.bool (decide (a=b))]:=by
 refine Af (a.length+1) (Ai7 _ _ _) ?_
 simp only[B_,Amd,C0]
 refine Ae (fun h=>Ac ?_) (fun h=> ?_)
 · rw[decide_eq_false];rintro rfl;exact h rfl
 · exact Ul D.int NH a b (by omega) ha (fun m i=>Yg (a.length+1) m (dI a) (dI b) i) (fun m i=>Ai6 _ _ _ _ _)
def V6(c:Int):Bool:=decide (0≤c∧c≤1114111∧(c<55296∨57343<c))
theorem Ae6(c:Int):Tw (.br (decide (0≤c)) (.br (decide (c≤1114111)) (.br (decide (c<55296)) (.ret [D.bool true]) (.ret [D.bool (decide (57343<c))])) (.ret [D.bool false])) (.ret [D.bool false])) [.bool (V6 c)]:=by
 unfold V6
 refine Ae (fun h1=>Ae (fun h2=>Ae (fun h3=>Ac ?_) (fun h3=>Ac ?_)) (fun h2=>Ac ?_)) (fun h1=>Ac ?_)
 · rw[decide_eq_true (by omega)]
 · congr 2;rw[decide_eq_decide];omega
 · rw[decide_eq_false (by omega)]
 · rw[decide_eq_false (by omega)]
theorem Ai1(c:Int):Sp 135 [.int c] [.bool (V6 c)]:=Af 0 (Ai2 _ _) (Ae6 c)
open Go.ChangeShapes Go.WideShapes Go.ChangeAt Go.RowKit
section
variable {P:Program} {md:Nat→FMode}
theorem Aef{F:Nat}{fn:Func}{xs:List D}{vs:List Value}{W:World}{tb:Nat}(hs:Dq P md F [] xs [.bool true])(hfn:P.funcs[F]? = some fn)(hm:md F = {})(hrt:fn.resultTypes = #[tb])(htb:P.underlying tb=some .bool)
   (hlx:xs.length=fn.params.size) (hlv:vs.length=fn.params.size) (hrd : ∀ (i t:Nat) (x:D) (v:Value),fn.params.toList[i]? = some t→xs[i]? = some x→vs[i]? = some v→Rd P md W (fun _=>False) (.ty t) x v) :
   Calls P F vs.toArray W (fun e w'=>e = .returned (.bool true)∧Ext W w'):=by
 obtain ⟨fn',h1,_,_,h⟩:=hs
 rw[hfn]at h1
 injection h1 with h1
 subst h1
 refine (h W (fun _=>False) vs 0 1 (fun k hk=>by rw[hm]at hk;cases hk) ⟨by simp[hlx],by simp[hlv],fun b hb=>hb.elim,?_,fun p hp=>by rw[hm]at hp;cases hp⟩).mono ?_
 · intro i ct x v hc hx hv _
   simp only[Amx,Ams,Amq]at hc
   obtain ⟨t,ht,rfl⟩:=hc
   have:=hrd i t x v ht hx hv
   exact ⟨this.rd.mono (Amo _) (fun _ _ _=>rfl) (fun b hb _=>by
    rcases hb with hb | ⟨p,u,hp,_⟩
    · exact hb
    · rw[hm]at hp;cases hp),this.size,this.agg⟩
 · rintro e w' ⟨us,β',hp⟩
   have hl:=hp.len
   rw[hrt]at hl
   have : ∃ u,us = [u]:=by
    match us,hl with
    | [u],_=>exact ⟨u,rfl⟩
   obtain ⟨u,rfl⟩:=this
   have hv:=hp.vl [.b true] (by rw[hrt,hm];simp[D_,Fo,Bv,htb,D.toBool,List.getD]) 0 (.b true) u rfl rfl
   have hu:=Kj hv
   subst hu
   refine ⟨hp.ending,?_⟩
   have:=hp.stp
   refine Stp.ext (this.weak fun b ⟨p,v,h1,_⟩=> ?_)
   rw[hm]at h1;cases h1
theorem Ot{t:Nat}{k:IntKind}{w:World}{M:Nat→Prop}{y:D}{c:Nat→Option Value}(h:RdC P md w M (.ty t) y c)(ht:P.underlying t=some (.int k)) : ∃ n,y = .int n∧k.min≤n∧n≤k.max:=by
 cases h <;> simp_all [CT.desc]
 all_goals (rename_i hf _;obtain ⟨⟨a,ha,_⟩,_⟩:=Cl hf;rw[ht]at ha;cases ha)
theorem Ah7{t:Nat}{w:World}{M:Nat→Prop}{y:D}{c:Nat→Option Value}(h:RdC P md w M (.ty t) y c)(ht:P.underlying t=some .bool) : ∃ b,y = .bool b:=by
 cases h <;> simp_all [CT.desc]
 all_goals (rename_i hf _;obtain ⟨⟨a,ha,_⟩,_⟩:=Cl hf;rw[ht]at ha;cases ha)
theorem Xq{t e:Nat}{w:World}{M:Nat→Prop}{y:D}{c:Nat→Option Value}(h:RdC P md w M (.ty t) y c)(ht:P.underlying t=some (.slice e)) : ∃ es,y = .sl es∧es.length≤maxLen∧∀ x∈es,∃ c',RdC P md w M (.ty e) x c':=by
 cases h with
 | sl ht' hc h1 h2 hA hh =>
  have:P.underlying t=some (.slice _):=ht'
  rw[ht]at this
  injection this with this
  injection this with this
  subst this
  refine ⟨_,rfl,Nat.le_trans h1 h2,fun x hx=> ?_⟩
  obtain ⟨i,hi,rfl⟩:=List.getElem_of_mem hx
  exact ⟨_,hh i _ (Amb hi)⟩
 | struct hf _ _=>obtain ⟨⟨a,ha,_⟩,_⟩:=Cl hf;rw[ht]at ha;cases ha
 | int ht'=>have:P.underlying t=_:=ht';rw[ht]at this;cases this
 | bool ht'=>have:P.underlying t=_:=ht';rw[ht]at this;cases this
 | str ht'=>have:P.underlying t=_:=ht';rw[ht]at this;cases this
 | fn ht'=>have:P.underlying t=_:=ht';rw[ht]at this;cases this
 | mp ht'=>have:P.underlying t=_:=ht';rw[ht]at this;cases this
 | ref ht'=>have:P.underlying t=_:=ht';rw[ht]at this;cases this
theorem IA{t:Nat}{fs:List Field}{w:World}{M:Nat→Prop}{y:D}{c:Nat→Option Value}(h:RdC P md w M (.ty t) y c)(ht:Cz P t=some fs) : ∃ ds,y = .agg ds∧ds.length=fs.length∧∀ (i:Nat) (f:Field) (d:D),fs[i]? = some f→ds[i]? = some d→∃ c',RdC P md w M (.ty f.type) d c':=by
 obtain ⟨⟨a,ha,_⟩,_⟩:=Cl ht
 cases h with
 | struct hf hl hh =>
  rw[ht]at hf
  injection hf with hf
  subst hf
  exact ⟨_,rfl,hl,fun i f d h1 h2=>⟨_,hh i f d h1 h2⟩⟩
 | sl ht'=>have:P.underlying t=_:=ht';rw[ha]at this;cases this
 | int ht'=>have:P.underlying t=_:=ht';rw[ha]at this;cases this
 | bool ht'=>have:P.underlying t=_:=ht';rw[ha]at this;cases this
 | str ht'=>have:P.underlying t=_:=ht';rw[ha]at this;cases this
 | fn ht'=>have:P.underlying t=_:=ht';rw[ha]at this;cases this
 | mp ht'=>have:P.underlying t=_:=ht';rw[ha]at this;cases this
 | ref ht'=>have:P.underlying t=_:=ht';rw[ha]at this;cases this
theorem Ah8{t e:Nat}{w:World}{M:Nat→Prop}{y:D}{c:Nat→Option Value}(h:RdC P md w M (.ty t) y c)(ht:P.underlying t=some (.slice e))(he:P.underlying e=some (.int .i64)) : ∃ l,y=dI l∧l.length≤maxLen∧∀ x∈l,-9223372036854775808≤x∧x≤9223372036854775807:=by
 obtain ⟨es,rfl,hl,hh⟩:=Xq h ht
 have : ∃ l:List Int,es=l.map .int∧∀ x∈l,-9223372036854775808≤x∧x≤9223372036854775807:=by
  clear hl h
  induction es with
  | nil=>exact ⟨[],rfl,fun _ h=>by cases h⟩
  | cons x es ih =>
   obtain ⟨l,rfl,hl⟩:=ih (fun y hy=>hh y (by simp[hy]))
   obtain ⟨c',hc⟩:=hh x (by simp)
   obtain ⟨n,rfl,h1,h2⟩:=Ot hc he
   exact ⟨n::l,rfl,fun y hy=>by rcases Amw.1 hy with rfl | hy;exact ⟨h1,h2⟩;exact hl y hy⟩
 obtain ⟨l,rfl,h2⟩:=this
 exact ⟨l,rfl,by simpa using hl,h2⟩
theorem VE{t e:Nat}{w:World}{M:Nat→Prop}{y:D}{c:Nat→Option Value}(h:RdC P md w M (.ty t) y c)(ht:P.underlying t=some (.slice e))(he:P.underlying e=some (.int .u32)) : ∃ l:List Ao,y=dL l∧l.length≤maxLen:=by
 obtain ⟨es,rfl,hl,hh⟩:=Xq h ht
 have : ∃ l:List Ao,es=l.map dB:=by
  clear hl h
  induction es with
  | nil=>exact ⟨[],rfl⟩
  | cons x es ih =>
   obtain ⟨l,rfl⟩:=ih (fun y hy=>hh y (by simp[hy]))
   obtain ⟨c',hc⟩:=hh x (by simp)
   obtain ⟨n,rfl,h1,h2⟩:=Ot hc he
   have h1:0≤n:=h1
   have h2:n≤4294967295:=h2
   refine ⟨Amt 32 n.toNat::l,?_⟩
   simp only[Ani,dB,BitVec.toNat_ofNat]
   rw[Am4 (by omega),Int.toNat_of_nonneg h1]
 obtain ⟨l,rfl⟩:=this
 exact ⟨l,rfl,by simpa using hl⟩
theorem HY{t:Nat}{w:World}{M:Nat→Prop}{y:D}{c:Nat→Option Value}(h:RdC P md w M (.ty t) y c)(ht:P.underlying t=some (.int .u64)) : ∃ l:Ap,y=dB l:=by
 obtain ⟨n,rfl,h1,h2⟩:=Ot h ht
 have h1:0≤n:=h1
 have h2:n≤18446744073709551615:=h2
 refine ⟨Amt 64 n.toNat,?_⟩
 simp only[dB,BitVec.toNat_ofNat]
 rw[Am4 (by omega),Int.toNat_of_nonneg h1]
end
end Go.Proofs.YtokkbgpgaheakaaGreat
namespace Go.Proofs.YtokkbgpgaheakaaGreat
open Go.ChangeShapes Go.WideShapes Go.ChangeAt Go.RowKit
theorem QF{α:Type}{l:List α}(h:l.length=3) : ∃ a b c,l = [a,b,c]:=by
 match l,h with
 | [a,b,c],_=>exact ⟨a,b,c,rfl⟩
theorem Aek{α:Type}{l:List α}(h:l.length=5) : ∃ a b c d e,l = [a,b,c,d,e]:=by
 match l,h with
 | [a,b,c,d,e],_=>exact ⟨a,b,c,d,e,rfl⟩
inductive Fits:Arr→Prop where
 | mk {s:Ap} {sh:List Int} {cs:List Cell} (h1:sh.length≤maxLen) (h2:cs.length≤maxLen) (h3 : ∀ c∈cs,c.n.top.length≤maxLen∧c.n.bot.length≤maxLen∧c.inn.length≤maxLen) (h5 : ∀ x∈sh,-9223372036854775808≤x∧x≤9223372036854775807)
  (h4 : ∀ c∈cs,∀ x∈c.inn,Fits x):Fits (.mk s sh cs)
theorem AcW:(Cz Tryz.prog 64).map (fun fs=>fs.map (·.type))=some [4,62,62]:=by kernel_rfl
theorem AcV:(Cz Tryz.prog 67).map (fun fs=>fs.map (·.type))=some [22,3,64,3,65]:=by kernel_rfl
theorem AcU:(Cz Tryz.prog 26).map (fun fs=>fs.map (·.type))=some [22,23,24]:=by kernel_rfl
theorem Is{fs:List Field}{ts:List Nat}(h:fs.map (·.type)=ts){i t:Nat}(ht:ts[i]? = some t) : ∃ f,fs[i]? = some f∧f.type=t:=by
 subst h
 simpa [Ams,Amq]using ht
theorem Ah9{w:World}{M:Nat→Prop}{y:D}{c:Nat→Option Value}(h:RdC Tryz.prog md w M (.ty 64) y c) : ∃ n,y=dN n∧n.top.length≤maxLen∧n.bot.length≤maxLen:=by
 obtain ⟨fs,hf,ht⟩:=Amq.1 AcW
 obtain ⟨ds,rfl,hl,hh⟩:=IA h hf
 have:fs.length=3:=by rw[← Amd (f:=(·.type)),ht];rfl
 obtain ⟨a,b,c,rfl⟩:=QF (by rw[hl,this])
 obtain ⟨f0,hf0,e0⟩:=Is ht (i:=0) rfl
 obtain ⟨f1,hf1,e1⟩:=Is ht (i:=1) rfl
 obtain ⟨f2,hf2,e2⟩:=Is ht (i:=2) rfl
 obtain ⟨_,h0⟩:=hh 0 f0 a hf0 rfl
 obtain ⟨_,h1⟩:=hh 1 f1 b hf1 rfl
 obtain ⟨_,h2⟩:=hh 2 f2 c hf2 rfl
 rw[e0]at h0;rw[e1]at h1;rw[e2]at h2
 obtain ⟨n,rfl⟩:=Ah7 h0 (by kernel_rfl)
 obtain ⟨t,rfl,l1⟩:=VE h1 (e:=180) (by kernel_rfl) (by kernel_rfl)
 obtain ⟨t',rfl,l2⟩:=VE h2 (e:=180) (by kernel_rfl) (by kernel_rfl)
 exact ⟨⟨n,t,t'⟩,rfl,l1,l2⟩
mutual
def D.sz:D→Nat
 | .agg fs=>1+D.szL fs | .sl es=>1+D.szL es | _=>0
def D.szL:List D→Nat
 | []=>0 | x::xs=>1+x.sz+D.szL xs
end
theorem VC : ∀ (k:Nat) {w:World} {M:Nat→Prop} {y:D} {c:Nat→Option Value},y.sz<k→RdC Tryz.prog md w M (.ty 26) y c→∃ a,y=dA a∧Fits a
 | 0,_,_,_,_,hk,_=>by omega
 | k+1,w,M,y,c,hk,h=>by
  obtain ⟨fs,hf,ht⟩:=Amq.1 AcU
  obtain ⟨ds,rfl,hl,hh⟩:=IA h hf
  have:fs.length=3:=by rw[← Amd (f:=(·.type)),ht];rfl
  obtain ⟨a,b,c,rfl⟩:=QF (by rw[hl,this])
  obtain ⟨f0,hf0,e0⟩:=Is ht (i:=0) rfl
  obtain ⟨f1,hf1,e1⟩:=Is ht (i:=1) rfl
  obtain ⟨f2,hf2,e2⟩:=Is ht (i:=2) rfl
  obtain ⟨_,h0⟩:=hh 0 f0 a hf0 rfl
  obtain ⟨_,h1⟩:=hh 1 f1 b hf1 rfl
  obtain ⟨_,h2⟩:=hh 2 f2 c hf2 rfl
  rw[e0]at h0;rw[e1]at h1;rw[e2]at h2
  obtain ⟨s,rfl⟩:=HY h0 (by kernel_rfl)
  obtain ⟨sh,rfl,l1,l1'⟩:=Ah8 h1 (e:=3) (by kernel_rfl) (by kernel_rfl)
  obtain ⟨es,rfl,l2,hes⟩:=Xq h2 (e:=67) (by kernel_rfl)
  have hsz:D.szL es<k:=by simp only[D.sz,D.szL]at hk;omega
  have key : ∃ cs:List Cell,es=cs.map dC∧(∀ c∈cs,c.n.top.length≤maxLen∧c.n.bot.length≤maxLen∧c.inn.length≤maxLen)∧∀ c∈cs,∀ x∈c.inn,Fits x:=by
   clear l2 h2 h hh h0 h1 hf0 hf1 hf2 e0 e1 e2 hl hk
   induction es with
   | nil=>exact ⟨[],rfl,(fun _ h=>by cases h),(fun _ h=>by cases h)⟩
   | cons x es ih =>
    simp only[D.szL]at hsz
    obtain ⟨cs,rfl,g1,g2⟩:=ih (fun y hy=>hes y (by simp[hy])) (by omega)
    obtain ⟨_,hx⟩:=hes x (by simp)
    obtain ⟨fs,hf,ht⟩:=Amq.1 AcV
    obtain ⟨ds,rfl,hl,hh⟩:=IA hx hf
    have:fs.length=5:=by rw[← Amd (f:=(·.type)),ht];rfl
    obtain ⟨a,b,c,d,e,rfl⟩:=Aek (by rw[hl,this])
    obtain ⟨f0,hf0,e0⟩:=Is ht (i:=0) rfl
    obtain ⟨f1,hf1,e1⟩:=Is ht (i:=1) rfl
    obtain ⟨f2,hf2,e2⟩:=Is ht (i:=2) rfl
    obtain ⟨f3,hf3,e3⟩:=Is ht (i:=3) rfl
    obtain ⟨f4,hf4,e4⟩:=Is ht (i:=4) rfl
    obtain ⟨_,h0⟩:=hh 0 f0 a hf0 rfl
    obtain ⟨_,h1⟩:=hh 1 f1 b hf1 rfl
    obtain ⟨_,h2⟩:=hh 2 f2 c hf2 rfl
    obtain ⟨_,h3⟩:=hh 3 f3 d hf3 rfl
    obtain ⟨_,h4⟩:=hh 4 f4 e hf4 rfl
    rw[e0]at h0;rw[e1]at h1;rw[e2]at h2;rw[e3]at h3;rw[e4]at h4
    obtain ⟨l,rfl⟩:=HY h0 (by kernel_rfl)
    obtain ⟨kd,rfl,_⟩:=Ot h1 (k:= .i64) (by kernel_rfl)
    obtain ⟨n,rfl,n1,n2⟩:=Ah9 h2
    obtain ⟨ch,rfl,_⟩:=Ot h3 (k:= .i64) (by kernel_rfl)
    obtain ⟨as_,rfl,l4,has⟩:=Xq h4 (e:=26) (by kernel_rfl)
    have hsz4:D.szL as_<k:=by simp only[D.sz,D.szL]at hsz;omega
    have key2 : ∃ bs:List Arr,as_=bs.map dA∧∀ x∈bs,Fits x:=by
      clear h4 hh hx hes ih l4 hsz hl
      induction as_ with
      | nil=>exact ⟨[],rfl,fun _ h=>by cases h⟩
      | cons z zs ihz =>
       simp only[D.szL]at hsz4
       obtain ⟨bs,rfl,hb⟩:=ihz (fun y hy=>has y (by simp[hy])) (by omega)
       obtain ⟨_,hz⟩:=has z (by simp)
       obtain ⟨a,rfl,ha⟩:=VC k (by omega) hz
       exact ⟨a::bs,rfl,fun y hy=>by rcases Amw.1 hy with rfl | hy;exact ha;exact hb y hy⟩
    obtain ⟨bs,rfl,hb⟩:=key2
    refine ⟨⟨l,kd,n,ch,bs⟩::cs,by simp[Dr],fun c hc=> ?_,fun c hc=> ?_⟩
    · rcases Amw.1 hc with rfl | hc
      · exact ⟨n1,n2,by simpa using l4⟩
      · exact g1 c hc
    · rcases Amw.1 hc with rfl | hc
      · exact hb
      · exact g2 c hc
  obtain ⟨cs,rfl,g1,g2⟩:=key
  exact ⟨.mk s sh cs,(Ac1 s sh cs),.mk l1 (by simpa using l2) g1 l1' g2⟩
def Aee:List Nat:=[4,3,22,180,62,23,64,67,26,65,24]
theorem EY:GT Tryz.prog Aee=true:=by kernel_rfl
section
variable {H:Type} {enc:TypeId×Value→H} {W:World} {sp:Nat→Bool} {held:Bool} {r:Reach} {b0:Nat} {v:Value} {d:DataW H} {ps:List MemPlace}
theorem S3(hval:Value.okWide Tryz.prog W r b0 26 v)(h:DataW.Trod enc Tryz.prog W 0 sp held 26 v d ps) : ∃ a,Fits a∧Rd Tryz.prog md W (fun _=>False) (.ty 26) (dA a) v:=by
 obtain ⟨y,hy,hyw⟩:=BV (md:=md) Kk EY (by decide) hval h
 obtain ⟨a,rfl,ha⟩:=VC _ (Nat.lt_succ_self _) hy.rd
 exact ⟨a,ha,hy⟩
theorem Abr(hval:Value.okWide Tryz.prog W r b0 22 v)(h:DataW.Trod enc Tryz.prog W 0 sp held 22 v d ps) : ∃ a:Ap,Rd Tryz.prog md W (fun _=>False) (.ty 22) (dB a) v:=by
 obtain ⟨y,hy,hyw⟩:=BV (md:=md) Kk EY (by decide) hval h
 obtain ⟨a,rfl⟩:=HY hy.rd (by kernel_rfl)
 exact ⟨a,hy⟩
theorem Abq(hval:Value.okWide Tryz.prog W r b0 3 v)(h:DataW.Trod enc Tryz.prog W 0 sp held 3 v d ps) : ∃ a:Int,(-9223372036854775808≤a∧a≤9223372036854775807)∧Rd Tryz.prog md W (fun _=>False) (.ty 3) (.int a) v:=by
 obtain ⟨y,hy,hyw⟩:=BV (md:=md) Kk EY (by decide) hval h
 obtain ⟨a,rfl,h1,h2⟩:=Ot hy.rd (k:= .i64) (by kernel_rfl)
 exact ⟨a,⟨h1,h2⟩,hy⟩
end
end Go.Proofs.YtokkbgpgaheakaaGreat
