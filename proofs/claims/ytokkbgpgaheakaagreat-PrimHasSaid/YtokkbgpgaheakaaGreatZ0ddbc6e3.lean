/- Proved: lemmas for the law of this folder, part 4. No condition. -/
import Derived.Test.YtokkbgpgaheakaaGreatRows
import Derived.WalkKit
import Derived.WalkSpells
import Derived.WalkLawsBesides
import Derived.Lib.Hide
import Derived.Laws.CopyOwn
import Derived.Deep.QuietTactic
import Derived.BigQuiet
import Derived.Orders
import Derived.Defers
import Derived.Recover
import Derived.Test.YtokkbgpgaheakaaGreatProg
import Derived.KernelRfl
import Derived.ProofKit
import Derived.OpenShut
import Derived.Maps.OwnRows
import Derived.Maps.Views
import Derived.Deep.RegionHeld3
import Derived.Deep.AppendLies
import Derived.Test.YtokkbgpgaheakaaGreatZ0bb76482
set_option linter.unusedSimpArgs false
set_option linter.unusedVariables false
set_option maxRecDepth 100000
open Array renaming getElem?_eq_getElem → Al3, getElem?_eq_some_iff → Amc, getD_eq_getD_getElem? → Amf
open BitVec renaming ofNat → Al0
open Bool renaming and_eq_true → Alp
open Classical renaming not_not → Alt
open Int renaming toNat → Alf, toNat_natCast → Aln, fdiv → Al8
open Go.IntKind renaming wrap → Ale, bits → Alq
open List renaming getElem?_eq_getElem → Alg, replicate → Alh, length_map → Ali, getElem?_eq_some_iff → Alj, getD_eq_getElem?_getD → Alk, length_cons → All, mem_of_getElem? → Alm, length_append → Alr, length_drop → Alu, length_take → Alw, mem_cons → Alx, getElem?_map → Aly, length_nil → Alz, append_nil → Al2, append_assoc → Al4, getElem?_append_left → Al5, drop_eq_getElem_cons → Al6, length_eq_zero_iff → Al7, take_append_drop → Ama, take_of_length_le → Amb, range → Amd, length_replicate → Amg, getElem_mem → Amj, map_cons → Aml, nil_append → Amo
open Nat renaming le_refl → Als, mul_le_mul_right → Al1, mod_lt → Al9, mod_eq_of_lt → Al_, lt_of_lt_of_le → Ame, mul_comm → Ami, pow_succ → Amk, div_lt_iff_lt_mul → Amm, zero_add → Amn
open Option renaming map_eq_some_iff → Alv, bind_eq_some_iff → Amh
open Option.some renaming injEq → Alo
namespace Go.Proofs.YtokkbgpgaheakaaGreat
def PE:List (Nat×FMode):=[(299,{ own:=[(0,[])] }),(96,{ own:=[(0,[])] }),(139,{ own:=[(0,[])] }),(247,{ own:=[(0,[])] }),(248,{ own:=[(0,[])] }),(175,{ own:=[(0,[])] }),(331,{ arg:=some 0,back:=true }),(144,{ arg:=some 0,back:=true }),(97,{ noop:=true }),(103,{ noop:=true }),(180,{ noop:=true }),(183,{ noop:=true }),(184,{ noop:=true }),(186,{ noop:=true }),(151,{ noop:=true }),(154,{ noop:=true }),(187,{ noop:=true }),(191,{ noop:=true }),(89,{ noop:=true }),(94,{ noop:=true }),(141,{ noop:=true }),(143,{ noop:=true }),(85,{ noop:=true }),(99,{ own:=[(0,[0]),(0,[1])] }),(150,{ own:=[(0,[])],arg:=some 0 }),(250,{ arg:=some 0,back:=true }),(251,{ arg:=some 0,back:=true }),(300,{ arg:=some 0,back:=true }),(322,{ arg:=some 0,back:=true }),(217,{ arg:=some 0,back:=true }),(155,{ arg:=some 0,back:=true }),(336,{ own:=[(0,[])] }),(174,{ own:=[(0,[])],arg:=some 1 }),(93,{ arg:=some 0,back:=true }),(95,{ arg:=some 0,back:=true }),(142,{ arg:=some 0,back:=true }),(145,{ arg:=some 0,back:=true }),(1000000+94,{ arg:=some 0,back:=true })]
def md(f:Nat):FMode:=Qn PE f
theorem La:WfP Tryz.prog:=AkD (by kernel_rfl)
theorem AdB:Tryz.prog.follows .mixedOrders=true:=by kernel_rfl
theorem Ae3:Ez Tryz.prog 97:=Fs (by kernel_rfl)
theorem Ae4:Ez Tryz.prog 103:=Fs (by kernel_rfl)
theorem Ae_:Ez Tryz.prog 180:=Fs (by kernel_rfl)
theorem AeA:Ez Tryz.prog 183:=Fs (by kernel_rfl)
theorem AeB:Ez Tryz.prog 184:=Fs (by kernel_rfl)
theorem AeC:Ez Tryz.prog 186:=Fs (by kernel_rfl)
theorem AeD:Ez Tryz.prog 151:=Fs (by kernel_rfl)
theorem AeE:Ez Tryz.prog 154:=Fs (by kernel_rfl)
theorem AeF:Ez Tryz.prog 187:=Fs (by kernel_rfl)
theorem AeG:Ez Tryz.prog 191:=Fs (by kernel_rfl)
theorem Ae5:Ez Tryz.prog 89:=Fs (by kernel_rfl)
theorem Ae6:Ez Tryz.prog 94:=Fs (by kernel_rfl)
theorem Ae7:Ez Tryz.prog 141:=Fs (by kernel_rfl)
theorem Ae8:Ez Tryz.prog 143:=Fs (by kernel_rfl)
theorem Ae9:Ez Tryz.prog 85:=Fs (by kernel_rfl)
theorem Ae2:Sn Tryz.prog md:=AeH (by
 intro p hp hn
 simp only[PE,Alx,List.not_mem_nil,or_false]at hp
 rcases hp with rfl | rfl | rfl | rfl | rfl | rfl | rfl | rfl | rfl | rfl | rfl | rfl | rfl | rfl | rfl | rfl | rfl | rfl | rfl | rfl | rfl | rfl | rfl | rfl | rfl | rfl | rfl | rfl | rfl | rfl | rfl | rfl | rfl | rfl | rfl | rfl | rfl | rfl
 all_goals first | exact absurd hn (by decide) | skip
 · exact Ae3
 · exact Ae4
 · exact Ae_
 · exact AeA
 · exact AeB
 · exact AeC
 · exact AeD
 · exact AeE
 · exact AeF
 · exact AeG
 · exact Ae5
 · exact Ae6
 · exact Ae7
 · exact Ae8
 · exact Ae9
 )
theorem Af{f:Nat}{cts:List CT}{xs ys:List D}{orc:List (Nat×Orc)}{t:Tree}(n:Nat)(h:T_ Tryz.prog md orc n f cts xs=t)(ht:t.wp Tryz.prog md (fun zs=>zs=ys)):Dn Tryz.prog md f cts xs ys :=
 Ac0 La AdB Ae2 (orc:=orc) (n:=n) (by rw[h];exact ht)
def Jl:ByteArray:=(⟨#[0,1,2,2,3,3,3,3,4,4,4,4,4,4,4,4,5,5,5,5,5,5,5,5,5,5,5,5,5,5,5,5,6,6,6,6,6,6,6,6,6,6,6,6,6,6,6,6,6,6,6,6,6,6,6,6,6,6,6,6,6,6,6,6,7,7,7,7,7,7,7,7,7,7,7,7,7,7,7,7,7,7,7,7,7,7,7,7,7,7,7,7,7,7,7,7,7,7,7,7,7,7,7,7,7,7,7,7,7,7,7,7,7,7,7,7,7,7,7,7,7,7,7,7,7,7,7,7,8,8,8,8,8,8,8,8,8,8,8,8,8,8,8,8,8,8,8,8,8,8,8,8,8,8,8,8,8,8,8,8,8,8,8,8,8,8,8,8,8,8,8,8,8,8,8,8,8,8,8,8,8,8,8,8,8,8,8,8,8,8,8,8,8,8,8,8,8,8,8,8,8,8,8,8,8,8,8,8,8,8,8,8,8,8,8,8,8,8,8,8,8,8,8,8,8,8,8,8,8,8,8,8,8,8,8,8,8,8,8,8,8,8,8,8,8,8,8,8,8,8,8,8,8,8,8,8]⟩:ByteArray)
noncomputable def eA(O:List (Nat×Orc))(n F:Nat)(p:List Nat):=ev Tryz.prog md n O (Jv (AZ Tryz.prog F) p)
noncomputable def jA(O:List (Nat×Orc))(n F:Nat)(p:List Nat):=Vb Tryz.prog md (Va O (Jv (AZ Tryz.prog F) p)) (ev Tryz.prog md n O (Jv (AZ Tryz.prog F) p))
noncomputable def rA(F:Nat)(a:List Nat)(b:List ResultVar)(c:List Nat):=GJ Tryz.prog md (md F) a b c
noncomputable def lA:=Ua Tryz.prog md
noncomputable abbrev fA:=T_ Tryz.prog md
noncomputable abbrev kK (c:Prop) [Decidable c] (t:Tree):Tree:= .br (decide c) t .fail
noncomputable abbrev bK (c:Prop) [Decidable c] (t e:Tree):Tree:= .br (decide c) t e
noncomputable abbrev cK (f:Nat) (x:List D) (k:List D→Tree):Tree:= .call f [] x k
def uA(n:Nat):List L:=Alh n .undef
def Sx:List (Nat×Orc):=[(5,⟨[(4,none),(18,some 24),(19,none),(20,none)],[],[(.slot 4,1050,3)]⟩)]
noncomputable def Sw(n m5:Nat)(out4:List D)(t18:D)(t19 t20:Int):Tree :=
 lA (eA Sx n 80 [1,1,1,0,1,0,0]) (Al Sx 5) m5 ⟨(uA 4++(.row 1050::uA 13++(.d 24 t18:: .i .i64 t19:: .i .i64 t20::uA 22))),[(1050,.row 3 out4 true)],[1050],[],[]⟩
  (Ai 0 (An (jA Sx n 80 [1,1,1,1]) (rA 80 [26] [.tmp 2,.tmp 3] [23,29])))
theorem JS(n m5:Nat)(out4:List D)(t18:D)(t19 t20:Int):Sw n (m5+1) out4 t18 t19 t20 =
 bK (t20<t19) (kK (0≤t20) (kK (t20<(t18.els.length:Int)) (cK 166 [(t18.els.getD (Alf t20) D.nil).fld 2] fun Y1 =>
 .br ((((t18.els.getD (Alf t20) D.nil).fld 1).toInt)!=0) (.ret [D.sl [],D.int 3])
 (.br (!((qB Y1).toBool)) (.ret [D.sl [],D.int 3])
 (kK (out4.length + [D.int ((qA Y1).toInt)].length≤Aj) (Sw n m5 (out4++[D.int ((qA Y1).toInt)]) t18 t19 (Ale .i64 (t20+1))))))))
 (.ret [D.sl out4,D.int 0]):=by kernel_rfl
theorem Aa3(n:Nat)(a0:D):fA Sx n 80 [] [a0] =
 bK (1<(((a0.fld 1).els).length:Int)) (.ret [D.sl [],D.int 5])
 (kK (0≤0) (kK (0≤(((a0.fld 2).els).length:Int)) (kK ((((a0.fld 2).els).length:Int)≤Aj) (Sw n n (Alh (Alf 0) (D.int 0)) (a0.fld 2) (((a0.fld 2).els).length:Int) 0)))):=by kernel_rfl
theorem Aa1(n:Nat)(a0:D):fA [] n 82 [] [a0] =
 .br ((((a0.fld 2).els).length:Int)==0) (cK 138 [D.int 0] fun Y1 =>
 .ret [qA Y1])
 (cK 138 [D.int 0] fun Y2 =>
 kK (0≤0) (kK (0<(((a0.fld 2).els).length:Int)) (.br ((((((a0.fld 2).els).getD (Alf 0) D.nil).fld 1).toInt)==1) (cK 171 [D.int 32] fun Y3 =>
 kK (0≤0) (kK (0<(((a0.fld 2).els).length:Int)) (.ret [D.agg [D.int (((((a0.fld 2).els).getD (Alf 0) D.nil).fld 0).toInt),D.int (((qA Y3).fld 1).toInt),(qA Y3).fld 2,D.int (((qA Y3).fld 3).toInt),(qA Y3).fld 4]])))
 (kK (0≤0) (kK (0<(((a0.fld 2).els).length:Int)) (.ret [D.agg [D.int (((((a0.fld 2).els).getD (Alf 0) D.nil).fld 0).toInt),D.int (((qA Y2).fld 1).toInt),(qA Y2).fld 2,D.int (((qA Y2).fld 3).toInt),(qA Y2).fld 4]])))))):=by kernel_rfl
def Hc:List (Nat×Orc):=[(3,⟨[(3,none),(11,some 24),(12,none),(13,none)],[],[]⟩),(7,⟨[(3,none),(11,some 24),(12,none),(13,none),(22,some 65),(23,none),(24,none)],[],[]⟩)]
noncomputable def Sz(n m3 m7:Nat)(out3:Int)(t11:D)(t12 t13:Int)(t22:D)(t23 t24:Int):Tree :=
 lA (eA Hc n 84 [1,1,0,1,0,0,1,1,0,0,1,1,1,0,0]) (Al Hc 7) m7 ⟨(uA 3++(.i .u64 out3::uA 7++(.d 24 t11:: .i .i64 t12:: .i .i64 t13::uA 8++(.d 65 t22:: .i .i64 t23:: .i .i64 t24::uA 10)))),[],[],[],[]⟩
  (Ai 2 (Ai 1 (An (jA Hc n 84 [1,1,0,1,0,0,1,1,1]) (Fg Tryz.prog md (Al Hc 3) (fun s1=>lA (eA Hc n 84 [1,1,0,1,0,0]) (Al Hc 3) m3 s1 (Ai 0 (An (jA Hc n 84 [1,1,1]) (rA 84 [26] [.tmp 2] [22])))) (Ai 0 (An (jA Hc n 84 [1,1,1]) (rA 84 [26] [.tmp 2] [22])))))))
noncomputable def Sy(n m3:Nat)(out3:Int)(t11:D)(t12 t13:Int):Tree :=
 lA (eA Hc n 84 [1,1,0,1,0,0]) (Al Hc 3) m3 ⟨(uA 3++(.i .u64 out3::uA 7++(.d 24 t11:: .i .i64 t12:: .i .i64 t13::uA 21))),[],[],[],[]⟩
  (Ai 0 (An (jA Hc n 84 [1,1,1]) (rA 84 [26] [.tmp 2] [22])))
theorem JW(n m3 m7:Nat)(out3:Int)(t11:D)(t12 t13:Int)(t22:D)(t23 t24:Int):Sz n m3 (m7+1) out3 t11 t12 t13 t22 t23 t24 =
 bK (t24<t23) (kK (0≤t24) (kK (t24<(t22.els.length:Int)) (cK 84 [t22.els.getD (Alf t24) D.nil] fun Y2 =>
 cK 83 [D.int out3,D.int ((qA Y2).toInt)] fun Y3 =>
 Sz n m3 m7 ((qA Y3).toInt) t11 t12 t13 t22 t23 (Ale .i64 (t24+1)))))
 (Sy n m3 out3 t11 t12 (Ale .i64 (t13+1))):=by kernel_rfl
theorem JV(n m3:Nat)(out3:Int)(t11:D)(t12 t13:Int):Sy n (m3+1) out3 t11 t12 t13 =
 bK (t13<t12) (kK (0≤t13) (kK (t13<(t11.els.length:Int)) (cK 83 [D.int out3,D.int (((t11.els.getD (Alf t13) D.nil).fld 0).toInt)] fun Y1 =>
 Sz n m3 n ((qA Y1).toInt) t11 t12 t13 ((t11.els.getD (Alf t13) D.nil).fld 4) ((((t11.els.getD (Alf t13) D.nil).fld 4).els).length:Int) 0)))
 (.ret [D.int out3]):=by kernel_rfl
theorem Aa9(n:Nat)(a0:D):fA Hc n 84 [] [a0] =
 Sy n n ((a0.fld 0).toInt) (a0.fld 2) (((a0.fld 2).els).length:Int) 0:=by kernel_rfl
theorem Aa6(n:Nat)(a0 l1:D):fA [] n 90 [] [a0,l1] =
 cK 83 [D.int ((a0.fld 0).toInt),D.int l1.toInt] fun Y1 =>
 .ret [D.agg [D.int ((qA Y1).toInt),a0.fld 1,a0.fld 2]]:=by kernel_rfl
theorem Aa_(n:Nat)(c0:D):fA [] n 104 [] [c0] =
 .br (((c0.fld 1).toInt)==2) (.br ((((c0.fld 4).els).length:Int)==1) (kK (0≤0) (kK (0<(((c0.fld 4).els).length:Int)) (cK 90 [((c0.fld 4).els).getD (Alf 0) D.nil,D.int ((c0.fld 0).toInt)] fun Y1 =>
 .ret [qA Y1])))
 (cK 178 [c0] fun Y2 =>
 cK 90 [qA Y2,D.int ((c0.fld 0).toInt)] fun Y3 =>
 .ret [qA Y3]))
 (cK 178 [c0] fun Y4 =>
 cK 90 [qA Y4,D.int ((c0.fld 0).toInt)] fun Y5 =>
 .ret [qA Y5]):=by kernel_rfl
theorem Aa2(n:Nat)(nn0:D):fA [] n 138 [] [nn0] =
 cK 212 [D.int nn0.toInt] fun Y1 =>
 .ret [D.agg [D.int 0,D.int 0,qA Y1,D.int 0,D.sl []]]:=by kernel_rfl
theorem Aa8(n:Nat)(a0:D):fA [] n 146 [] [a0] =
 cK 213 [a0] fun Y1 =>
 .br ((qA Y1).toBool) (kK (0≤0) (kK (0<(((a0.fld 2).els).length:Int)) (.ret [D.bool ((((((a0.fld 2).els).getD (Alf 0) D.nil).fld 1).toInt)!=2)])))
 (.ret [D.bool false]):=by kernel_rfl
def Hb:List (Nat×Orc):=[(5,⟨[(3,none),(11,some 24),(12,none),(13,none)],[],[]⟩),(8,⟨[(3,none),(11,some 24),(12,none),(13,none),(18,some 65),(19,none),(20,none)],[],[]⟩)]
noncomputable def Su(n m5 m8:Nat)(out3:Int)(t11:D)(t12 t13:Int)(t18:D)(t19 t20:Int):Tree :=
 lA (eA Hb n 147 [1,1,1,0,1,0,0,1,1,0,0,1,1,0,0]) (Al Hb 8) m8 ⟨(uA 3++(.i .i64 out3::uA 7++(.d 24 t11:: .i .i64 t12:: .i .i64 t13::uA 4++(.d 65 t18:: .i .i64 t19:: .i .i64 t20::uA 11)))),[],[],[],[]⟩
  (Ai 2 (Ai 1 (An (jA Hb n 147 [1,1,1,0,1,0,0,1,1,1]) (Fg Tryz.prog md (Al Hb 5) (fun s1=>lA (eA Hb n 147 [1,1,1,0,1,0,0]) (Al Hb 5) m5 s1 (Ai 0 (An (jA Hb n 147 [1,1,1,1]) (rA 147 [26] [.tmp 2] [3])))) (Ai 0 (An (jA Hb n 147 [1,1,1,1]) (rA 147 [26] [.tmp 2] [3])))))))
noncomputable def Ss(n m5:Nat)(out3:Int)(t11:D)(t12 t13:Int):Tree :=
 lA (eA Hb n 147 [1,1,1,0,1,0,0]) (Al Hb 5) m5 ⟨(uA 3++(.i .i64 out3::uA 7++(.d 24 t11:: .i .i64 t12:: .i .i64 t13::uA 18))),[],[],[],[]⟩
  (Ai 0 (An (jA Hb n 147 [1,1,1,1]) (rA 147 [26] [.tmp 2] [3])))
theorem JR(n m5 m8:Nat)(out3:Int)(t11:D)(t12 t13:Int)(t18:D)(t19 t20:Int):Su n m5 (m8+1) out3 t11 t12 t13 t18 t19 t20 =
 bK (t20<t19) (kK (0≤t20) (kK (t20<(t18.els.length:Int)) (cK 147 [t18.els.getD (Alf t20) D.nil] fun Y2 =>
 Su n m5 m8 (if out3<((qA Y2).toInt) then ((qA Y2).toInt) else out3) t11 t12 t13 t18 t19 (Ale .i64 (t20+1)))))
 (Ss n m5 out3 t11 t12 (Ale .i64 (t13+1))):=by kernel_rfl
theorem JQ(n m5:Nat)(out3:Int)(t11:D)(t12 t13:Int):Ss n (m5+1) out3 t11 t12 t13 =
 bK (t13<t12) (kK (0≤t13) (kK (t13<(t11.els.length:Int)) (Su n m5 n out3 t11 t12 t13 ((t11.els.getD (Alf t13) D.nil).fld 4) ((((t11.els.getD (Alf t13) D.nil).fld 4).els).length:Int) 0)))
 (.ret [D.int (Ale .i64 (out3+1))]):=by kernel_rfl
theorem Aa0(n:Nat)(a0:D):fA Hb n 147 [] [a0] =
 cK 146 [a0] fun Y1 =>
 .br ((qA Y1).toBool) (.ret [D.int 0])
 (Ss n n 0 (a0.fld 2) (((a0.fld 2).els).length:Int) 0):=by kernel_rfl
def S1:List (Nat×Orc):=[(3,⟨[(0,some 24),(2,none),(3,none),(9,some 24),(10,none),(11,none)],[(2,false)],[(.slot 3,1030,67)]⟩)]
noncomputable def S0(n m3:Nat)(l0:D)(cells3:List D)(t9:D)(t10 t11 t2_0:Int):Tree :=
 lA (eA S1 n 149 [1,1,0,1,0,0]) (Al S1 3) m3 ⟨(.d 24 l0:: .undef:: .ptr 2 []:: .row 1030::uA 5++(.d 24 t9:: .i .i64 t10:: .i .i64 t11::uA 15)),[(2,.var 26 (.agg 26 [.i .u64 t2_0,.mt,.mt]) true),(1030,.row 67 cells3 true)],[2,1030],[],[]⟩
  (Ai 0 (An (jA S1 n 149 [1,1,1]) (rA 149 [24] [.cell 2 26] [26])))
theorem JX(n m3:Nat)(l0:D)(cells3:List D)(t9:D)(t10 t11 t2_0:Int):S0 n (m3+1) l0 cells3 t9 t10 t11 t2_0 =
 bK (t11<t10) (kK (0≤t11) (kK (t11<(t9.els.length:Int)) (cK 214 [t9.els.getD (Alf t11) D.nil] fun Y1 =>
 kK (0≤t11) (kK (t11<(cells3.length:Int)) (S0 n m3 l0 (cells3.set (Alf t11) (qA Y1)) t9 t10 (Ale .i64 (t11+1)) t2_0)))))
 (.ret [D.agg [D.int 0,D.sl [D.int (l0.els.length:Int)],D.sl cells3]]):=by kernel_rfl
theorem AaA(n:Nat)(l0:D):fA S1 n 149 [] [l0] =
 kK (0≤(l0.els.length:Int)) (kK ((l0.els.length:Int)≤(l0.els.length:Int)) (kK ((l0.els.length:Int)≤Aj) (S0 n n l0 (Alh (Alf (l0.els.length:Int)) (D.agg [D.int 0,D.int 0,D.agg [D.bool false,D.sl [],D.sl []],D.int 0,D.sl []])) l0 (l0.els.length:Int) 0 0))):=by kernel_rfl
theorem Aaz(n:Nat)(c0:D):fA [] n 171 [] [c0] =
 .ret [D.agg [D.int 0,D.int 1,D.agg [D.bool false,D.sl [],D.sl []],D.int c0.toInt,D.sl []]]:=by kernel_rfl
theorem Aa7(n:Nat)(c0:D):fA [] n 178 [] [c0] =
 cK 214 [c0] fun Y1 =>
 .ret [D.agg [D.int 0,D.sl [],D.sl [qA Y1]]]:=by kernel_rfl
theorem Aa4(n:Nat)(a0 b1:D):fA [] n 179 [] [a0,b1] =
 cK 232 [a0,b1,D.bool false] fun Y1 =>
 .ret [D.bool ((qA Y1).toBool)]:=by kernel_rfl
theorem AaC(n:Nat)(a0:D):fA [] n 213 [] [a0] =
 .br ((((a0.fld 1).els).length:Int)==0) (.ret [D.bool ((((a0.fld 2).els).length:Int)==1)])
 (.ret [D.bool false]):=by kernel_rfl
theorem AaG(n:Nat)(c0:D):fA [] n 214 [] [c0] =
 cK 247 [(c0.fld 2).fld 1] fun Y1 =>
 cK 247 [(c0.fld 2).fld 2] fun Y2 =>
 cK 248 [c0.fld 4] fun Y3 =>
 .ret [D.agg [D.int ((c0.fld 0).toInt),D.int ((c0.fld 1).toInt),D.agg [D.bool (((c0.fld 2).fld 0).toBool),D.sl ((qA Y1).els),D.sl ((qA Y2).els)],D.int ((c0.fld 3).toInt),D.sl ((qA Y3).els)]]:=by kernel_rfl
theorem AaF(n:Nat)(a0 b1 labels2:D):fA [] n 232 [] [a0,b1,labels2] =
 .br labels2.toBool (.br (((a0.fld 0).toInt)!=((b1.fld 0).toInt)) (.ret [D.bool false])
 (cK 234 [a0.fld 1,b1.fld 1] fun Y1 =>
 .br (!((qA Y1).toBool)) (.ret [D.bool false])
 (cK 272 [a0.fld 2,b1.fld 2,D.fn 273 [.ref 4] [D.ref (D.bool labels2.toBool)]] fun Y2 =>
 .ret [D.bool ((qA Y2).toBool)])))
 (cK 234 [a0.fld 1,b1.fld 1] fun Y3 =>
 .br (!((qA Y3).toBool)) (.ret [D.bool false])
 (cK 272 [a0.fld 2,b1.fld 2,D.fn 273 [.ref 4] [D.ref (D.bool labels2.toBool)]] fun Y4 =>
 .ret [D.bool ((qA Y4).toBool)])):=by kernel_rfl
theorem Aa5(n:Nat)(nn0:D):fA [] n 257 [] [nn0] =
 cK 214 [D.agg [D.int 0,D.int 0,nn0,D.int 0,D.sl []]] fun Y1 =>
 .ret [qA Y1]:=by kernel_rfl
theorem AaE(n:Nat)(x0 y1 c2:D):fA [] n 273 [.ref 4] [x0,y1,c2] =
 .br c2.unref.toBool (.br (((x0.fld 0).toInt)!=((y1.fld 0).toInt)) (.ret [D.bool false])
 (.br (((x0.fld 1).toInt)!=((y1.fld 1).toInt)) (.ret [D.bool false])
 (.br (((x0.fld 3).toInt)!=((y1.fld 3).toInt)) (.ret [D.bool false])
 (cK 274 [x0.fld 2,y1.fld 2] fun Y1 =>
 .br (!((qA Y1).toBool)) (.ret [D.bool false])
 (cK 275 [x0.fld 4,y1.fld 4,D.fn 276 [.ref 4] [D.ref c2.unref]] fun Y2 =>
 .ret [D.bool ((qA Y2).toBool)])))))
 (.br (((x0.fld 1).toInt)!=((y1.fld 1).toInt)) (.ret [D.bool false])
 (.br (((x0.fld 3).toInt)!=((y1.fld 3).toInt)) (.ret [D.bool false])
 (cK 274 [x0.fld 2,y1.fld 2] fun Y3 =>
 .br (!((qA Y3).toBool)) (.ret [D.bool false])
 (cK 275 [x0.fld 4,y1.fld 4,D.fn 276 [.ref 4] [D.ref c2.unref]] fun Y4 =>
 .ret [D.bool ((qA Y4).toBool)])))):=by kernel_rfl
theorem AaD(n:Nat)(p0 q1 c2:D):fA [] n 276 [.ref 4] [p0,q1,c2] =
 cK 232 [p0,q1,D.bool c2.unref.toBool] fun Y1 =>
 .ret [D.bool ((qA Y1).toBool)]:=by kernel_rfl
def Xy:List (Nat×Orc):=[(5,⟨[(1,none),(2,none),(5,none),(7,none)],[(2,true)],[]⟩)]
noncomputable def Xx(n m5:Nat)(deep1 nn5 i7:Int)(a2:D):Tree :=
 lA (eA Xy n 13 [1,1,1,0,1,0,0]) (Al Xy 5) m5 ⟨(.undef:: .i .i64 deep1:: .ptr 2 []:: .undef:: .undef:: .i .i64 nn5:: .undef:: .i .i64 i7::uA 28),[(2,.var 26 (.d 26 a2) true)],[2],[],[]⟩
  (Ai 0 (An (jA Xy n 13 [1,1,1,1]) (rA 13 [26,3] [.tmp 4] [4])))
theorem UO(n m5:Nat)(deep1 nn5 i7:Int)(a2:D):Xx n (m5+1) deep1 nn5 i7 a2 =
 bK (i7<nn5) (kK (0≤i7) (kK (i7<(((a2.fld 2).els).length:Int)) (cK 53 [((a2.fld 2).els).getD (Alf i7) D.nil,D.int deep1] fun Y2 =>
 .br (!((qA Y2).toBool)) (.ret [D.bool false])
 (Xx n m5 deep1 nn5 (Ale .i64 (i7+1)) a2))))
 (.ret [D.bool true]):=by kernel_rfl
theorem AhI(n:Nat)(a0 deep1:D):fA Xy n 13 [] [a0,deep1] =
 cK 52 [a0.fld 1] fun Y1 =>
 .br (((qB Y1).toInt)!=0) (.ret [D.bool false])
 (.br (((qA Y1).toInt)!=(((a0.fld 2).els).length:Int)) (.ret [D.bool false])
 (Xx n n deep1.toInt ((qA Y1).toInt) 0 a0)):=by kernel_rfl
theorem AhF(n:Nat)(a0:D):fA [] n 30 [] [a0] =
 cK 75 [a0] fun Y1 =>
 .br ((qA Y1).toBool) (cK 13 [a0,D.int 8] fun Y2 =>
 .br ((qA Y2).toBool) (cK 76 [a0] fun Y3 =>
 .ret [D.bool ((qA Y3).toBool)])
 (.ret [D.bool false]))
 (.ret [D.bool false]):=by kernel_rfl
def X4:List (Nat×Orc):=[(4,⟨[(2,none),(3,none),(5,none)],[(2,true),(3,true)],[]⟩)]
noncomputable def X3(n m4:Nat)(i5:Int)(a2 b3:D):Tree :=
 lA (eA X4 n 34 [1,1,0,1,0,0]) (Al X4 4) m4 ⟨(.undef:: .undef:: .ptr 2 []:: .ptr 3 []:: .undef:: .i .i64 i5::uA 41),[(2,.var 26 (.d 26 a2) true),(3,.var 26 (.d 26 b3) true)],[2,3],[],[]⟩
  (Ai 0 (An (jA X4 n 34 [1,1,1]) (rA 34 [26,26] [.tmp 4] [4])))
theorem UR(n m4:Nat)(i5:Int)(a2 b3:D):X3 n (m4+1) i5 a2 b3 =
 bK (i5<(((a2.fld 2).els).length:Int)) (kK (0≤i5) (kK (i5<(((a2.fld 2).els).length:Int)) (kK (0≤i5) (kK (i5<(((b3.fld 2).els).length:Int)) (cK 79 [((a2.fld 2).els).getD (Alf i5) D.nil,((b3.fld 2).els).getD (Alf i5) D.nil] fun Y2 =>
 .br (!((qA Y2).toBool)) (.ret [D.bool false])
 (X3 n m4 (Ale .i64 (i5+1)) a2 b3))))))
 (.ret [D.bool true]):=by kernel_rfl
theorem AhM(n:Nat)(a0 b1:D):fA X4 n 34 [] [a0,b1] =
 .br (((a0.fld 0).toInt)!=((b1.fld 0).toInt)) (.ret [D.bool false])
 (cK 54 [a0.fld 1,b1.fld 1] fun Y1 =>
 .br (!((qA Y1).toBool)) (.ret [D.bool false])
 (.br ((((a0.fld 2).els).length:Int)!=(((b1.fld 2).els).length:Int)) (.ret [D.bool false])
 (X3 n n 0 a0 b1))):=by kernel_rfl
theorem AhC(n:Nat)(c0 deep1:D):fA [] n 53 [] [c0,deep1] =
 .br (((c0.fld 1).toInt)==0) (.br (((c0.fld 3).toInt)==0) (.br ((((c0.fld 4).els).length:Int)==0) (cK 133 [c0.fld 2] fun Y1 =>
 .ret [D.bool ((qA Y1).toBool)])
 (.ret [D.bool false]))
 (.ret [D.bool false]))
 (.br (((c0.fld 1).toInt)==1) (cK 134 [c0.fld 2] fun Y2 =>
 .br ((qA Y2).toBool) (.br ((((c0.fld 4).els).length:Int)==0) (cK 135 [D.int ((c0.fld 3).toInt)] fun Y3 =>
 .ret [D.bool ((qA Y3).toBool)])
 (.ret [D.bool false]))
 (.ret [D.bool false]))
 (.br (((c0.fld 1).toInt)==2) (cK 134 [c0.fld 2] fun Y4 =>
 .br ((qA Y4).toBool) (.br (((c0.fld 3).toInt)==0) (.br ((((c0.fld 4).els).length:Int)==1) (bK (0<deep1.toInt) (kK (0≤0) (kK (0<(((c0.fld 4).els).length:Int)) (cK 136 [((c0.fld 4).els).getD (Alf 0) D.nil] fun Y5 =>
 .br (!((qA Y5).toBool)) (kK (0≤0) (kK (0<(((c0.fld 4).els).length:Int)) (cK 13 [((c0.fld 4).els).getD (Alf 0) D.nil,D.int (Ale .i64 (deep1.toInt-1))] fun Y6 =>
 .ret [D.bool ((qA Y6).toBool)])))
 (.ret [D.bool false]))))
 (.ret [D.bool false]))
 (.ret [D.bool false]))
 (.ret [D.bool false]))
 (.ret [D.bool false]))
 (.ret [D.bool false]))):=by kernel_rfl
theorem AhE(n:Nat)(a0:D):fA [] n 75 [] [a0] =
 cK 161 [a0,D.int 12,D.int 4000] fun Y1 =>
 .ret [D.bool (decide (0≤((qA Y1).toInt)))]:=by kernel_rfl
def Fw:List (Nat×Orc):=[(3,⟨[(1,none),(3,none),(4,none)],[(1,true)],[]⟩),(10,⟨[(1,none),(5,none)],[(1,true)],[]⟩),(13,⟨[(1,none),(5,none),(6,none)],[(1,true)],[]⟩)]
noncomputable def X6(n m10 m13:Nat)(i5 k6:Int)(a1:D):Tree :=
 lA (eA Fw n 76 [1,1,1,1,0,1,0,0,1,0,0,1,0,0]) (Al Fw 13) m13 ⟨(.undef:: .ptr 1 []::uA 3++(.i .i64 i5:: .i .i64 k6::uA 55)),[(1,.var 26 (.d 26 a1) true)],[1],[],[]⟩
  (Ai 4 (Ai 3 (An (jA Fw n 76 [1,1,1,1,0,1,0,0,1,1]) (Fg Tryz.prog md (Al Fw 10) (fun s1=>lA (eA Fw n 76 [1,1,1,1,0,1,0,0]) (Al Fw 10) m10 s1 (Ai 2 (An (jA Fw n 76 [1,1,1,1,1]) (rA 76 [26] [.tmp 2] [4])))) (Ai 2 (An (jA Fw n 76 [1,1,1,1,1]) (rA 76 [26] [.tmp 2] [4])))))))
noncomputable def Mi(n m10:Nat)(i5:Int)(a1:D):Tree :=
 lA (eA Fw n 76 [1,1,1,1,0,1,0,0]) (Al Fw 10) m10 ⟨(.undef:: .ptr 1 []::uA 3++(.i .i64 i5::uA 56)),[(1,.var 26 (.d 26 a1) true)],[1],[],[]⟩
  (Ai 2 (An (jA Fw n 76 [1,1,1,1,1]) (rA 76 [26] [.tmp 2] [4])))
noncomputable def Ri(n m3:Nat)(nn3 i4:Int)(a1:D):Tree :=
 lA (eA Fw n 76 [1,1,0,1,0,0]) (Al Fw 3) m3 ⟨(.undef:: .ptr 1 []:: .undef:: .i .i64 nn3:: .i .i64 i4::uA 57),[(1,.var 26 (.d 26 a1) true)],[1],[],[]⟩
  (Ai 0 (An (jA Fw n 76 [1,1,1]) (rA 76 [26] [.tmp 2] [4])))
theorem UX(n m10 m13:Nat)(i5 k6:Int)(a1:D):X6 n m10 (m13+1) i5 k6 a1 =
 kK (0≤i5) (kK (i5<(((a1.fld 2).els).length:Int)) (bK (k6<((((((a1.fld 2).els).getD (Alf i5) D.nil).fld 4).els).length:Int)) (kK (0≤i5) (kK (i5<(((a1.fld 2).els).length:Int)) (kK (0≤k6) (kK (k6<((((((a1.fld 2).els).getD (Alf i5) D.nil).fld 4).els).length:Int)) (cK 76 [(((((a1.fld 2).els).getD (Alf i5) D.nil).fld 4).els).getD (Alf k6) D.nil] fun Y1 =>
 .br (!((qA Y1).toBool)) (.ret [D.bool false])
 (X6 n m10 m13 i5 (Ale .i64 (k6+1)) a1))))))
 (Mi n m10 (Ale .i64 (i5+1)) a1))):=by kernel_rfl
theorem UW(n m10:Nat)(i5:Int)(a1:D):Mi n (m10+1) i5 a1 =
 bK (i5<(((a1.fld 2).els).length:Int)) (X6 n m10 n i5 0 a1)
 (.ret [D.bool true]):=by kernel_rfl
theorem UY(n m3:Nat)(nn3 i4:Int)(a1:D):Ri n (m3+1) nn3 i4 a1 =
 bK (i4<(((a1.fld 1).els).length:Int)) (bK (nn3≤100000) (kK (0≤i4) (kK (i4<(((a1.fld 1).els).length:Int)) (bK (0<((((a1.fld 1).els).getD (Alf i4) D.nil).toInt)) (kK (0≤i4) (kK (i4<(((a1.fld 1).els).length:Int)) (Ri n m3 (Ale .i64 (nn3*((((a1.fld 1).els).getD (Alf i4) D.nil).toInt))) (Ale .i64 (i4+1)) a1)))
 (Ri n m3 nn3 (Ale .i64 (i4+1)) a1))))
 (bK (100000<nn3) (.ret [D.bool false])
 (Mi n n 0 a1)))
 (bK (100000<nn3) (.ret [D.bool false])
 (Mi n n 0 a1)):=by kernel_rfl
theorem AhQ(n:Nat)(a0:D):fA Fw n 76 [] [a0] =
 Ri n n 1 0 a0:=by kernel_rfl
theorem AhG(n:Nat)(nn0:D):fA [] n 78 [] [nn0] =
 cK 165 [D.int nn0.toInt] fun Y1 =>
 .ret [D.agg [D.int 0,D.int 0,qA Y1,D.int 0,D.sl []]]:=by kernel_rfl
def X0:List (Nat×Orc):=[(4,⟨[(2,none),(3,none),(5,none)],[(2,true),(3,true)],[]⟩)]
noncomputable def Xz(n m4:Nat)(i5:Int)(a2 b3:D):Tree :=
 lA (eA X0 n 79 [1,1,0,1,0,0]) (Al X0 4) m4 ⟨(.undef:: .undef:: .ptr 2 []:: .ptr 3 []:: .undef:: .i .i64 i5::uA 55),[(2,.var 67 (.d 67 a2) true),(3,.var 67 (.d 67 b3) true)],[2,3],[],[]⟩
  (Ai 0 (An (jA X0 n 79 [1,1,1]) (rA 79 [67,67] [.tmp 4] [4])))
theorem UQ(n m4:Nat)(i5:Int)(a2 b3:D):Xz n (m4+1) i5 a2 b3 =
 bK (i5<(((a2.fld 4).els).length:Int)) (kK (0≤i5) (kK (i5<(((a2.fld 4).els).length:Int)) (kK (0≤i5) (kK (i5<(((b3.fld 4).els).length:Int)) (cK 34 [((a2.fld 4).els).getD (Alf i5) D.nil,((b3.fld 4).els).getD (Alf i5) D.nil] fun Y2 =>
 .br (!((qA Y2).toBool)) (.ret [D.bool false])
 (Xz n m4 (Ale .i64 (i5+1)) a2 b3))))))
 (.ret [D.bool true]):=by kernel_rfl
theorem AhK(n:Nat)(a0 b1:D):fA X0 n 79 [] [a0,b1] =
 .br (((a0.fld 0).toInt)!=((b1.fld 0).toInt)) (.ret [D.bool false])
 (.br (((a0.fld 1).toInt)!=((b1.fld 1).toInt)) (.ret [D.bool false])
 (.br (((a0.fld 3).toInt)!=((b1.fld 3).toInt)) (.ret [D.bool false])
 (cK 137 [a0.fld 2,b1.fld 2] fun Y1 =>
 .br (!((qA Y1).toBool)) (.ret [D.bool false])
 (.br ((((a0.fld 4).els).length:Int)!=(((b1.fld 4).els).length:Int)) (.ret [D.bool false])
 (Xz n n 0 a0 b1))))):=by kernel_rfl
theorem AhR(n:Nat)(nn0:D):fA [] n 134 [] [nn0] =
 .br (!((nn0.fld 0).toBool)) (.br ((((nn0.fld 1).els).length:Int)==0) (.ret [D.bool ((((nn0.fld 2).els).length:Int)==0)])
 (.ret [D.bool false]))
 (.ret [D.bool false]):=by kernel_rfl
theorem AhO(n:Nat)(a0:D):fA [] n 136 [] [a0] =
 .br ((((a0.fld 1).els).length:Int)==0) (.br ((((a0.fld 2).els).length:Int)==1) (kK (0≤0) (kK (0<(((a0.fld 2).els).length:Int)) (.ret [D.bool ((((((a0.fld 2).els).getD (Alf 0) D.nil).fld 1).toInt)!=2)])))
 (.ret [D.bool false]))
 (.ret [D.bool false]):=by kernel_rfl
def Hr:List (Nat×Orc):=[(5,⟨[(1,none),(2,none),(3,none),(7,none)],[(3,true)],[]⟩),(9,⟨[(1,none),(2,none),(3,none),(7,none),(8,none)],[(3,true)],[]⟩)]
noncomputable def X5(n m5 m9:Nat)(deep1 nn2:Int)(i7 k8:Int)(a3:D):Tree :=
 lA (eA Hr n 161 [1,1,1,0,1,0,0,1,0,0,1,1,0,0]) (Al Hr 9) m9 ⟨(.undef:: .i .i64 deep1:: .i .i64 nn2:: .ptr 3 []::uA 3++(.i .i64 i7:: .i .i64 k8::uA 68)),[(3,.var 26 (.d 26 a3) true)],[3],[],[]⟩
  (Ai 2 (Ai 1 (An (jA Hr n 161 [1,1,1,0,1,0,0,1,1]) (Fg Tryz.prog md (Al Hr 5) (fun s1=>lA (eA Hr n 161 [1,1,1,0,1,0,0]) (Al Hr 5) m5 s1 (Ai 0 (An (jA Hr n 161 [1,1,1,1]) (rA 161 [26,3,3] [.tmp 6] [3])))) (Ai 0 (An (jA Hr n 161 [1,1,1,1]) (rA 161 [26,3,3] [.tmp 6] [3])))))))
noncomputable def Rh(n m5:Nat)(deep1 nn2 i7:Int)(a3:D):Tree :=
 lA (eA Hr n 161 [1,1,1,0,1,0,0]) (Al Hr 5) m5 ⟨(.undef:: .i .i64 deep1:: .i .i64 nn2:: .ptr 3 []::uA 3++(.i .i64 i7::uA 69)),[(3,.var 26 (.d 26 a3) true)],[3],[],[]⟩
  (Ai 0 (An (jA Hr n 161 [1,1,1,1]) (rA 161 [26,3,3] [.tmp 6] [3])))
theorem UT(n m5 m9:Nat)(deep1 nn2:Int)(i7 k8:Int)(a3:D):X5 n m5 (m9+1) deep1 nn2 i7 k8 a3 =
 kK (0≤i7) (kK (i7<(((a3.fld 2).els).length:Int)) (bK (k8<((((((a3.fld 2).els).getD (Alf i7) D.nil).fld 4).els).length:Int)) (bK (0≤nn2) (kK (0≤i7) (kK (i7<(((a3.fld 2).els).length:Int)) (kK (0≤k8) (kK (k8<((((((a3.fld 2).els).getD (Alf i7) D.nil).fld 4).els).length:Int)) (cK 161 [(((((a3.fld 2).els).getD (Alf i7) D.nil).fld 4).els).getD (Alf k8) D.nil,D.int (Ale .i64 (deep1-1)),D.int nn2] fun Y1 =>
 X5 n m5 m9 deep1 ((qA Y1).toInt) i7 (Ale .i64 (k8+1)) a3)))))
 (Rh n m5 deep1 nn2 (Ale .i64 (i7+1)) a3))
 (Rh n m5 deep1 nn2 (Ale .i64 (i7+1)) a3))):=by kernel_rfl
theorem US(n m5:Nat)(deep1 nn2 i7:Int)(a3:D):Rh n (m5+1) deep1 nn2 i7 a3 =
 bK (i7<(((a3.fld 2).els).length:Int)) (bK (0≤nn2) (kK (0≤i7) (kK (i7<(((a3.fld 2).els).length:Int)) (kK (0≤i7) (kK (i7<(((a3.fld 2).els).length:Int)) (X5 n m5 n deep1 (Ale .i64 ((Ale .i64 ((Ale .i64 (nn2-1))-(((((((a3.fld 2).els).getD (Alf i7) D.nil).fld 2).fld 1).els).length:Int)))-(((((((a3.fld 2).els).getD (Alf i7) D.nil).fld 2).fld 2).els).length:Int))) i7 0 a3)))))
 (.ret [D.int nn2]))
 (.ret [D.int nn2]):=by kernel_rfl
theorem UV(n:Nat)(a0 deep1 nn2:D):fA Hr n 161 [] [a0,deep1,nn2] =
 .br (deep1.toInt == 0) (.ret [D.int (-1)])
 (Rh n n deep1.toInt (Ale .i64 ((Ale .i64 (nn2.toInt-1))-(((a0.fld 1).els).length:Int))) 0 a0):=by kernel_rfl
def Xa:List (Nat×Orc):=[(4,⟨[(0,some 23),(1,some 23),(5,none)],[],[]⟩)]
noncomputable def W_(n m4:Nat)(a0 b1:D)(i5:Int):Tree :=
 lA (eA Xa n 27 [1,1,0,1,0,0]) (Al Xa 4) m4 ⟨(.d 23 a0:: .d 23 b1::uA 3++(.i .i64 i5::uA 20)),[],[],[],[]⟩
  (Ai 0 (An (jA Xa n 27 [1,1,1]) (rA 27 [23,23] [.tmp 4] [4])))
theorem TQ(n m4:Nat)(a0 b1:D)(i5:Int):W_ n (m4+1) a0 b1 i5 =
 bK (i5<(a0.els.length:Int)) (kK (0≤i5) (kK (i5<(a0.els.length:Int)) (kK (0≤i5) (kK (i5<(b1.els.length:Int)) (.br (((a0.els.getD (Alf i5) D.nil).toInt)!=((b1.els.getD (Alf i5) D.nil).toInt)) (.ret [D.bool false])
 (W_ n m4 a0 b1 (Ale .i64 (i5+1))))))))
 (.ret [D.bool true]):=by kernel_rfl
theorem AgM(n:Nat)(a0 b1:D):fA Xa n 27 [] [a0,b1] =
 .br ((a0.els.length:Int)!=(b1.els.length:Int)) (.ret [D.bool false])
 (W_ n n a0 b1 0):=by kernel_rfl
theorem AcZ(n:Nat)(a0 b1:D):fA [] n 83 [] [a0,b1] =
 .ret [D.int (Bj .or .u64 a0.toInt b1.toInt)]:=by kernel_rfl
abbrev A8:=BitVec 64
abbrev Ao:=BitVec 32
structure Num where
 neg:Bool
 top:List Ao
 bot:List Ao
 deriving DecidableEq
structure CellF (α:Type) where
 l:A8
 kind:Int
 n:Num
 c:Int
 inn:List α
inductive Arr where
 | mk (s:A8) (shape:List Int) (cells:List (CellF Arr))
abbrev Cell:=CellF Arr
def Arr.s:Arr→A8 | .mk s _ _=>s
def Arr.shape:Arr→List Int | .mk _ s _=>s
def Arr.cells:Arr→List Cell | .mk _ _ c=>c
@[simp] theorem Arr.s_mk (s sh cs):(Arr.mk s sh cs).s=s:=rfl
@[simp] theorem Arr.shape_mk (s sh cs):(Arr.mk s sh cs).shape=sh:=rfl
@[simp] theorem Arr.cells_mk (s sh cs):(Arr.mk s sh cs).cells=cs:=rfl
def Num.zero:Num:=⟨false,[],[]⟩
def Cell.none:Cell:=⟨0,0,.zero,0,[]⟩
def Arr.none:Arr:= .mk 0 [] []
theorem Arr.ind {p:Arr→Prop} (h : ∀ s sh cs,(∀ c∈cs,∀ x∈c.inn,p x)→p (.mk s sh cs)) (a:Arr):p a :=
 Arr.rec (motive_1:=p) (motive_2:=fun cs=>∀ c∈cs,∀ x∈c.inn,p x) (motive_3:=fun c=>∀ x∈c.inn,p x) (motive_4:=fun as_=>∀ x∈as_,p x)
  (fun s sh cs ih=>h s sh cs ih) (fun c hc=>by cases hc)
  (fun c cs h1 h2 d hd=>by rcases Alx.1 hd with rfl | hd;exact h1;exact h2 d hd)
  (fun _ _ _ _ _ ih=>ih) (fun x hx=>by cases hx)
  (fun a as_ h1 h2 x hx=>by rcases Alx.1 hx with rfl | hx;exact h1;exact h2 x hx) a
def dB{k:Nat}(x:BitVec k):D:= .int (x.toNat:Int)
def dI(l:List Int):D:= .sl (l.map .int)
def dL(l:List Ao):D:= .sl (l.map dB)
def dN(n:Num):D:= .agg [.bool n.neg,dL n.top,dL n.bot]
mutual
def dA:Arr→D
 | .mk s sh cs=> .agg [dB s,dI sh,.sl (Pv cs)]
def Pv:List (CellF Arr)→List D
 | []=>[]
 | c::cs=>dC c::Pv cs
def dC:CellF Arr→D
 | ⟨l,k,n,c,inn⟩=> .agg [dB l,.int k,dN n,.int c,.sl (Pt inn)]
def Pt:List Arr→List D
 | []=>[]
 | a::as_=>dA a::Pt as_
end
theorem LK : ∀ cs,Pv cs=cs.map dC
 | []=>by simp[Pv]
 | c::cs=>by simp[Pv,LK cs]
theorem LH : ∀ as_,Pt as_=as_.map dA
 | []=>by simp[Pt]
 | a::as_=>by simp[Pt,LH as_]
theorem Dk(a:Arr):dA a = .agg [dB a.s,dI a.shape,.sl (a.cells.map dC)]:=by cases a;simp[dA,LK]
theorem Do(c:Cell):dC c = .agg [dB c.l,.int c.kind,dN c.n,.int c.c,.sl (c.inn.map dA)]:=by cases c;simp[dC,LH]
theorem Ab6(s:A8)(sh:List Int)(cs:List Cell):D.agg [dB s,dI sh,.sl (cs.map dC)]=dA (.mk s sh cs):=by rw[Dk];rfl
section simps
@[simp] theorem J0 (x:D) (l:List D):(D.agg (x::l)).fld 0=x:=rfl
@[simp] theorem J1 (x y:D) (l:List D):(D.agg (x::y::l)).fld 1=y:=rfl
@[simp] theorem Up (x y z:D) (l:List D):(D.agg (x::y::z::l)).fld 2=z:=rfl
@[simp] theorem Alb (x y z u:D) (l:List D):(D.agg (x::y::z::u::l)).fld 3=u:=rfl
@[simp] theorem Alc (x y z u v:D) (l:List D):(D.agg (x::y::z::u::v::l)).fld 4=v:=rfl
@[simp] theorem BS (a:Arr):(dA a).fld 0=dB a.s:=by rw[Dk];rfl
@[simp] theorem Tj (a:Arr):(dA a).fld 1=dI a.shape:=by rw[Dk];rfl
@[simp] theorem BT (a:Arr):(dA a).fld 2 = .sl (a.cells.map dC):=by rw[Dk];rfl
@[simp] theorem Ab7 (c:Cell):(dC c).fld 0=dB c.l:=by rw[Do];rfl
@[simp] theorem LJ (c:Cell):(dC c).fld 1 = .int c.kind:=by rw[Do];rfl
@[simp] theorem Ab8 (c:Cell):(dC c).fld 2=dN c.n:=by rw[Do];rfl
@[simp] theorem Ab9 (c:Cell):(dC c).fld 3 = .int c.c:=by rw[Do];rfl
@[simp] theorem BV (c:Cell):(dC c).fld 4 = .sl (c.inn.map dA):=by rw[Do];rfl
@[simp] theorem Lk (n:Num):(dN n).fld 0 = .bool n.neg:=rfl
@[simp] theorem Nc (n:Num):(dN n).fld 1=dL n.top:=rfl
@[simp] theorem Ll (n:Num):(dN n).fld 2=dL n.bot:=rfl
@[simp] theorem Dp (l:List D):(D.sl l).els=l:=rfl
@[simp] theorem B0 (l:List Int):(dI l).els=l.map .int:=rfl
@[simp] theorem Bx (l:List Ao):(dL l).els=l.map dB:=rfl
@[simp] theorem Ak (n:Int):(D.int n).toInt=n:=rfl
@[simp] theorem D5 {k:Nat} (x:BitVec k):(dB x).toInt=(x.toNat:Int):=rfl
@[simp] theorem Az (b:Bool):(D.bool b).toBool=b:=rfl
@[simp] theorem Z3 (x:D):(D.ref x).unref=x:=rfl
@[simp] theorem Gs (f c d):(D.fn f c d).fnId=f:=rfl
@[simp] theorem Gq (f c d):(D.fn f c d).fnCts=c:=rfl
@[simp] theorem Gr (f c d):(D.fn f c d).fnDs=d:=rfl
@[simp] theorem Ag (x:D) (l:List D):qA (x::l)=x:=rfl
@[simp] theorem Cl (x y:D) (l:List D):qB (x::y::l)=y:=rfl
@[simp] theorem Uu (x y z:D) (l:List D):qC (x::y::z::l)=z:=rfl
@[simp] theorem Ald (x y z u:D) (l:List D):(x::y::z::u::l).getD 3 D.nil=u:=rfl
theorem Lj{k:Nat}(x:BitVec k):D.int (x.toNat:Int)=dB x:=rfl
theorem AbK(l:List Int):D.sl (l.map .int)=dI l:=rfl
theorem AbL(l:List Ao):D.sl (l.map dB)=dL l:=rfl
end simps
theorem Bv{α:Type}{l:List α}{i:Nat}{x:α}{xs:List α}(h:l.drop i=x::xs):i<l.length∧l[i]? = some x∧l.drop (i+1)=xs:=by
 have hi:i<l.length:=by
  rcases Nat.lt_or_ge i l.length with h1 | h1
  · exact h1
  · rw[List.drop_eq_nil_of_le h1]at h;cases h
 rw[Al6 hi]at h
 injection h with h1 h2
 exact ⟨hi,by rw[Alg hi,h1],h2⟩
theorem AbI{α:Type}{l:List α}{i:Nat}(h:l.drop i = []):l.length≤i:=List.drop_eq_nil_iff.1 h
theorem Ar{α:Type}{l:List α}{i:Nat}{x:α}{f:α→D}(h:l[i]? = some x):(l.map f).getD i D.nil=f x:=by
 rw[Alk,Aly,h];rfl
theorem As{x:Int}(h1 : -9223372036854775808≤x)(h2:x≤9223372036854775807):Ale .i64 x=x:=by rw[IntKind.wrap_i64];omega
theorem Bq{x:Int}(h1:0≤x)(h2:x<18446744073709551616):Ale .u64 x=x:=by rw[IntKind.wrap_u64];omega
theorem Ey{x:Int}(h1:0≤x)(h2:x<4294967296):Ale .u32 x=x:=by rw[IntKind.wrap_u32];omega
abbrev Sp(f:Nat)(xs ys:List D):Prop:=Dn Tryz.prog md f [] xs ys
abbrev Tw(t:Tree)(ys:List D):Prop:=t.wp Tryz.prog md (fun zs=>zs=ys)
theorem Cc(x y:Int):(x == y)=decide (x=y):=by by_cases h:x=y <;> simp[h]
theorem Cu(x y:Int):(x != y)=decide (¬ x=y):=by by_cases h:x=y <;> simp[h]
theorem Eu(p:Prop) [Decidable p]:(!decide p)=decide (¬ p):=by by_cases h:p <;> simp[h]
theorem Fo{k:Nat}(h:k<9223372036854775807):Ale .i64 ((k:Int)+1)=((k+1:Nat):Int):=by rw[As (by omega) (by omega)];rfl
theorem Adw{α σ:Type}{P:Program}{md:Nat→FMode}(xs:List α)(L:Nat→Nat→σ→Tree)(f:List α→σ→List D)(I:List α→σ→Prop)
  (hnil : ∀ m k s,k=xs.length→I [] s→(L (m+1) k s).wp P md (fun zs=>zs=f [] s))
  (hcons : ∀ m k s x rest,xs.drop k=x::rest→I (x::rest) s→(∀ s',I rest s'→(L m (k+1) s').wp P md (fun zs=>zs=f rest s'))→(L (m+1) k s).wp P md (fun zs=>zs=f (x::rest) s)) :
  ∀ m k s,xs.length-k<m→k≤xs.length→I (xs.drop k) s→(L m k s).wp P md (fun zs=>zs=f (xs.drop k) s):=by
 intro m
 induction m with
 | zero=>intro k s h;omega
 | succ m ih =>
  intro k s h1 h2 hI
  cases hd:xs.drop k with
  | nil=>rw[hd]at hI;exact hnil m k s (by have:=AbI hd;omega) hI
  | cons x rest =>
   rw[hd]at hI
   obtain ⟨a1,a2,a3⟩:=Bv hd
   refine hcons m k s x rest hd hI (fun s' hI'=> ?_)
   have:=ih (k+1) s' (by omega) (by omega) (by rw[a3];exact hI')
   rwa[a3]at this
theorem Vj{σ:Type}{P:Program}{md:Nat→FMode}(N:Nat)(L:Nat→Nat→σ→Tree)(f:Nat→σ→List D)(I:Nat→σ→Prop)
  (hend : ∀ m s,I N s→(L (m+1) N s).wp P md (fun zs=>zs=f N s))
  (hstep : ∀ m k s,k<N→I k s→(∀ s',I (k+1) s'→(L m (k+1) s').wp P md (fun zs=>zs=f (k+1) s'))→(L (m+1) k s).wp P md (fun zs=>zs=f k s)) :
  ∀ m k s,N-k<m→k≤N→I k s→(L m k s).wp P md (fun zs=>zs=f k s):=by
 intro m
 induction m with
 | zero=>intro k s h;omega
 | succ m ih =>
  intro k s h1 h2 hI
  by_cases hk:k=N
  · subst hk;exact hend m s hI
  · exact hstep m k s (by omega) hI (fun s' hI'=>ih (k+1) s' (by omega) (by omega) hI')
theorem H_{σ:Type}{P:Program}{md:Nat→FMode}(L:Nat→Nat→σ→Tree)(f:Nat→σ→List D)(I:Nat→σ→Prop)
  (hend : ∀ m s,I 0 s→(L (m+1) 0 s).wp P md (fun zs=>zs=f 0 s))
  (hstep : ∀ m k s,I (k+1) s→(∀ s',I k s'→(L m k s').wp P md (fun zs=>zs=f k s'))→(L (m+1) (k+1) s).wp P md (fun zs=>zs=f (k+1) s)) :
  ∀ m k s,k<m→I k s→(L m k s).wp P md (fun zs=>zs=f k s):=by
 intro m
 induction m with
 | zero=>intro k s h;omega
 | succ m ih =>
  intro k s h1 hI
  cases k with
  | zero=>exact hend m s hI
  | succ k=>exact hstep m k s hI (fun s' hI'=>ih k s' (by omega) hI')
abbrev Da{σ:Type} := @Vj σ Tryz.prog md
abbrev B1{α σ:Type} := @Adw α σ Tryz.prog md
theorem Ah:(∀ a:Arr,(dA a).fld 0=dB a.s)∧(∀ a:Arr,(dA a).fld 1=dI a.shape)∧(∀ a:Arr,(dA a).fld 2 = .sl (a.cells.map dC))∧(∀ c:Cell,(dC c).fld 0=dB c.l)∧(∀ c:Cell,(dC c).fld 1 = .int c.kind)∧(∀ c:Cell,(dC c).fld 2=dN c.n)∧(∀ c:Cell,(dC c).fld 3 = .int c.c)∧(∀ c:Cell,(dC c).fld 4 = .sl (c.inn.map dA))∧(∀ n:Num,(dN n).fld 0 = .bool n.neg)∧(∀ n:Num,(dN n).fld 1=dL n.top)∧(∀ n:Num,(dN n).fld 2=dL n.bot)∧(∀ l:List D,(D.sl l).els=l)∧(∀ l:List Int,(dI l).els=l.map .int)∧(∀ l:List Ao,(dL l).els=l.map dB)∧(∀ (α β:Type) (l:List α) (f:α→β),(l.map f).length=l.length)∧(∀ n:Nat,Alf (n:Int)=n)∧(∀ n:Int,(D.int n).toInt=n)∧(∀ (k:Nat) (x:BitVec k),(dB x).toInt=(x.toNat:Int))∧(∀ b:Bool,(D.bool b).toBool=b)∧(∀ (x:D) (l:List D),qA (x::l)=x)∧(∀ (x y:D) (l:List D),qB (x::y::l)=y)∧(∀ x y:Int,(x == y)=decide (x=y))∧(∀ x y:Int,(x != y)=decide (¬ x=y))∧(∀ (p:Prop) [Decidable p],(!decide p)=decide (¬ p))∧(∀ (k:Nat) (x:BitVec k),D.int (x.toNat:Int)=dB x)∧Alf 0=0 :=
 ⟨BS,Tj,BT,Ab7,LJ,Ab8,Ab9,BV,Lk,Nc,Ll,Dp,B0,Bx,fun _ _ _ _=>Ali _,Aln,Ak,fun _=>D5,Az,Ag,Cl,Cc,Cu,Eu,fun _=>Lj,Int.toNat_zero⟩
theorem Bb(k:Nat)(h:k<9223372036854775807:=by omega):Ale .i64 ((k:Int)+1)=((k+1:Nat):Int):=Fo h
theorem Aq{P:Program}{md:Nat→FMode}{Φ:List D→Prop}{c:Prop} [Decidable c] {t e:Tree}(he:e.wp P md Φ)(h : ¬ c:=by omega):(Tree.br (decide c) t e).wp P md Φ:=Mu h he
theorem Ad{P:Program}{md:Nat→FMode}{Φ:List D→Prop}{c:Prop} [Decidable c] {t e:Tree}(ht:t.wp P md Φ)(h:c:=by omega):(Tree.br (decide c) t e).wp P md Φ:=Av h ht
theorem EW(a b:A8):Bj .or .u64 (a.toNat:Int) (b.toNat:Int)=((a|||b).toNat:Int):=by
 show Ale .u64 ((BitVec.ofInt 64 (a.toNat:Int)|||BitVec.ofInt 64 (b.toNat:Int)).toNat:Int)=_
 have h:=(a|||b).isLt
 rw[show BitVec.ofInt 64 (a.toNat:Int)=a by simp,show BitVec.ofInt 64 (b.toNat:Int)=b by simp]
 exact Bq (Int.natCast_nonneg _) (Int.ofNat_lt.2 h)
theorem F9(a b:A8):Sp 83 [dB a,dB b] [dB (a|||b)]:=by
 refine Af 0 (AcZ 0 _ _) (Ac ?_)
 simp only[D5,EW];rfl
theorem Ah0(n:Nat)(a0:D):fA [] n 77 [] [a0] =
 cK 162 [a0] fun Y1 =>
 .br (!((qA Y1).toBool)) (.ret [D.int 0,D.bool false])
 (cK 164 [a0] fun Y2 =>
 cK 163 [qA Y2] fun Y3 =>
 .ret [D.int ((qA Y3).toInt),D.bool ((qB Y3).toBool)]):=by kernel_rfl
theorem Ahx(n:Nat)(a0:D):fA [] n 133 [] [a0] =
 bK (32<(((a0.fld 1).els).length:Int)) (.ret [D.bool false])
 (bK (32<(((a0.fld 2).els).length:Int)) (.ret [D.bool false])
 (cK 164 [a0] fun Y1 =>
 cK 210 [a0] fun Y2 =>
 cK 209 [qA Y1,qA Y2] fun Y3 =>
 .br (((qB Y3).toInt)==0) (cK 137 [a0,qA Y3] fun Y4 =>
 .ret [D.bool ((qA Y4).toBool)])
 (.ret [D.bool false]))):=by kernel_rfl
theorem Ahy(n:Nat)(a0 b1:D):fA [] n 137 [] [a0,b1] =
 .br (((a0.fld 0).toBool)==((b1.fld 0).toBool)) (cK 211 [a0.fld 1,b1.fld 1] fun Y1 =>
 .br ((qA Y1).toBool) (cK 211 [a0.fld 2,b1.fld 2] fun Y2 =>
 .ret [D.bool ((qA Y2).toBool)])
 (.ret [D.bool false]))
 (.ret [D.bool false]):=by kernel_rfl
theorem Ahr(n:Nat)(a0:D):fA [] n 162 [] [a0] =
 .br ((((a0.fld 2).els).length:Int)==1) (kK (0≤0) (kK (0<(((a0.fld 2).els).length:Int)) (.ret [D.bool (((((a0.fld 2).els).getD (Alf 0) D.nil).toInt)==1)])))
 (.ret [D.bool false]):=by kernel_rfl
theorem Ah1(n:Nat)(a0:D):fA [] n 164 [] [a0] =
 cK 223 [D.agg [D.bool ((a0.fld 0).toBool),a0.fld 1]] fun Y1 =>
 .ret [qA Y1]:=by kernel_rfl
theorem Ahv(n:Nat)(nn0:D):fA [] n 165 [] [nn0] =
 cK 225 [D.int nn0.toInt] fun Y1 =>
 cK 226 [qA Y1] fun Y2 =>
 .ret [qA Y2]:=by kernel_rfl
theorem Ag6(n:Nat)(a0:D):fA [] n 166 [] [a0] =
 cK 227 [a0.fld 2] fun Y1 =>
 .br (!((qA Y1).toBool)) (.ret [D.int 0,D.bool false])
 (cK 229 [a0] fun Y2 =>
 cK 228 [qA Y2] fun Y3 =>
 .ret [D.int ((qA Y3).toInt),D.bool ((qB Y3).toBool)]):=by kernel_rfl
theorem Aht(n:Nat)(p0 q1:D):fA [] n 209 [] [p0,q1] =
 cK 223 [p0] fun Y1 =>
 cK 223 [q1] fun Y2 =>
 .br (((((qA Y2).fld 1).els).length:Int)==0) (.ret [D.agg [D.bool false,D.sl [],D.sl []],D.int 3])
 (cK 243 [(qA Y1).fld 1,(qA Y2).fld 1] fun Y3 =>
 cK 244 [(qA Y1).fld 1,qA Y3] fun Y4 =>
 cK 244 [(qA Y2).fld 1,qA Y3] fun Y5 =>
 bK (32<(((qA Y4).els).length:Int)) (.ret [D.agg [D.bool false,D.sl [],D.sl []],D.int 7])
 (bK (32<(((qA Y5).els).length:Int)) (.ret [D.agg [D.bool false,D.sl [],D.sl []],D.int 7])
 (bK (0<(((qA Y4).els).length:Int)) (.ret [D.agg [D.bool (!((((qA Y1).fld 0).toBool)==(((qA Y2).fld 0).toBool))),qA Y4,qA Y5],D.int 0])
 (.ret [D.agg [D.bool false,qA Y4,qA Y5],D.int 0])))):=by kernel_rfl
theorem Ahp(n:Nat)(a0:D):fA [] n 210 [] [a0] =
 cK 223 [D.agg [D.bool false,a0.fld 2]] fun Y1 =>
 .ret [qA Y1]:=by kernel_rfl
theorem Ag0(n:Nat)(nn0:D):fA [] n 212 [] [nn0] =
 cK 246 [D.int nn0.toInt] fun Y1 =>
 cK 245 [qA Y1] fun Y2 =>
 .ret [qA Y2]:=by kernel_rfl
theorem Ago(n:Nat)(a0 b1:D):fA [] n 219 [] [a0,b1] =
 cK 227 [a0.fld 2] fun Y1 =>
 .br ((qA Y1).toBool) (cK 227 [b1.fld 2] fun Y2 =>
 .br ((qA Y2).toBool) (cK 229 [a0] fun Y3 =>
 cK 229 [b1] fun Y4 =>
 cK 253 [qA Y3,qA Y4] fun Y5 =>
 .ret [D.int ((qA Y5).toInt)])
 (cK 229 [a0] fun Y6 =>
 cK 255 [b1] fun Y7 =>
 cK 254 [qA Y6,qA Y7] fun Y8 =>
 cK 229 [b1] fun Y9 =>
 cK 255 [a0] fun Y10 =>
 cK 254 [qA Y9,qA Y10] fun Y11 =>
 cK 253 [qA Y8,qA Y11] fun Y12 =>
 .ret [D.int ((qA Y12).toInt)]))
 (cK 229 [a0] fun Y13 =>
 cK 255 [b1] fun Y14 =>
 cK 254 [qA Y13,qA Y14] fun Y15 =>
 cK 229 [b1] fun Y16 =>
 cK 255 [a0] fun Y17 =>
 cK 254 [qA Y16,qA Y17] fun Y18 =>
 cK 253 [qA Y15,qA Y18] fun Y19 =>
 .ret [D.int ((qA Y19).toInt)]):=by kernel_rfl
theorem Ah3(n:Nat)(nn0:D):fA [] n 226 [] [nn0] =
 cK 223 [nn0] fun Y1 =>
 .ret [D.agg [D.bool (((qA Y1).fld 0).toBool),(qA Y1).fld 1,D.sl [D.int 1]]]:=by kernel_rfl
theorem AgA(n:Nat)(a0:D):fA [] n 227 [] [a0] =
 .br ((a0.els.length:Int)==1) (kK (0≤0) (kK (0<(a0.els.length:Int)) (.ret [D.bool (((a0.els.getD (Alf 0) D.nil).toInt)==1)])))
 (.ret [D.bool false]):=by kernel_rfl
theorem AgB(n:Nat)(a0:D):fA [] n 229 [] [a0] =
 .ret [D.agg [D.bool ((a0.fld 0).toBool),a0.fld 1]]:=by kernel_rfl
theorem Ag8(n:Nat)(nn0:D):fA [] n 245 [] [nn0] =
 cK 269 [nn0] fun Y1 =>
 bK (32<((((qA Y1).fld 1).els).length:Int)) (.ret [D.agg [D.bool false,D.sl [],D.sl []]])
 (.ret [D.agg [D.bool (((qA Y1).fld 0).toBool),(qA Y1).fld 1,D.sl [D.int 1]]]):=by kernel_rfl
theorem Ag9(n:Nat)(a0:D):fA [] n 255 [] [a0] =
 .ret [D.agg [D.bool false,a0.fld 2]]:=by kernel_rfl
theorem Agz(n:Nat)(a0:D):fA [] n 258 [] [a0] =
 cK 304 [D.bool (!((a0.fld 0).toBool)),a0] fun Y1 =>
 .ret [qA Y1]:=by kernel_rfl
theorem Ag5(n:Nat)(a0:D):fA [] n 259 [] [a0] =
 cK 229 [a0] fun Y1 =>
 cK 301 [qA Y1] fun Y2 =>
 .ret [D.int ((qA Y2).toInt)]:=by kernel_rfl
theorem Agp(n:Nat)(a0 b1:D):fA [] n 260 [] [a0,b1] =
 cK 229 [a0] fun Y1 =>
 cK 255 [b1] fun Y2 =>
 cK 254 [qA Y1,qA Y2] fun Y3 =>
 cK 255 [a0] fun Y4 =>
 cK 229 [b1] fun Y5 =>
 cK 254 [qA Y4,qA Y5] fun Y6 =>
 cK 305 [qA Y3,qA Y6] fun Y7 =>
 .ret [qA Y7,D.int ((qB Y7).toInt)]:=by kernel_rfl
theorem Agn(n:Nat)(a0:D):fA [] n 261 [] [a0] =
 cK 258 [a0] fun Y1 =>
 cK 262 [qA Y1] fun Y2 =>
 cK 258 [qA Y2] fun Y3 =>
 .ret [qA Y3]:=by kernel_rfl
theorem Agq(n:Nat)(a0:D):fA [] n 262 [] [a0] =
 cK 229 [a0] fun Y1 =>
 cK 255 [a0] fun Y2 =>
 cK 306 [qA Y1,qA Y2] fun Y3 =>
 cK 245 [qA Y3] fun Y4 =>
 .ret [qA Y4]:=by kernel_rfl
theorem Agk(n:Nat)(a0:D):fA [] n 263 [] [a0] =
 cK 304 [D.bool false,a0] fun Y1 =>
 .ret [qA Y1]:=by kernel_rfl
theorem Ag4(n:Nat)(a0 b1:D):fA [] n 274 [] [a0,b1] =
 .br (((a0.fld 0).toBool)==((b1.fld 0).toBool)) (cK 312 [a0.fld 1,b1.fld 1] fun Y1 =>
 .br ((qA Y1).toBool) (cK 312 [a0.fld 2,b1.fld 2] fun Y2 =>
 .ret [D.bool ((qA Y2).toBool)])
 (.ret [D.bool false]))
 (.ret [D.bool false]):=by kernel_rfl
theorem Agl(n:Nat)(a0 b1:D):fA [] n 277 [] [a0,b1] =
 cK 229 [a0] fun Y1 =>
 cK 255 [b1] fun Y2 =>
 cK 254 [qA Y1,qA Y2] fun Y3 =>
 cK 229 [b1] fun Y4 =>
 cK 255 [a0] fun Y5 =>
 cK 254 [qA Y4,qA Y5] fun Y6 =>
 cK 313 [qA Y3,qA Y6] fun Y7 =>
 cK 255 [a0] fun Y8 =>
 cK 255 [b1] fun Y9 =>
 cK 254 [qA Y8,qA Y9] fun Y10 =>
 cK 305 [qA Y7,qA Y10] fun Y11 =>
 .ret [qA Y11,D.int ((qB Y11).toInt)]:=by kernel_rfl
theorem Ag7(n:Nat)(a0 b1:D):fA [] n 278 [] [a0,b1] =
 cK 258 [b1] fun Y1 =>
 cK 277 [a0,qA Y1] fun Y2 =>
 .ret [qA Y2,D.int ((qB Y2).toInt)]:=by kernel_rfl
theorem Agy(n:Nat)(a0 b1:D):fA [] n 279 [] [a0,b1] =
 cK 229 [a0] fun Y1 =>
 cK 229 [b1] fun Y2 =>
 cK 254 [qA Y1,qA Y2] fun Y3 =>
 cK 255 [a0] fun Y4 =>
 cK 255 [b1] fun Y5 =>
 cK 254 [qA Y4,qA Y5] fun Y6 =>
 cK 305 [qA Y3,qA Y6] fun Y7 =>
 .ret [qA Y7,D.int ((qB Y7).toInt)]:=by kernel_rfl
theorem Agx(n:Nat)(a0 b1:D):fA [] n 280 [] [a0,b1] =
 cK 259 [a0] fun Y1 =>
 .br (((qA Y1).toInt)==0) (cK 304 [D.bool ((b1.fld 0).toBool),b1] fun Y2 =>
 .ret [qA Y2,D.int 0])
 (cK 260 [b1,a0] fun Y3 =>
 .br (((qB Y3).toInt)!=0) (.ret [D.agg [D.bool false,D.sl [],D.sl []],D.int ((qB Y3).toInt)])
 (cK 262 [qA Y3] fun Y4 =>
 cK 279 [a0,qA Y4] fun Y5 =>
 .br (((qB Y5).toInt)!=0) (.ret [D.agg [D.bool false,D.sl [],D.sl []],D.int ((qB Y5).toInt)])
 (cK 278 [b1,qA Y5] fun Y6 =>
 .ret [qA Y6,D.int ((qB Y6).toInt)]))):=by kernel_rfl
theorem Ag2(n:Nat)(a0 nn1:D):fA [] n 281 [] [a0,nn1] =
 cK 229 [a0] fun Y1 =>
 cK 255 [a0] fun Y2 =>
 bK (nn1.toInt<0) (cK 301 [qA Y1] fun Y3 =>
 .br (((qA Y3).toInt)==0) (.ret [D.agg [D.bool false,D.sl [],D.sl []],D.int 3])
 (.br (nn1.toInt == (-9223372036854775808)) (.ret [D.agg [D.bool false,D.sl [],D.sl []],D.int 3])
 (cK 314 [qA Y2,D.int (Ale .i64 (0-nn1.toInt))] fun Y4 =>
 .br (((qB Y4).toInt)!=0) (.ret [D.agg [D.bool false,D.sl [],D.sl []],D.int ((qB Y4).toInt)])
 (cK 314 [qA Y1,D.int (Ale .i64 (0-nn1.toInt))] fun Y5 =>
 .br (((qB Y5).toInt)!=0) (.ret [D.agg [D.bool false,D.sl [],D.sl []],D.int ((qB Y5).toInt)])
 (cK 305 [qA Y4,qA Y5] fun Y6 =>
 .ret [qA Y6,D.int ((qB Y6).toInt)])))))
 (cK 314 [qA Y1,D.int nn1.toInt] fun Y7 =>
 .br (((qB Y7).toInt)!=0) (.ret [D.agg [D.bool false,D.sl [],D.sl []],D.int ((qB Y7).toInt)])
 (cK 314 [qA Y2,D.int nn1.toInt] fun Y8 =>
 .br (((qB Y8).toInt)!=0) (.ret [D.agg [D.bool false,D.sl [],D.sl []],D.int ((qB Y8).toInt)])
 (cK 305 [qA Y7,qA Y8] fun Y9 =>
 .ret [qA Y9,D.int ((qB Y9).toInt)]))):=by kernel_rfl
theorem Agu(n:Nat)(a0 b1:D):fA [] n 282 [] [a0,b1] =
 cK 283 [a0,b1] fun Y1 =>
 .br (((qB Y1).toInt)!=0) (.ret [D.agg [D.bool false,D.sl [],D.sl []],D.int ((qB Y1).toInt)])
 (cK 259 [qA Y1] fun Y2 =>
 .br (((qA Y2).toInt)==0) (cK 212 [D.int 0] fun Y3 =>
 .ret [qA Y3,D.int 0])
 (cK 260 [a0,qA Y1] fun Y4 =>
 .br (((qB Y4).toInt)!=0) (.ret [D.agg [D.bool false,D.sl [],D.sl []],D.int ((qB Y4).toInt)])
 (cK 279 [qA Y4,b1] fun Y5 =>
 .ret [qA Y5,D.int ((qB Y5).toInt)]))):=by kernel_rfl
theorem Agr(n:Nat)(a0 b1:D):fA [] n 283 [] [a0,b1] =
 cK 227 [a0.fld 2] fun Y1 =>
 .br (!((qA Y1).toBool)) (.ret [D.agg [D.bool false,D.sl [],D.sl []],D.int 3])
 (cK 227 [b1.fld 2] fun Y2 =>
 .br (!((qA Y2).toBool)) (.ret [D.agg [D.bool false,D.sl [],D.sl []],D.int 3])
 (cK 315 [a0.fld 1,b1.fld 1] fun Y3 =>
 cK 245 [D.agg [D.bool false,qA Y3]] fun Y4 =>
 .ret [qA Y4,D.int 0])):=by kernel_rfl
theorem Ag_(n:Nat)(neg0 a1:D):fA [] n 304 [] [neg0,a1] =
 cK 299 [a1.fld 1] fun Y1 =>
 cK 299 [a1.fld 2] fun Y2 =>
 .br neg0.toBool (.ret [D.agg [D.bool (decide (0<(((qA Y1).els).length:Int))),D.sl ((qA Y1).els),D.sl ((qA Y2).els)]])
 (.ret [D.agg [D.bool false,D.sl ((qA Y1).els),D.sl ((qA Y2).els)]]):=by kernel_rfl
theorem Agv(n:Nat)(p0 q1:D):fA [] n 305 [] [p0,q1] =
 cK 299 [p0.fld 1] fun Y1 =>
 cK 299 [q1.fld 1] fun Y2 =>
 .br ((((qA Y2).els).length:Int)==0) (.ret [D.agg [D.bool false,D.sl [],D.sl []],D.int 3])
 (cK 227 [D.sl ((qA Y2).els)] fun Y3 =>
 .br (!((qA Y3).toBool)) (cK 315 [D.sl ((qA Y1).els),D.sl ((qA Y2).els)] fun Y4 =>
 cK 227 [qA Y4] fun Y5 =>
 .br (!((qA Y5).toBool)) (cK 323 [D.sl ((qA Y1).els),qA Y4] fun Y6 =>
 cK 323 [D.sl ((qA Y2).els),qA Y4] fun Y7 =>
 bK (32<(((qA Y6).els).length:Int)) (.ret [D.agg [D.bool false,D.sl [],D.sl []],D.int 7])
 (bK (32<(((qA Y7).els).length:Int)) (.ret [D.agg [D.bool false,D.sl [],D.sl []],D.int 7])
 (bK (0<(((qA Y6).els).length:Int)) (.ret [D.agg [D.bool (!(((p0.fld 0).toBool)==((q1.fld 0).toBool))),qA Y6,qA Y7],D.int 0])
 (.ret [D.agg [D.bool false,qA Y6,qA Y7],D.int 0]))))
 (bK (32<(((qA Y1).els).length:Int)) (.ret [D.agg [D.bool false,D.sl [],D.sl []],D.int 7])
 (bK (32<(((qA Y2).els).length:Int)) (.ret [D.agg [D.bool false,D.sl [],D.sl []],D.int 7])
 (bK (0<(((qA Y1).els).length:Int)) (.ret [D.agg [D.bool (!(((p0.fld 0).toBool)==((q1.fld 0).toBool))),D.sl ((qA Y1).els),D.sl ((qA Y2).els)],D.int 0])
 (.ret [D.agg [D.bool false,D.sl ((qA Y1).els),D.sl ((qA Y2).els)],D.int 0])))))
 (bK (32<(((qA Y1).els).length:Int)) (.ret [D.agg [D.bool false,D.sl [],D.sl []],D.int 7])
 (bK (32<(((qA Y2).els).length:Int)) (.ret [D.agg [D.bool false,D.sl [],D.sl []],D.int 7])
 (bK (0<(((qA Y1).els).length:Int)) (.ret [D.agg [D.bool (!(((p0.fld 0).toBool)==((q1.fld 0).toBool))),D.sl ((qA Y1).els),D.sl ((qA Y2).els)],D.int 0])
 (.ret [D.agg [D.bool false,D.sl ((qA Y1).els),D.sl ((qA Y2).els)],D.int 0]))))):=by kernel_rfl
theorem TB(n:Nat)(a0:D):fA [] n 307 [] [a0] =
 cK 227 [a0.fld 2] fun Y1 =>
 .br (!((qA Y1).toBool)) (.ret [D.agg [D.bool false,D.sl []],D.bool false])
 (cK 229 [a0] fun Y2 =>
 cK 269 [qA Y2] fun Y3 =>
 .ret [qA Y3,D.bool true]):=by kernel_rfl
def Mh:List (Nat×Orc):=[(5,⟨[(0,some 23),(4,none),(5,none),(6,none)],[],[]⟩),(17,⟨[(0,some 23),(7,none),(8,none)],[],[]⟩)]
noncomputable def Rg(n m17:Nat)(s0:D)(nn7 i8:Int):Tree :=
 lA (eA Mh n 52 [1,1,1,1,1,1,1,0,1,0,0]) (Al Mh 17) m17 ⟨(.d 23 s0::uA 6++(.i .i64 nn7:: .i .i64 i8::uA 47)),[],[],[],[]⟩
  (Ai 2 (An (jA Mh n 52 [1,1,1,1,1,1,1,1]) (rA 52 [23] [.tmp 2,.tmp 3] [3,3])))
noncomputable def K1(n m5:Nat)(s0:D)(big4 none5:Bool)(i6:Int):Tree :=
 lA (eA Mh n 52 [1,1,1,0,1,0,0]) (Al Mh 5) m5 ⟨(.d 23 s0::uA 3++(.b big4:: .b none5:: .i .i64 i6::uA 49)),[],[],[],[]⟩
  (Ai 0 (An (jA Mh n 52 [1,1,1,1]) (rA 52 [23] [.tmp 2,.tmp 3] [3,3])))
theorem UI(n m17:Nat)(s0:D)(nn7 i8:Int):Rg n (m17+1) s0 nn7 i8 =
 bK (i8<(s0.els.length:Int)) (kK (0≤i8) (kK (i8<(s0.els.length:Int)) (bK (2048<(Ale .i64 (nn7*((s0.els.getD (Alf i8) D.nil).toInt)))) (.ret [D.int 0,D.int 7])
 (Rg n m17 s0 (Ale .i64 (nn7*((s0.els.getD (Alf i8) D.nil).toInt))) (Ale .i64 (i8+1))))))
 (.ret [D.int nn7,D.int 0]):=by kernel_rfl
theorem UJ(n m5:Nat)(s0:D)(big4 none5:Bool)(i6:Int):K1 n (m5+1) s0 big4 none5 i6 =
 bK (i6<(s0.els.length:Int)) (kK (0≤i6) (kK (i6<(s0.els.length:Int)) (bK (((s0.els.getD (Alf i6) D.nil).toInt)<0) (.ret [D.int 0,D.int 3])
 (.br big4 (.br none5 (K1 n m5 s0 true true (Ale .i64 (i6+1)))
 (kK (0≤i6) (kK (i6<(s0.els.length:Int)) (K1 n m5 s0 true (((s0.els.getD (Alf i6) D.nil).toInt)==0) (Ale .i64 (i6+1))))))
 (kK (0≤i6) (kK (i6<(s0.els.length:Int)) (.br none5 (K1 n m5 s0 (decide (2048<((s0.els.getD (Alf i6) D.nil).toInt))) true (Ale .i64 (i6+1)))
 (kK (0≤i6) (kK (i6<(s0.els.length:Int)) (K1 n m5 s0 (decide (2048<((s0.els.getD (Alf i6) D.nil).toInt))) (((s0.els.getD (Alf i6) D.nil).toInt)==0) (Ale .i64 (i6+1))))))))))))
 (.br big4 (.ret [D.int 0,D.int 7])
 (.br none5 (.ret [D.int 0,D.int 0])
 (Rg n n s0 1 0))):=by kernel_rfl
theorem Ah9(n:Nat)(s0:D):fA Mh n 52 [] [s0] =
 bK (6<(s0.els.length:Int)) (.ret [D.int 0,D.int 7])
 (K1 n n s0 false false 0):=by kernel_rfl
def Xw:List (Nat×Orc):=[(4,⟨[(0,some 23),(1,some 23),(5,none)],[],[]⟩)]
noncomputable def Xv(n m4:Nat)(a0 b1:D)(i5:Int):Tree :=
 lA (eA Xw n 54 [1,1,0,1,0,0]) (Al Xw 4) m4 ⟨(.d 23 a0:: .d 23 b1::uA 3++(.i .i64 i5::uA 20)),[],[],[],[]⟩
  (Ai 0 (An (jA Xw n 54 [1,1,1]) (rA 54 [23,23] [.tmp 4] [4])))
theorem Ah_(n m4:Nat)(a0 b1:D)(i5:Int):Xv n (m4+1) a0 b1 i5 =
 bK (i5<(a0.els.length:Int)) (kK (0≤i5) (kK (i5<(a0.els.length:Int)) (kK (0≤i5) (kK (i5<(b1.els.length:Int)) (.br (((a0.els.getD (Alf i5) D.nil).toInt)!=((b1.els.getD (Alf i5) D.nil).toInt)) (.ret [D.bool false])
 (Xv n m4 a0 b1 (Ale .i64 (i5+1))))))))
 (.ret [D.bool true]):=by kernel_rfl
theorem AhB(n:Nat)(a0 b1:D):fA Xw n 54 [] [a0,b1] =
 .br ((a0.els.length:Int)!=(b1.els.length:Int)) (.ret [D.bool false])
 (Xv n n a0 b1 0):=by kernel_rfl
theorem Ajk(n:Nat)(s0 v1:D):fA [] n 74 [] [s0,v1] =
 cK 160 [s0,D.int v1.toInt] fun Y1 =>
 .ret [D.bool (decide (0≤((qA Y1).toInt)))]:=by kernel_rfl
theorem AiU(n:Nat)(s0:D):fA [] n 81 [] [s0] =
 bK (6<(s0.els.length:Int)) (.ret [D.int 0,D.int 7])
 (cK 167 [s0,D.fn 168 [] []] fun Y1 =>
 .br ((qA Y1).toBool) (.ret [D.int 0,D.int 3])
 (cK 167 [s0,D.fn 169 [] []] fun Y2 =>
 .br ((qA Y2).toBool) (.ret [D.int 0,D.int 7])
 (cK 74 [s0,D.int 0] fun Y3 =>
 .br ((qA Y3).toBool) (.ret [D.int 0,D.int 0])
 (cK 170 [s0] fun Y4 =>
 .br (((qA Y4).toInt)==0) (.ret [D.int 0,D.int 7])
 (.ret [D.int ((qA Y4).toInt),D.int 0]))))):=by kernel_rfl
theorem XK(n:Nat)(s0:D):fA [] n 96 [] [s0] =
 .amb s0.els.isEmpty (.ret [D.sl []])
 (kK (([]:List D).length+s0.els.length≤Aj) (.ret [D.sl ([]++s0.els)])):=by kernel_rfl
theorem Ajd(n:Nat)(s0:D):fA [] n 139 [] [s0] =
 .amb s0.els.isEmpty (.ret [D.sl []])
 (kK (([]:List D).length+s0.els.length≤Aj) (.ret [D.sl ([]++s0.els)])):=by kernel_rfl
theorem AiQ(n:Nat)(s0 axis1:D):fA [] n 140 [] [s0,axis1] =
 cK 81 [s0] fun Y1 =>
 .br (((qB Y1).toInt)!=0) (.ret [D.int 0,D.int 0,D.int 0,D.bool false])
 (bK (axis1.toInt<0) (.ret [D.int 0,D.int 0,D.int 0,D.bool false])
 (bK ((s0.els.length:Int)≤axis1.toInt) (.ret [D.int 0,D.int 0,D.int 0,D.bool false])
 (kK (0≤axis1.toInt) (kK (axis1.toInt≤(s0.els.length:Int)) (cK 170 [D.sl (s0.els.take (Alf axis1.toInt))] fun Y2 =>
 kK (0≤axis1.toInt) (kK (axis1.toInt<(s0.els.length:Int)) (kK (0≤Ale .i64 (axis1.toInt+1)) (kK (Ale .i64 (axis1.toInt+1)≤(s0.els.length:Int)) (cK 170 [D.sl (s0.els.drop (Alf (Ale .i64 (axis1.toInt+1))))] fun Y3 =>
 .ret [D.int ((qA Y2).toInt),D.int ((s0.els.getD (Alf axis1.toInt) D.nil).toInt),D.int ((qA Y3).toInt),D.bool true]))))))))):=by kernel_rfl
def HP:List (Nat×Orc):=[(1,⟨[(0,none),(2,none),(3,none)],[],[(.slot 0,0,3)]⟩)]
noncomputable def Zj(n m1:Nat)(s0:List D)(i2 j3:Int):Tree :=
 lA (eA HP n 144 [1,0,0]) (Al HP 1) m1 ⟨(.row 0:: .undef:: .i .i64 i2:: .i .i64 j3::uA 24),[(0,.row 3 s0 true)],[0],[],[0]⟩
  (Ai 0 (rA 144 [23] [] []))
theorem Ajv(n m1:Nat)(s0:List D)(i2 j3:Int):Zj n (m1+1) s0 i2 j3 =
 bK (i2<j3) (kK (0≤j3) (kK (j3<(s0.length:Int)) (kK (0≤i2) (kK (i2<(s0.length:Int)) (kK (0≤i2) (kK (i2<(s0.length:Int)) (kK (0≤j3) (kK (j3<((s0.set (Alf i2) (D.int ((s0.getD (Alf j3) D.nil).toInt))).length:Int)) (Zj n m1 ((s0.set (Alf i2) (D.int ((s0.getD (Alf j3) D.nil).toInt))).set (Alf j3) (D.int ((s0.getD (Alf i2) D.nil).toInt))) (Ale .i64 (i2+1)) (Ale .i64 (j3-1)))))))))))
 (.ret [D.sl s0]):=by kernel_rfl
theorem Ajw(n:Nat)(s0:D):fA HP n 144 [] [s0] =
 Zj n n s0.els 0 (Ale .i64 ((s0.els.length:Int)-1)):=by kernel_rfl
theorem Ajx(n:Nat)(x0 cmp1_c0 cmp1_c1:D):fA [] n 155 [] [x0,(D.fn 156 [.ref 4,.ref 26] [cmp1_c0,cmp1_c1])] =
 cK 217 [D.sl x0.els,D.int (x0.els.length:Int),(D.fn 156 [.ref 4,.ref 26] [cmp1_c0,cmp1_c1])] fun Y1 =>
 .ret [D.sl ((qA Y1).els)]:=by kernel_rfl
def Zi:List (Nat×Orc):=[(2,⟨[(0,some 23),(1,none),(7,none),(8,none)],[],[]⟩)]
noncomputable def Zh(n m2:Nat)(s0:D)(v1 t7 t8:Int):Tree :=
 lA (eA Zi n 160 [1,0,1,0,0]) (Al Zi 2) m2 ⟨(.d 23 s0:: .i .i64 v1::uA 5++(.i .i64 t7:: .i .i64 t8::uA 10)),[],[],[],[]⟩
  (Ai 0 (An (jA Zi n 160 [1,1]) (rA 160 [23,3] [.tmp 4] [3])))
theorem XU(n m2:Nat)(s0:D)(v1 t7 t8:Int):Zh n (m2+1) s0 v1 t7 t8 =
 bK (t8<t7) (kK (0≤t8) (kK (t8<(s0.els.length:Int)) (.br (v1 == ((s0.els.getD (Alf t8) D.nil).toInt)) (.ret [D.int t8])
 (Zh n m2 s0 v1 t7 (Ale .i64 (t8+1))))))
 (.ret [D.int (-1)]):=by kernel_rfl
theorem Aju(n:Nat)(s0 v1:D):fA Zi n 160 [] [s0,v1] =
 Zh n n s0 v1.toInt (s0.els.length:Int) 0:=by kernel_rfl
theorem Aji(n:Nat)(s0:D):fA [] n 167 [] [s0,(D.fn 168 [] [])] =
 cK 230 [s0,(D.fn 168 [] [])] fun Y1 =>
 .ret [D.bool (decide (0≤((qA Y1).toInt)))]:=by kernel_rfl
theorem Ajj(n:Nat)(s0:D):fA [] n 167 [] [s0,(D.fn 169 [] [])] =
 cK 230 [s0,(D.fn 169 [] [])] fun Y1 =>
 .ret [D.bool (decide (0≤((qA Y1).toInt)))]:=by kernel_rfl
theorem Ajh(n:Nat)(s0:D):fA [] n 167 [] [s0,(D.fn 188 [] [])] =
 cK 230 [s0,(D.fn 188 [] [])] fun Y1 =>
 .ret [D.bool (decide (0≤((qA Y1).toInt)))]:=by kernel_rfl
theorem AiS(n:Nat)(nn0:D):fA [] n 168 [] [nn0] =
 .ret [D.bool (decide (nn0.toInt<0))]:=by kernel_rfl
theorem AiT(n:Nat)(nn0:D):fA [] n 169 [] [nn0] =
 .ret [D.bool (decide (2048<nn0.toInt))]:=by kernel_rfl
def Yx:List (Nat×Orc):=[(3,⟨[(3,none),(6,some 23),(7,none),(8,none)],[],[]⟩)]
noncomputable def Rt(n m3:Nat)(out3:Int)(t6:D)(t7 t8:Int):Tree :=
 lA (eA Yx n 170 [1,1,0,1,0,0]) (Al Yx 3) m3 ⟨(uA 3++(.i .i64 out3:: .undef:: .undef:: .d 23 t6:: .i .i64 t7:: .i .i64 t8::uA 10)),[],[],[],[]⟩
  (Ai 0 (An (jA Yx n 170 [1,1,1]) (rA 170 [23] [.tmp 2] [3])))
theorem Yw(n m3:Nat)(out3:Int)(t6:D)(t7 t8:Int):Rt n (m3+1) out3 t6 t7 t8 =
 bK (t8<t7) (kK (0≤t8) (kK (t8<(t6.els.length:Int)) (bK (2048<(Ale .i64 (out3*((t6.els.getD (Alf t8) D.nil).toInt)))) (.ret [D.int 0])
 (Rt n m3 (Ale .i64 (out3*((t6.els.getD (Alf t8) D.nil).toInt))) t6 t7 (Ale .i64 (t8+1))))))
 (.ret [D.int out3]):=by kernel_rfl
theorem XI(n:Nat)(s0:D):fA Yx n 170 [] [s0] =
 Rt n n 1 s0 (s0.els.length:Int) 0:=by kernel_rfl
theorem AiW(n:Nat)(s0 axis1 nn2:D):fA [] n 173 [] [s0,axis1,nn2] =
 bK (axis1.toInt<0) (.ret [D.sl [],D.bool false])
 (bK ((s0.els.length:Int)≤axis1.toInt) (.ret [D.sl [],D.bool false])
 (cK 96 [s0] fun Y1 =>
 kK (0≤axis1.toInt) (kK (axis1.toInt<(((qA Y1).els).length:Int)) (.ret [D.sl (((qA Y1).els).set (Alf axis1.toInt) (D.int nn2.toInt)),D.bool true])))):=by kernel_rfl
def Yt:List (Nat×Orc):=[(6,⟨[(0,some 23),(1,none),(8,none),(9,none)],[],[(.slot 8,1060,3)]⟩)]
noncomputable def Ys(n m6:Nat)(s0:D)(nn1:Int)(out8:List D)(i9:Int):Tree :=
 lA (eA Yt n 175 [1,1,1,1,0,1,0,0]) (Al Yt 6) m6 ⟨(.d 23 s0:: .i .i64 nn1::uA 6++(.row 1060:: .i .i64 i9::uA 42)),[(1060,.row 3 out8 true)],[1060],[],[]⟩
  (Ai 0 (An (jA Yt n 175 [1,1,1,1,1]) (rA 175 [23,3] [.tmp 4,.tmp 5] [23,4])))
theorem XC(n m6:Nat)(s0:D)(nn1:Int)(out8:List D)(i9:Int):Ys n (m6+1) s0 nn1 out8 i9 =
 bK (0≤i9) (kK (0≤i9) (kK (i9<(s0.els.length:Int)) (.br (!(((s0.els.getD (Alf i9) D.nil).toInt)==(0:Int))) (kK (0≤i9) (kK (i9<(out8.length:Int)) (kK (0≤i9) (kK (i9<(s0.els.length:Int)) (.br (!(((s0.els.getD (Alf i9) D.nil).toInt)==(0:Int))) (Ys n m6 s0 (Ale .i64 (Int.tdiv nn1 ((s0.els.getD (Alf i9) D.nil).toInt))) (out8.set (Alf i9) (D.int (Int.tmod nn1 ((s0.els.getD (Alf i9) D.nil).toInt)))) (Ale .i64 (i9-1))) .fail))))) .fail)))
 (.ret [D.sl out8,D.bool true]):=by kernel_rfl
theorem AiR(n:Nat)(s0 nn1:D):fA Yt n 175 [] [s0,nn1] =
 cK 81 [s0] fun Y1 =>
 .br (((qB Y1).toInt)!=0) (.ret [D.sl [],D.bool false])
 (bK (nn1.toInt<0) (.ret [D.sl [],D.bool false])
 (bK (((qA Y1).toInt)≤nn1.toInt) (.ret [D.sl [],D.bool false])
 (kK (0≤(s0.els.length:Int)) (kK ((s0.els.length:Int)≤(s0.els.length:Int)) (kK ((s0.els.length:Int)≤Aj) (Ys n n s0 nn1.toInt (Alh (Alf (s0.els.length:Int)) (D.int 0)) (Ale .i64 ((s0.els.length:Int)-1)))))))):=by kernel_rfl
def Yv:List (Nat×Orc):=[(6,⟨[(1,some 23),(8,none),(25,some 23),(26,none),(27,none)],[],[]⟩)]
noncomputable def Yu(n m6:Nat)(at1:D)(out8:Int)(t25:D)(t26 t27:Int):Tree :=
 lA (eA Yv n 176 [1,1,1,0,1,0,0]) (Al Yv 6) m6 ⟨(.undef:: .d 23 at1::uA 6++(.i .i64 out8::uA 16++(.d 23 t25:: .i .i64 t26:: .i .i64 t27::uA 27))),[],[],[],[]⟩
  (Ai 0 (An (jA Yv n 176 [1,1,1,1]) (rA 176 [23,23] [.tmp 4,.tmp 5] [3,4])))
theorem XE(n m6:Nat)(at1:D)(out8:Int)(t25:D)(t26 t27:Int):Yu n (m6+1) at1 out8 t25 t26 t27 =
 bK (t27<t26) (kK (0≤t27) (kK (t27<(t25.els.length:Int)) (kK (0≤t27) (kK (t27<(at1.els.length:Int)) (bK (((at1.els.getD (Alf t27) D.nil).toInt)<0) (.ret [D.int 0,D.bool false])
 (kK (0≤t27) (kK (t27<(at1.els.length:Int)) (bK (((t25.els.getD (Alf t27) D.nil).toInt)≤((at1.els.getD (Alf t27) D.nil).toInt)) (.ret [D.int 0,D.bool false])
 (kK (0≤t27) (kK (t27<(at1.els.length:Int)) (Yu n m6 at1 (Ale .i64 ((Ale .i64 (out8*((t25.els.getD (Alf t27) D.nil).toInt)))+((at1.els.getD (Alf t27) D.nil).toInt))) t25 t26 (Ale .i64 (t27+1)))))))))))))
 (.ret [D.int out8,D.bool true]):=by kernel_rfl
theorem AiV(n:Nat)(s0 at1:D):fA Yv n 176 [] [s0,at1] =
 cK 81 [s0] fun Y1 =>
 .br (((qB Y1).toInt)!=0) (.ret [D.int 0,D.bool false])
 (.br ((at1.els.length:Int)!=(s0.els.length:Int)) (.ret [D.int 0,D.bool false])
 (Yu n n at1 0 s0 (s0.els.length:Int) 0)):=by kernel_rfl
def Ht:List (Nat×Orc):=[(2,⟨[(0,none),(1,none),(2,some 107),(6,none),(7,none),(8,none)],[],[(.slot 0,0,3)]⟩),(7,⟨[(0,none),(1,none),(2,some 107),(6,none)],[],[(.slot 0,0,3)]⟩),(9,⟨[(0,none),(1,none),(2,some 107),(6,none),(7,none),(8,none)],[],[(.slot 0,0,3)]⟩)]
def Zo:List Nat:=[23,3,107]
noncomputable def Zn(n m7 m9:Nat)(data0:List D)(nn1:Int)(cmp2:D)(blockSize6 a7 b8:Int):Tree :=
 lA (eA Ht n 217 [1,1,1,1,0,0,1,0,1,0,0,0]) (Al Ht 9) m9 ⟨(.row 0:: .i .i64 nn1:: .d 107 cmp2::uA 3++(.i .i64 blockSize6:: .i .i64 a7:: .i .i64 b8::uA 54)),[(0,.row 3 data0 true)],[0],[],[0]⟩
  (Ai 4 (An (jA Ht n 217 [1,1,1,1,0,0,1,0,1,1]) (Ai 3 (Fg Tryz.prog md (Al Ht 7) (fun s1=>lA (eA Ht n 217 [1,1,1,1,0,0]) (Al Ht 7) m7 s1 (Ai 2 (rA 217 Zo [] []))) (Ai 2 (rA 217 Zo [] []))))))
noncomputable def Oy(n m7:Nat)(data0:List D)(nn1:Int)(cmp2:D)(blockSize6:Int):Tree :=
 lA (eA Ht n 217 [1,1,1,1,0,0]) (Al Ht 7) m7 ⟨(.row 0:: .i .i64 nn1:: .d 107 cmp2::uA 3++(.i .i64 blockSize6::uA 56)),[(0,.row 3 data0 true)],[0],[],[0]⟩
  (Ai 2 (rA 217 Zo [] []))
noncomputable def Zm(n m2:Nat)(data0:List D)(nn1:Int)(cmp2:D)(blockSize6 a7 b8:Int):Tree :=
 lA (eA Ht n 217 [1,1,0,0,0]) (Al Ht 2) m2 ⟨(.row 0:: .i .i64 nn1:: .d 107 cmp2::uA 3++(.i .i64 blockSize6:: .i .i64 a7:: .i .i64 b8::uA 54)),[(0,.row 3 data0 true)],[0],[],[0]⟩
  (Ai 0 (An (jA Ht n 217 [1,1,1]) (rA 217 Zo [] [])))
theorem Aj3(n m7 m9:Nat)(data0:List D)(nn1:Int)(cmp2_c0 cmp2_c1:D)(blockSize6 a7 b8:Int):Zn n m7 (m9+1) data0 nn1 (D.fn 156 [.ref 4,.ref 26] [cmp2_c0,cmp2_c1]) blockSize6 a7 b8 =
 bK (b8≤nn1) (cK 251 [D.sl data0,D.int a7,D.int (Ale .i64 (a7+blockSize6)),D.int b8,(D.fn 156 [.ref 4,.ref 26] [cmp2_c0,cmp2_c1])] fun Y3 =>
 Zn n m7 m9 ((qA Y3).els) nn1 (D.fn 156 [.ref 4,.ref 26] [cmp2_c0,cmp2_c1]) blockSize6 b8 (Ale .i64 (b8+(Ale .i64 (2*blockSize6)))))
 (bK ((Ale .i64 (a7+blockSize6))<nn1) (cK 251 [D.sl data0,D.int a7,D.int (Ale .i64 (a7+blockSize6)),D.int nn1,(D.fn 156 [.ref 4,.ref 26] [cmp2_c0,cmp2_c1])] fun Y4 =>
 Oy n m7 ((qA Y4).els) nn1 (D.fn 156 [.ref 4,.ref 26] [cmp2_c0,cmp2_c1]) (Ale .i64 (blockSize6*2)))
 (Oy n m7 data0 nn1 (D.fn 156 [.ref 4,.ref 26] [cmp2_c0,cmp2_c1]) (Ale .i64 (blockSize6*2)))):=by kernel_rfl
theorem Aj2(n m7:Nat)(data0:List D)(nn1:Int)(cmp2_c0 cmp2_c1:D)(blockSize6:Int):Oy n (m7+1) data0 nn1 (D.fn 156 [.ref 4,.ref 26] [cmp2_c0,cmp2_c1]) blockSize6 =
 bK (blockSize6<nn1) (Zn n m7 n data0 nn1 (D.fn 156 [.ref 4,.ref 26] [cmp2_c0,cmp2_c1]) blockSize6 0 (Ale .i64 (2*blockSize6)))
 (.ret [D.sl data0]):=by kernel_rfl
theorem Aj1(n m2:Nat)(data0:List D)(nn1:Int)(cmp2_c0 cmp2_c1:D)(blockSize6 a7 b8:Int):Zm n (m2+1) data0 nn1 (D.fn 156 [.ref 4,.ref 26] [cmp2_c0,cmp2_c1]) blockSize6 a7 b8 =
 bK (b8≤nn1) (cK 250 [D.sl data0,D.int a7,D.int b8,(D.fn 156 [.ref 4,.ref 26] [cmp2_c0,cmp2_c1])] fun Y1 =>
 Zm n m2 ((qA Y1).els) nn1 (D.fn 156 [.ref 4,.ref 26] [cmp2_c0,cmp2_c1]) blockSize6 b8 (Ale .i64 (b8+blockSize6)))
 (cK 250 [D.sl data0,D.int a7,D.int nn1,(D.fn 156 [.ref 4,.ref 26] [cmp2_c0,cmp2_c1])] fun Y2 =>
 Oy n n ((qA Y2).els) nn1 (D.fn 156 [.ref 4,.ref 26] [cmp2_c0,cmp2_c1]) blockSize6):=by kernel_rfl
theorem Aj4(n:Nat)(data0 nn1:D)(cmp2_c0 cmp2_c1:D):fA Ht n 217 [] [data0,nn1,(D.fn 156 [.ref 4,.ref 26] [cmp2_c0,cmp2_c1])] =
 Zm n n data0.els nn1.toInt (D.fn 156 [.ref 4,.ref 26] [cmp2_c0,cmp2_c1]) 20 0 20:=by kernel_rfl
def Ow:List (Nat×Orc):=[(2,⟨[(0,some 23),(1,some 119),(7,none),(8,none)],[],[]⟩)]
noncomputable def Hs(n m2:Nat)(s0 f1:D)(t7 t8:Int):Tree :=
 lA (eA Ow n 230 [1,0,1,0,0]) (Al Ow 2) m2 ⟨(.d 23 s0:: .d 119 f1::uA 5++(.i .i64 t7:: .i .i64 t8::uA 10)),[],[],[],[]⟩
  (Ai 0 (An (jA Ow n 230 [1,1]) (rA 230 [23,119] [.tmp 4] [3])))
theorem XR(n m2:Nat)(s0:D)(t7 t8:Int):Hs n (m2+1) s0 (D.fn 168 [] []) t7 t8 =
 bK (t8<t7) (kK (0≤t8) (kK (t8<(s0.els.length:Int)) (.call (D.fn 168 [] []).fnId (D.fn 168 [] []).fnCts ([D.int ((s0.els.getD (Alf t8) D.nil).toInt)]++(D.fn 168 [] []).fnDs) fun Y1 =>
 .br ((qA Y1).toBool) (.ret [D.int t8])
 (Hs n m2 s0 (D.fn 168 [] []) t7 (Ale .i64 (t8+1))))))
 (.ret [D.int (-1)]):=by kernel_rfl
theorem XS(n m2:Nat)(s0:D)(t7 t8:Int):Hs n (m2+1) s0 (D.fn 169 [] []) t7 t8 =
 bK (t8<t7) (kK (0≤t8) (kK (t8<(s0.els.length:Int)) (.call (D.fn 169 [] []).fnId (D.fn 169 [] []).fnCts ([D.int ((s0.els.getD (Alf t8) D.nil).toInt)]++(D.fn 169 [] []).fnDs) fun Y1 =>
 .br ((qA Y1).toBool) (.ret [D.int t8])
 (Hs n m2 s0 (D.fn 169 [] []) t7 (Ale .i64 (t8+1))))))
 (.ret [D.int (-1)]):=by kernel_rfl
theorem XQ(n m2:Nat)(s0:D)(t7 t8:Int):Hs n (m2+1) s0 (D.fn 188 [] []) t7 t8 =
 bK (t8<t7) (kK (0≤t8) (kK (t8<(s0.els.length:Int)) (.call (D.fn 188 [] []).fnId (D.fn 188 [] []).fnCts ([D.int ((s0.els.getD (Alf t8) D.nil).toInt)]++(D.fn 188 [] []).fnDs) fun Y1 =>
 .br ((qA Y1).toBool) (.ret [D.int t8])
 (Hs n m2 s0 (D.fn 188 [] []) t7 (Ale .i64 (t8+1))))))
 (.ret [D.int (-1)]):=by kernel_rfl
theorem Ajs(n:Nat)(s0:D):fA Ow n 230 [] [s0,(D.fn 168 [] [])] =
 Hs n n s0 (D.fn 168 [] []) (s0.els.length:Int) 0:=by kernel_rfl
theorem Ajt(n:Nat)(s0:D):fA Ow n 230 [] [s0,(D.fn 169 [] [])] =
 Hs n n s0 (D.fn 169 [] []) (s0.els.length:Int) 0:=by kernel_rfl
theorem Ajr(n:Nat)(s0:D):fA Ow n 230 [] [s0,(D.fn 188 [] [])] =
 Hs n n s0 (D.fn 188 [] []) (s0.els.length:Int) 0:=by kernel_rfl
def Ze:List (Nat×Orc):=[(4,⟨[(0,some 23),(1,some 23),(12,none),(13,none)],[],[]⟩)]
noncomputable def Zd(n m4:Nat)(s10 s21:D)(t12 t13:Int):Tree :=
 lA (eA Ze n 234 [1,1,0,1,0,0]) (Al Ze 4) m4 ⟨(.d 23 s10:: .d 23 s21::uA 10++(.i .i64 t12:: .i .i64 t13::uA 12)),[],[],[],[]⟩
  (Ai 0 (An (jA Ze n 234 [1,1,1]) (rA 234 [23,23] [.tmp 4] [4])))
theorem Ajn(n m4:Nat)(s10 s21:D)(t12 t13:Int):Zd n (m4+1) s10 s21 t12 t13 =
 bK (t13<t12) (kK (0≤t13) (kK (t13<(s10.els.length:Int)) (kK (0≤t13) (kK (t13<(s21.els.length:Int)) (.br (((s10.els.getD (Alf t13) D.nil).toInt)!=((s21.els.getD (Alf t13) D.nil).toInt)) (.ret [D.bool false])
 (Zd n m4 s10 s21 t12 (Ale .i64 (t13+1))))))))
 (.ret [D.bool true]):=by kernel_rfl
theorem Ajo(n:Nat)(s10 s21:D):fA Ze n 234 [] [s10,s21] =
 .br ((s10.els.length:Int)!=(s21.els.length:Int)) (.ret [D.bool false])
 (Zd n n s10 s21 (s10.els.length:Int) 0):=by kernel_rfl
theorem Aje(n:Nat)(s0:D):fA [] n 247 [] [s0] =
 .amb s0.els.isEmpty (.ret [D.sl []])
 (kK (([]:List D).length+s0.els.length≤Aj) (.ret [D.sl ([]++s0.els)])):=by kernel_rfl
theorem Ajc(n:Nat)(s0:D):fA [] n 248 [] [s0] =
 .amb s0.els.isEmpty (.ret [D.sl []])
 (kK (([]:List D).length+s0.els.length≤Aj) (.ret [D.sl ([]++s0.els)])):=by kernel_rfl
def J9:List (Nat×Orc):=[(1,⟨[(0,none),(1,none),(2,none),(3,some 107),(8,none)],[],[(.slot 0,0,3)]⟩),(4,⟨[(0,none),(1,none),(2,none),(3,some 107),(8,none),(9,none)],[],[(.slot 0,0,3)]⟩)]
def HR:List Nat:=[23,3,3,107]
noncomputable def Zk(n m1 m4:Nat)(data0:List D)(a1 b2:Int)(cmp3:D)(i8 j9:Int):Tree :=
 lA (eA J9 n 250 [1,0,0,1,0,0,1,0,0]) (Al J9 4) m4 ⟨(.row 0:: .i .i64 a1:: .i .i64 b2:: .d 107 cmp3::uA 4++(.i .i64 i8:: .i .i64 j9::uA 43)),[(0,.row 3 data0 true)],[0],[],[0]⟩
  (Ai 2 (Ai 1 (An (jA J9 n 250 [1,0,0,1,1]) (Fg Tryz.prog md (Al J9 1) (fun s1=>lA (eA J9 n 250 [1,0,0]) (Al J9 1) m1 s1 (Ai 0 (rA 250 HR [] []))) (Ai 0 (rA 250 HR [] []))))))
noncomputable def Ox(n m1:Nat)(data0:List D)(a1 b2:Int)(cmp3:D)(i8:Int):Tree :=
 lA (eA J9 n 250 [1,0,0]) (Al J9 1) m1 ⟨(.row 0:: .i .i64 a1:: .i .i64 b2:: .d 107 cmp3::uA 4++(.i .i64 i8::uA 44)),[(0,.row 3 data0 true)],[0],[],[0]⟩
  (Ai 0 (rA 250 HR [] []))
theorem XW(n m1 m4:Nat)(data0:List D)(a1 b2:Int)(cmp3_c0 cmp3_c1:D)(i8 j9:Int):Zk n m1 (m4+1) data0 a1 b2 (D.fn 156 [.ref 4,.ref 26] [cmp3_c0,cmp3_c1]) i8 j9 =
 bK (a1<j9) (kK (0≤j9) (kK (j9<(data0.length:Int)) (kK (0≤Ale .i64 (j9-1)) (kK (Ale .i64 (j9-1)<(data0.length:Int)) (.call (D.fn 156 [.ref 4,.ref 26] [cmp3_c0,cmp3_c1]).fnId (D.fn 156 [.ref 4,.ref 26] [cmp3_c0,cmp3_c1]).fnCts ([D.int ((data0.getD (Alf j9) D.nil).toInt),D.int ((data0.getD (Alf (Ale .i64 (j9-1))) D.nil).toInt)]++(D.fn 156 [.ref 4,.ref 26] [cmp3_c0,cmp3_c1]).fnDs) fun Y1 =>
 bK (((qA Y1).toInt)<0) (kK (0≤Ale .i64 (j9-1)) (kK (Ale .i64 (j9-1)<(data0.length:Int)) (kK (0≤j9) (kK (j9<(data0.length:Int)) (kK (0≤j9) (kK (j9<(data0.length:Int)) (kK (0≤Ale .i64 (j9-1)) (kK (Ale .i64 (j9-1)<((data0.set (Alf j9) (D.int ((data0.getD (Alf (Ale .i64 (j9-1))) D.nil).toInt))).length:Int)) (Zk n m1 m4 ((data0.set (Alf j9) (D.int ((data0.getD (Alf (Ale .i64 (j9-1))) D.nil).toInt))).set (Alf (Ale .i64 (j9-1))) (D.int ((data0.getD (Alf j9) D.nil).toInt))) a1 b2 (D.fn 156 [.ref 4,.ref 26] [cmp3_c0,cmp3_c1]) i8 (Ale .i64 (j9-1)))))))))))
 (Ox n m1 data0 a1 b2 (D.fn 156 [.ref 4,.ref 26] [cmp3_c0,cmp3_c1]) (Ale .i64 (i8+1))))))))
 (Ox n m1 data0 a1 b2 (D.fn 156 [.ref 4,.ref 26] [cmp3_c0,cmp3_c1]) (Ale .i64 (i8+1))):=by kernel_rfl
theorem XV(n m1:Nat)(data0:List D)(a1 b2:Int)(cmp3_c0 cmp3_c1:D)(i8:Int):Ox n (m1+1) data0 a1 b2 (D.fn 156 [.ref 4,.ref 26] [cmp3_c0,cmp3_c1]) i8 =
 bK (i8<b2) (Zk n m1 n data0 a1 b2 (D.fn 156 [.ref 4,.ref 26] [cmp3_c0,cmp3_c1]) i8 i8)
 (.ret [D.sl data0]):=by kernel_rfl
theorem Ajy(n:Nat)(data0 a1:D)(b2 cmp3_c0 cmp3_c1:D):fA J9 n 250 [] [data0,a1,b2,(D.fn 156 [.ref 4,.ref 26] [cmp3_c0,cmp3_c1])] =
 Ox n n data0.els a1.toInt b2.toInt (D.fn 156 [.ref 4,.ref 26] [cmp3_c0,cmp3_c1]) (Ale .i64 (a1.toInt+1)):=by kernel_rfl
def Ea:List (Nat×Orc):=[(3,⟨[(0,none),(1,none),(4,some 107),(10,none),(11,none)],[],[(.slot 0,0,3)]⟩),(9,⟨[(0,none),(10,none),(13,none)],[],[(.slot 0,0,3)]⟩),(15,⟨[(0,none),(2,none),(4,some 107),(14,none),(15,none)],[],[(.slot 0,0,3)]⟩),(21,⟨[(0,none),(14,none),(17,none)],[],[(.slot 0,0,3)]⟩),(33,⟨[(0,none),(1,none),(2,none),(3,none),(4,some 107),(18,none),(19,none),(20,none),(21,none),(22,none)],[],[(.slot 0,0,3)]⟩)]
def Rx:List Nat:=[23,3,3,3,107]
noncomputable def Zr(n m9:Nat)(data0:List D)(i10 k13:Int):Tree :=
 lA (eA Ea n 251 [0,1,0,1,1,1,0,1,0,0]) (Al Ea 9) m9 ⟨(.row 0::uA 9++(.i .i64 i10:: .undef:: .undef:: .i .i64 k13::uA 206)),[(0,.row 3 data0 true)],[0],[],[0]⟩
  (Ai 2 (An (jA Ea n 251 [0,1,0,1,1,1,1]) (An (jA Ea n 251 [1]) (rA 251 Rx [] []))))
noncomputable def Rw(n m3:Nat)(data0:List D)(a1:Int)(cmp4:D)(i10 j11:Int):Tree :=
 lA (eA Ea n 251 [0,1,0,1,1,0,0,0]) (Al Ea 3) m3 ⟨(.row 0:: .i .i64 a1:: .undef:: .undef:: .d 107 cmp4::uA 5++(.i .i64 i10:: .i .i64 j11::uA 208)),[(0,.row 3 data0 true)],[0],[],[0]⟩
  (Ai 0 (An (jA Ea n 251 [0,1,0,1,1,1]) (An (jA Ea n 251 [1]) (rA 251 Rx [] []))))
noncomputable def Zq(n m21:Nat)(data0:List D)(i14 k17:Int):Tree :=
 lA (eA Ea n 251 [1,0,1,0,1,1,1,0,1,0,0]) (Al Ea 21) m21 ⟨(.row 0::uA 13++(.i .i64 i14:: .undef:: .undef:: .i .i64 k17::uA 202)),[(0,.row 3 data0 true)],[0],[],[0]⟩
  (Ai 6 (An (jA Ea n 251 [1,0,1,0,1,1,1,1]) (An (jA Ea n 251 [1,1]) (rA 251 Rx [] []))))
noncomputable def Rv(n m15:Nat)(data0:List D)(mm2:Int)(cmp4:D)(i14 j15:Int):Tree :=
 lA (eA Ea n 251 [1,0,1,0,1,1,0,0,0]) (Al Ea 15) m15 ⟨(.row 0:: .undef:: .i .i64 mm2:: .undef:: .d 107 cmp4::uA 9++(.i .i64 i14:: .i .i64 j15::uA 204)),[(0,.row 3 data0 true)],[0],[],[0]⟩
  (Ai 4 (An (jA Ea n 251 [1,0,1,0,1,1,1]) (An (jA Ea n 251 [1,1]) (rA 251 Rx [] []))))
noncomputable def Oz(n m33:Nat)(data0:List D)(a1 mm2 b3:Int)(cmp4:D)(mid18 nn19:Int)(start20 r21 p22:Int):Tree :=
 lA (eA Ea n 251 [1,1,1,1,1,1,1,0,0,0]) (Al Ea 33) m33 ⟨(.row 0:: .i .i64 a1:: .i .i64 mm2:: .i .i64 b3:: .d 107 cmp4::uA 13++(.i .i64 mid18:: .i .i64 nn19:: .i .i64 start20:: .i .i64 r21:: .i .i64 p22::uA 197)),[(0,.row 3 data0 true)],[0],[],[0]⟩
  (Ai 8 (An (jA Ea n 251 [1,1,1,1,1,1,1,1]) (rA 251 Rx [] [])))
theorem XZ(n m9:Nat)(data0:List D)(i10 k13:Int):Zr n (m9+1) data0 i10 k13 =
 bK (k13<(Ale .i64 (i10-1))) (kK (0≤Ale .i64 (k13+1)) (kK (Ale .i64 (k13+1)<(data0.length:Int)) (kK (0≤k13) (kK (k13<(data0.length:Int)) (kK (0≤k13) (kK (k13<(data0.length:Int)) (kK (0≤Ale .i64 (k13+1)) (kK (Ale .i64 (k13+1)<((data0.set (Alf k13) (D.int ((data0.getD (Alf (Ale .i64 (k13+1))) D.nil).toInt))).length:Int)) (Zr n m9 ((data0.set (Alf k13) (D.int ((data0.getD (Alf (Ale .i64 (k13+1))) D.nil).toInt))).set (Alf (Ale .i64 (k13+1))) (D.int ((data0.getD (Alf k13) D.nil).toInt))) i10 (Ale .i64 (k13+1)))))))))))
 (.ret [D.sl data0]):=by kernel_rfl
theorem Aj8(n m3:Nat)(data0:List D)(a1:Int)(cmp4_c0 cmp4_c1:D)(i10 j11:Int):Rw n (m3+1) data0 a1 (D.fn 156 [.ref 4,.ref 26] [cmp4_c0,cmp4_c1]) i10 j11 =
 bK (i10<j11) (kK (0≤1) (kK (0≤Ale .i64 (Al8 (Ale .u64 (Ale .i64 (i10+j11))) (2 ^ (min (Alf 1) (Alq .u64))))) (kK (Ale .i64 (Al8 (Ale .u64 (Ale .i64 (i10+j11))) (2 ^ (min (Alf 1) (Alq .u64))))<(data0.length:Int)) (kK (0≤a1) (kK (a1<(data0.length:Int)) (.call (D.fn 156 [.ref 4,.ref 26] [cmp4_c0,cmp4_c1]).fnId (D.fn 156 [.ref 4,.ref 26] [cmp4_c0,cmp4_c1]).fnCts ([D.int ((data0.getD (Alf (Ale .i64 (Al8 (Ale .u64 (Ale .i64 (i10+j11))) (2 ^ (min (Alf 1) (Alq .u64)))))) D.nil).toInt),D.int ((data0.getD (Alf a1) D.nil).toInt)]++(D.fn 156 [.ref 4,.ref 26] [cmp4_c0,cmp4_c1]).fnDs) fun Y1 =>
 bK (((qA Y1).toInt)<0) (Rw n m3 data0 a1 (D.fn 156 [.ref 4,.ref 26] [cmp4_c0,cmp4_c1]) (Ale .i64 ((Ale .i64 (Al8 (Ale .u64 (Ale .i64 (i10+j11))) (2 ^ (min (Alf 1) (Alq .u64)))))+1)) j11)
 (Rw n m3 data0 a1 (D.fn 156 [.ref 4,.ref 26] [cmp4_c0,cmp4_c1]) i10 (Ale .i64 (Al8 (Ale .u64 (Ale .i64 (i10+j11))) (2 ^ (min (Alf 1) (Alq .u64))))))))))))
 (Zr n n data0 i10 a1):=by kernel_rfl
theorem XY(n m21:Nat)(data0:List D)(i14 k17:Int):Zq n (m21+1) data0 i14 k17 =
 bK (i14<k17) (kK (0≤Ale .i64 (k17-1)) (kK (Ale .i64 (k17-1)<(data0.length:Int)) (kK (0≤k17) (kK (k17<(data0.length:Int)) (kK (0≤k17) (kK (k17<(data0.length:Int)) (kK (0≤Ale .i64 (k17-1)) (kK (Ale .i64 (k17-1)<((data0.set (Alf k17) (D.int ((data0.getD (Alf (Ale .i64 (k17-1))) D.nil).toInt))).length:Int)) (Zq n m21 ((data0.set (Alf k17) (D.int ((data0.getD (Alf (Ale .i64 (k17-1))) D.nil).toInt))).set (Alf (Ale .i64 (k17-1))) (D.int ((data0.getD (Alf k17) D.nil).toInt))) i14 (Ale .i64 (k17-1)))))))))))
 (.ret [D.sl data0]):=by kernel_rfl
theorem Aj6(n m15:Nat)(data0:List D)(mm2:Int)(cmp4_c0 cmp4_c1:D)(i14 j15:Int):Rv n (m15+1) data0 mm2 (D.fn 156 [.ref 4,.ref 26] [cmp4_c0,cmp4_c1]) i14 j15 =
 bK (i14<j15) (kK (0≤1) (kK (0≤mm2) (kK (mm2<(data0.length:Int)) (kK (0≤Ale .i64 (Al8 (Ale .u64 (Ale .i64 (i14+j15))) (2 ^ (min (Alf 1) (Alq .u64))))) (kK (Ale .i64 (Al8 (Ale .u64 (Ale .i64 (i14+j15))) (2 ^ (min (Alf 1) (Alq .u64))))<(data0.length:Int)) (.call (D.fn 156 [.ref 4,.ref 26] [cmp4_c0,cmp4_c1]).fnId (D.fn 156 [.ref 4,.ref 26] [cmp4_c0,cmp4_c1]).fnCts ([D.int ((data0.getD (Alf mm2) D.nil).toInt),D.int ((data0.getD (Alf (Ale .i64 (Al8 (Ale .u64 (Ale .i64 (i14+j15))) (2 ^ (min (Alf 1) (Alq .u64)))))) D.nil).toInt)]++(D.fn 156 [.ref 4,.ref 26] [cmp4_c0,cmp4_c1]).fnDs) fun Y2 =>
 .br (!(decide (((qA Y2).toInt)<0))) (Rv n m15 data0 mm2 (D.fn 156 [.ref 4,.ref 26] [cmp4_c0,cmp4_c1]) (Ale .i64 ((Ale .i64 (Al8 (Ale .u64 (Ale .i64 (i14+j15))) (2 ^ (min (Alf 1) (Alq .u64)))))+1)) j15)
 (Rv n m15 data0 mm2 (D.fn 156 [.ref 4,.ref 26] [cmp4_c0,cmp4_c1]) i14 (Ale .i64 (Al8 (Ale .u64 (Ale .i64 (i14+j15))) (2 ^ (min (Alf 1) (Alq .u64))))))))))))
 (Zq n n data0 i14 mm2):=by kernel_rfl
theorem Aj7(n m33:Nat)(data0:List D)(a1 mm2 b3:Int)(cmp4_c0 cmp4_c1:D)(mid18 nn19:Int)(start20 r21 p22:Int):Oz n (m33+1) data0 a1 mm2 b3 (D.fn 156 [.ref 4,.ref 26] [cmp4_c0,cmp4_c1]) mid18 nn19 start20 r21 p22 =
 bK (start20<r21) (kK (0≤1) (kK (0≤Ale .i64 (p22-(Ale .i64 (Al8 (Ale .u64 (Ale .i64 (start20+r21))) (2 ^ (min (Alf 1) (Alq .u64))))))) (kK (Ale .i64 (p22-(Ale .i64 (Al8 (Ale .u64 (Ale .i64 (start20+r21))) (2 ^ (min (Alf 1) (Alq .u64))))))<(data0.length:Int)) (kK (0≤Ale .i64 (Al8 (Ale .u64 (Ale .i64 (start20+r21))) (2 ^ (min (Alf 1) (Alq .u64))))) (kK (Ale .i64 (Al8 (Ale .u64 (Ale .i64 (start20+r21))) (2 ^ (min (Alf 1) (Alq .u64))))<(data0.length:Int)) (.call (D.fn 156 [.ref 4,.ref 26] [cmp4_c0,cmp4_c1]).fnId (D.fn 156 [.ref 4,.ref 26] [cmp4_c0,cmp4_c1]).fnCts ([D.int ((data0.getD (Alf (Ale .i64 (p22-(Ale .i64 (Al8 (Ale .u64 (Ale .i64 (start20+r21))) (2 ^ (min (Alf 1) (Alq .u64)))))))) D.nil).toInt),D.int ((data0.getD (Alf (Ale .i64 (Al8 (Ale .u64 (Ale .i64 (start20+r21))) (2 ^ (min (Alf 1) (Alq .u64)))))) D.nil).toInt)]++(D.fn 156 [.ref 4,.ref 26] [cmp4_c0,cmp4_c1]).fnDs) fun Y3 =>
 .br (!(decide (((qA Y3).toInt)<0))) (Oz n m33 data0 a1 mm2 b3 (D.fn 156 [.ref 4,.ref 26] [cmp4_c0,cmp4_c1]) mid18 nn19 (Ale .i64 ((Ale .i64 (Al8 (Ale .u64 (Ale .i64 (start20+r21))) (2 ^ (min (Alf 1) (Alq .u64)))))+1)) r21 p22)
 (Oz n m33 data0 a1 mm2 b3 (D.fn 156 [.ref 4,.ref 26] [cmp4_c0,cmp4_c1]) mid18 nn19 start20 (Ale .i64 (Al8 (Ale .u64 (Ale .i64 (start20+r21))) (2 ^ (min (Alf 1) (Alq .u64))))) p22)))))))
 (bK (start20<mm2) (bK (mm2<(Ale .i64 (nn19-start20))) (cK 300 [D.sl data0,D.int start20,D.int mm2,D.int (Ale .i64 (nn19-start20)),(D.fn 156 [.ref 4,.ref 26] [cmp4_c0,cmp4_c1])] fun Y4 =>
 bK (a1<start20) (bK (start20<mid18) (cK 251 [D.sl ((qA Y4).els),D.int a1,D.int start20,D.int mid18,(D.fn 156 [.ref 4,.ref 26] [cmp4_c0,cmp4_c1])] fun Y5 =>
 bK (mid18<(Ale .i64 (nn19-start20))) (bK ((Ale .i64 (nn19-start20))<b3) (cK 251 [D.sl ((qA Y5).els),D.int mid18,D.int (Ale .i64 (nn19-start20)),D.int b3,(D.fn 156 [.ref 4,.ref 26] [cmp4_c0,cmp4_c1])] fun Y6 =>
 .ret [D.sl ((qA Y6).els)])
 (.ret [D.sl ((qA Y5).els)]))
 (.ret [D.sl ((qA Y5).els)]))
 (bK (mid18<(Ale .i64 (nn19-start20))) (bK ((Ale .i64 (nn19-start20))<b3) (cK 251 [D.sl ((qA Y4).els),D.int mid18,D.int (Ale .i64 (nn19-start20)),D.int b3,(D.fn 156 [.ref 4,.ref 26] [cmp4_c0,cmp4_c1])] fun Y7 =>
 .ret [D.sl ((qA Y7).els)])
 (.ret [D.sl ((qA Y4).els)]))
 (.ret [D.sl ((qA Y4).els)])))
 (bK (mid18<(Ale .i64 (nn19-start20))) (bK ((Ale .i64 (nn19-start20))<b3) (cK 251 [D.sl ((qA Y4).els),D.int mid18,D.int (Ale .i64 (nn19-start20)),D.int b3,(D.fn 156 [.ref 4,.ref 26] [cmp4_c0,cmp4_c1])] fun Y8 =>
 .ret [D.sl ((qA Y8).els)])
 (.ret [D.sl ((qA Y4).els)]))
 (.ret [D.sl ((qA Y4).els)])))
 (bK (a1<start20) (bK (start20<mid18) (cK 251 [D.sl data0,D.int a1,D.int start20,D.int mid18,(D.fn 156 [.ref 4,.ref 26] [cmp4_c0,cmp4_c1])] fun Y9 =>
 bK (mid18<(Ale .i64 (nn19-start20))) (bK ((Ale .i64 (nn19-start20))<b3) (cK 251 [D.sl ((qA Y9).els),D.int mid18,D.int (Ale .i64 (nn19-start20)),D.int b3,(D.fn 156 [.ref 4,.ref 26] [cmp4_c0,cmp4_c1])] fun Y10 =>
 .ret [D.sl ((qA Y10).els)])
 (.ret [D.sl ((qA Y9).els)]))
 (.ret [D.sl ((qA Y9).els)]))
 (bK (mid18<(Ale .i64 (nn19-start20))) (bK ((Ale .i64 (nn19-start20))<b3) (cK 251 [D.sl data0,D.int mid18,D.int (Ale .i64 (nn19-start20)),D.int b3,(D.fn 156 [.ref 4,.ref 26] [cmp4_c0,cmp4_c1])] fun Y11 =>
 .ret [D.sl ((qA Y11).els)])
 (.ret [D.sl data0]))
 (.ret [D.sl data0])))
 (bK (mid18<(Ale .i64 (nn19-start20))) (bK ((Ale .i64 (nn19-start20))<b3) (cK 251 [D.sl data0,D.int mid18,D.int (Ale .i64 (nn19-start20)),D.int b3,(D.fn 156 [.ref 4,.ref 26] [cmp4_c0,cmp4_c1])] fun Y12 =>
 .ret [D.sl ((qA Y12).els)])
 (.ret [D.sl data0]))
 (.ret [D.sl data0]))))
 (bK (a1<start20) (bK (start20<mid18) (cK 251 [D.sl data0,D.int a1,D.int start20,D.int mid18,(D.fn 156 [.ref 4,.ref 26] [cmp4_c0,cmp4_c1])] fun Y13 =>
 bK (mid18<(Ale .i64 (nn19-start20))) (bK ((Ale .i64 (nn19-start20))<b3) (cK 251 [D.sl ((qA Y13).els),D.int mid18,D.int (Ale .i64 (nn19-start20)),D.int b3,(D.fn 156 [.ref 4,.ref 26] [cmp4_c0,cmp4_c1])] fun Y14 =>
 .ret [D.sl ((qA Y14).els)])
 (.ret [D.sl ((qA Y13).els)]))
 (.ret [D.sl ((qA Y13).els)]))
 (bK (mid18<(Ale .i64 (nn19-start20))) (bK ((Ale .i64 (nn19-start20))<b3) (cK 251 [D.sl data0,D.int mid18,D.int (Ale .i64 (nn19-start20)),D.int b3,(D.fn 156 [.ref 4,.ref 26] [cmp4_c0,cmp4_c1])] fun Y15 =>
 .ret [D.sl ((qA Y15).els)])
 (.ret [D.sl data0]))
 (.ret [D.sl data0])))
 (bK (mid18<(Ale .i64 (nn19-start20))) (bK ((Ale .i64 (nn19-start20))<b3) (cK 251 [D.sl data0,D.int mid18,D.int (Ale .i64 (nn19-start20)),D.int b3,(D.fn 156 [.ref 4,.ref 26] [cmp4_c0,cmp4_c1])] fun Y16 =>
 .ret [D.sl ((qA Y16).els)])
 (.ret [D.sl data0]))
 (.ret [D.sl data0])))):=by kernel_rfl
theorem Aj9(n:Nat)(data0 a1:D)(mm2 b3:D)(cmp4_c0 cmp4_c1:D):fA Ea n 251 [] [data0,a1,mm2,b3,(D.fn 156 [.ref 4,.ref 26] [cmp4_c0,cmp4_c1])] =
 .br ((Ale .i64 (mm2.toInt-a1.toInt))==1) (Rw n n data0.els a1.toInt (D.fn 156 [.ref 4,.ref 26] [cmp4_c0,cmp4_c1]) mm2.toInt b3.toInt)
 (.br ((Ale .i64 (b3.toInt-mm2.toInt))==1) (Rv n n data0.els mm2.toInt (D.fn 156 [.ref 4,.ref 26] [cmp4_c0,cmp4_c1]) a1.toInt mm2.toInt)
 (kK (0≤1) (bK ((Ale .i64 (Al8 (Ale .u64 (Ale .i64 (a1.toInt+b3.toInt))) (2 ^ (min (Alf 1) (Alq .u64)))))<mm2.toInt) (Oz n n data0.els a1.toInt mm2.toInt b3.toInt (D.fn 156 [.ref 4,.ref 26] [cmp4_c0,cmp4_c1]) (Ale .i64 (Al8 (Ale .u64 (Ale .i64 (a1.toInt+b3.toInt))) (2 ^ (min (Alf 1) (Alq .u64))))) (Ale .i64 ((Ale .i64 (Al8 (Ale .u64 (Ale .i64 (a1.toInt+b3.toInt))) (2 ^ (min (Alf 1) (Alq .u64)))))+mm2.toInt)) (Ale .i64 ((Ale .i64 ((Ale .i64 (Al8 (Ale .u64 (Ale .i64 (a1.toInt+b3.toInt))) (2 ^ (min (Alf 1) (Alq .u64)))))+mm2.toInt))-b3.toInt)) (Ale .i64 (Al8 (Ale .u64 (Ale .i64 (a1.toInt+b3.toInt))) (2 ^ (min (Alf 1) (Alq .u64))))) (Ale .i64 ((Ale .i64 ((Ale .i64 (Al8 (Ale .u64 (Ale .i64 (a1.toInt+b3.toInt))) (2 ^ (min (Alf 1) (Alq .u64)))))+mm2.toInt))-1)))
 (Oz n n data0.els a1.toInt mm2.toInt b3.toInt (D.fn 156 [.ref 4,.ref 26] [cmp4_c0,cmp4_c1]) (Ale .i64 (Al8 (Ale .u64 (Ale .i64 (a1.toInt+b3.toInt))) (2 ^ (min (Alf 1) (Alq .u64))))) (Ale .i64 ((Ale .i64 (Al8 (Ale .u64 (Ale .i64 (a1.toInt+b3.toInt))) (2 ^ (min (Alf 1) (Alq .u64)))))+mm2.toInt)) a1.toInt mm2.toInt (Ale .i64 ((Ale .i64 ((Ale .i64 (Al8 (Ale .u64 (Ale .i64 (a1.toInt+b3.toInt))) (2 ^ (min (Alf 1) (Alq .u64)))))+mm2.toInt))-1)))))):=by kernel_rfl
def Yz:List (Nat×Orc):=[(2,⟨[(0,some 23),(1,some 23),(9,some 23),(10,none),(11,none)],[],[]⟩)]
noncomputable def Yy(n m2:Nat)(s10 s21 t9:D)(t10 t11:Int):Tree :=
 lA (eA Yz n 256 [1,0,1,0,0]) (Al Yz 2) m2 ⟨(.d 23 s10:: .d 23 s21::uA 7++(.d 23 t9:: .i .i64 t10:: .i .i64 t11::uA 24)),[],[],[],[]⟩
  (Ai 0 (An (jA Yz n 256 [1,1]) (rA 256 [23,23] [.tmp 4] [3])))
theorem XL(n m2:Nat)(s10 s21 t9:D)(t10 t11:Int):Yy n (m2+1) s10 s21 t9 t10 t11 =
 bK (t11<t10) (kK (0≤t11) (kK (t11<(t9.els.length:Int)) (bK ((s21.els.length:Int)≤t11) (.ret [D.int 1])
 (kK (0≤t11) (kK (t11<(s21.els.length:Int)) (cK 218 [D.int ((t9.els.getD (Alf t11) D.nil).toInt),D.int ((s21.els.getD (Alf t11) D.nil).toInt)] fun Y1 =>
 .br (((qA Y1).toInt)!=0) (.ret [D.int ((qA Y1).toInt)])
 (Yy n m2 s10 s21 t9 t10 (Ale .i64 (t11+1)))))))))
 (bK ((s10.els.length:Int)<(s21.els.length:Int)) (.ret [D.int (-1)])
 (.ret [D.int 0])):=by kernel_rfl
theorem Ajf(n:Nat)(s10 s21:D):fA Yz n 256 [] [s10,s21] =
 Yy n n s10 s21 s10 (s10.els.length:Int) 0:=by kernel_rfl
def Zc:List (Nat×Orc):=[(4,⟨[(1,some 24),(2,some 77),(15,some 24),(16,none),(17,none)],[],[]⟩)]
noncomputable def Zb(n m4:Nat)(s21 eq2 t15:D)(t16 t17:Int):Tree :=
 lA (eA Zc n 272 [1,1,0,1,0,0]) (Al Zc 4) m4 ⟨(.undef:: .d 24 s21:: .d 77 eq2::uA 12++(.d 24 t15:: .i .i64 t16:: .i .i64 t17::uA 14)),[],[],[],[]⟩
  (Ai 0 (An (jA Zc n 272 [1,1,1]) (rA 272 [24,24,77] [.tmp 6] [4])))
theorem XN(n m4:Nat)(s21 eq2_c0 t15:D)(t16 t17:Int):Zb n (m4+1) s21 (D.fn 273 [.ref 4] [eq2_c0]) t15 t16 t17 =
 bK (t17<t16) (kK (0≤t17) (kK (t17<(t15.els.length:Int)) (kK (0≤t17) (kK (t17<(s21.els.length:Int)) (.call (D.fn 273 [.ref 4] [eq2_c0]).fnId (D.fn 273 [.ref 4] [eq2_c0]).fnCts ([t15.els.getD (Alf t17) D.nil,s21.els.getD (Alf t17) D.nil]++(D.fn 273 [.ref 4] [eq2_c0]).fnDs) fun Y1 =>
 .br (!((qA Y1).toBool)) (.ret [D.bool false])
 (Zb n m4 s21 (D.fn 273 [.ref 4] [eq2_c0]) t15 t16 (Ale .i64 (t17+1))))))))
 (.ret [D.bool true]):=by kernel_rfl
theorem Ajm(n:Nat)(s10 s21 eq2_c0:D):fA Zc n 272 [] [s10,s21,(D.fn 273 [.ref 4] [eq2_c0])] =
 .br ((s10.els.length:Int)!=(s21.els.length:Int)) (.ret [D.bool false])
 (Zb n n s21 (D.fn 273 [.ref 4] [eq2_c0]) s10 (s10.els.length:Int) 0):=by kernel_rfl
def Za:List (Nat×Orc):=[(4,⟨[(1,some 65),(2,some 44),(15,some 65),(16,none),(17,none)],[],[]⟩)]
noncomputable def Y_(n m4:Nat)(s21 eq2 t15:D)(t16 t17:Int):Tree :=
 lA (eA Za n 275 [1,1,0,1,0,0]) (Al Za 4) m4 ⟨(.undef:: .d 65 s21:: .d 44 eq2::uA 12++(.d 65 t15:: .i .i64 t16:: .i .i64 t17::uA 14)),[],[],[],[]⟩
  (Ai 0 (An (jA Za n 275 [1,1,1]) (rA 275 [65,65,44] [.tmp 6] [4])))
theorem XM(n m4:Nat)(s21 eq2_c0 t15:D)(t16 t17:Int):Y_ n (m4+1) s21 (D.fn 276 [.ref 4] [eq2_c0]) t15 t16 t17 =
 bK (t17<t16) (kK (0≤t17) (kK (t17<(t15.els.length:Int)) (kK (0≤t17) (kK (t17<(s21.els.length:Int)) (.call (D.fn 276 [.ref 4] [eq2_c0]).fnId (D.fn 276 [.ref 4] [eq2_c0]).fnCts ([t15.els.getD (Alf t17) D.nil,s21.els.getD (Alf t17) D.nil]++(D.fn 276 [.ref 4] [eq2_c0]).fnDs) fun Y1 =>
 .br (!((qA Y1).toBool)) (.ret [D.bool false])
 (Y_ n m4 s21 (D.fn 276 [.ref 4] [eq2_c0]) t15 t16 (Ale .i64 (t17+1))))))))
 (.ret [D.bool true]):=by kernel_rfl
theorem Ajl(n:Nat)(s10 s21 eq2_c0:D):fA Za n 275 [] [s10,s21,(D.fn 276 [.ref 4] [eq2_c0])] =
 .br ((s10.els.length:Int)!=(s21.els.length:Int)) (.ret [D.bool false])
 (Y_ n n s21 (D.fn 276 [.ref 4] [eq2_c0]) s10 (s10.els.length:Int) 0):=by kernel_rfl
def Zl:List (Nat×Orc):=[(2,⟨[(0,none),(2,none),(4,some 107),(10,none),(11,none)],[],[(.slot 0,0,3)]⟩)]
noncomputable def Ru(n m2:Nat)(data0:List D)(mm2:Int)(cmp4:D)(i10 j11:Int):Tree :=
 lA (eA Zl n 300 [1,1,0,0,0]) (Al Zl 2) m2 ⟨(.row 0:: .undef:: .i .i64 mm2:: .undef:: .d 107 cmp4::uA 5++(.i .i64 i10:: .i .i64 j11::uA 46)),[(0,.row 3 data0 true)],[0],[],[0]⟩
  (Ai 0 (An (jA Zl n 300 [1,1,1]) (rA 300 [23,3,3,3,107] [] [])))
theorem Ajz(n m2:Nat)(data0:List D)(mm2:Int)(cmp4_c0 cmp4_c1:D)(i10 j11:Int):Ru n (m2+1) data0 mm2 (D.fn 156 [.ref 4,.ref 26] [cmp4_c0,cmp4_c1]) i10 j11 =
 .br (i10 != j11) (bK (j11<i10) (cK 322 [D.sl data0,D.int (Ale .i64 (mm2-i10)),D.int mm2,D.int j11,(D.fn 156 [.ref 4,.ref 26] [cmp4_c0,cmp4_c1])] fun Y1 =>
 Ru n m2 ((qA Y1).els) mm2 (D.fn 156 [.ref 4,.ref 26] [cmp4_c0,cmp4_c1]) (Ale .i64 (i10-j11)) j11)
 (cK 322 [D.sl data0,D.int (Ale .i64 (mm2-i10)),D.int (Ale .i64 ((Ale .i64 (mm2+j11))-i10)),D.int i10,(D.fn 156 [.ref 4,.ref 26] [cmp4_c0,cmp4_c1])] fun Y2 =>
 Ru n m2 ((qA Y2).els) mm2 (D.fn 156 [.ref 4,.ref 26] [cmp4_c0,cmp4_c1]) i10 (Ale .i64 (j11-i10))))
 (cK 322 [D.sl data0,D.int (Ale .i64 (mm2-i10)),D.int mm2,D.int i10,(D.fn 156 [.ref 4,.ref 26] [cmp4_c0,cmp4_c1])] fun Y3 =>
 .ret [D.sl ((qA Y3).els)]):=by kernel_rfl
theorem Aj0(n:Nat)(data0 a1:D)(mm2 b3:D)(cmp4_c0 cmp4_c1:D):fA Zl n 300 [] [data0,a1,mm2,b3,(D.fn 156 [.ref 4,.ref 26] [cmp4_c0,cmp4_c1])] =
 Ru n n data0.els mm2.toInt (D.fn 156 [.ref 4,.ref 26] [cmp4_c0,cmp4_c1]) (Ale .i64 (mm2.toInt-a1.toInt)) (Ale .i64 (b3.toInt-mm2.toInt)):=by kernel_rfl
def Zg:List (Nat×Orc):=[(4,⟨[(0,some 62),(1,some 62),(12,none),(13,none)],[],[]⟩)]
noncomputable def Zf(n m4:Nat)(s10 s21:D)(t12 t13:Int):Tree :=
 lA (eA Zg n 312 [1,1,0,1,0,0]) (Al Zg 4) m4 ⟨(.d 62 s10:: .d 62 s21::uA 10++(.i .i64 t12:: .i .i64 t13::uA 12)),[],[],[],[]⟩
  (Ai 0 (An (jA Zg n 312 [1,1,1]) (rA 312 [62,62] [.tmp 4] [4])))
theorem Ajp(n m4:Nat)(s10 s21:D)(t12 t13:Int):Zf n (m4+1) s10 s21 t12 t13 =
 bK (t13<t12) (kK (0≤t13) (kK (t13<(s10.els.length:Int)) (kK (0≤t13) (kK (t13<(s21.els.length:Int)) (.br (((s10.els.getD (Alf t13) D.nil).toInt)!=((s21.els.getD (Alf t13) D.nil).toInt)) (.ret [D.bool false])
 (Zf n m4 s10 s21 t12 (Ale .i64 (t13+1))))))))
 (.ret [D.bool true]):=by kernel_rfl
theorem Ajq(n:Nat)(s10 s21:D):fA Zg n 312 [] [s10,s21] =
 .br ((s10.els.length:Int)!=(s21.els.length:Int)) (.ret [D.bool false])
 (Zf n n s10 s21 (s10.els.length:Int) 0):=by kernel_rfl
def HV:List (Nat×Orc):=[(1,⟨[(0,none),(1,none),(2,none),(3,none),(10,none)],[],[(.slot 0,0,3)]⟩)]
noncomputable def Zp(n m1:Nat)(data0:List D)(a1 b2:Int)(nn3 i10:Int):Tree :=
 lA (eA HV n 322 [1,0,0]) (Al HV 1) m1 ⟨(.row 0:: .i .i64 a1:: .i .i64 b2:: .i .i64 nn3::uA 6++(.i .i64 i10::uA 27)),[(0,.row 3 data0 true)],[0],[],[0]⟩
  (Ai 0 (rA 322 [23,3,3,3,107] [] []))
theorem XX(n m1:Nat)(data0:List D)(a1 b2:Int)(nn3 i10:Int):Zp n (m1+1) data0 a1 b2 nn3 i10 =
 bK (i10<nn3) (kK (0≤Ale .i64 (b2+i10)) (kK (Ale .i64 (b2+i10)<(data0.length:Int)) (kK (0≤Ale .i64 (a1+i10)) (kK (Ale .i64 (a1+i10)<(data0.length:Int)) (kK (0≤Ale .i64 (a1+i10)) (kK (Ale .i64 (a1+i10)<(data0.length:Int)) (kK (0≤Ale .i64 (b2+i10)) (kK (Ale .i64 (b2+i10)<((data0.set (Alf (Ale .i64 (a1+i10))) (D.int ((data0.getD (Alf (Ale .i64 (b2+i10))) D.nil).toInt))).length:Int)) (Zp n m1 ((data0.set (Alf (Ale .i64 (a1+i10))) (D.int ((data0.getD (Alf (Ale .i64 (b2+i10))) D.nil).toInt))).set (Alf (Ale .i64 (b2+i10))) (D.int ((data0.getD (Alf (Ale .i64 (a1+i10))) D.nil).toInt))) a1 b2 nn3 (Ale .i64 (i10+1)))))))))))
 (.ret [D.sl data0]):=by kernel_rfl
theorem Aj5(n:Nat)(data0 a1:D)(b2 nn3:D)(cmp4_c0 cmp4_c1:D):fA HV n 322 [] [data0,a1,b2,nn3,(D.fn 156 [.ref 4,.ref 26] [cmp4_c0,cmp4_c1])] =
 Zp n n data0.els a1.toInt b2.toInt nn3.toInt 0:=by kernel_rfl
def Xr:List (Nat×Orc):=[(6,⟨[(4,none),(5,none),(6,none)],[(4,true)],[]⟩)]
noncomputable def Rf(n m6:Nat)(nn5 i6:Int)(x4:D):Tree :=
 lA (eA Xr n 163 [1,1,1,1,0,1,0,0]) (Al Xr 6) m6 ⟨(uA 4++(.ptr 4 []:: .i .i64 nn5:: .i .i64 i6::uA 47)),[(4,.var 139 (.d 139 x4) true)],[4],[],[]⟩
  (Ai 0 (An (jA Xr n 163 [1,1,1,1,1]) (rA 163 [139] [.tmp 2,.tmp 3] [3,4])))
theorem UE(n m6:Nat)(nn5 i6:Int)(x4:D):Rf n (m6+1) nn5 i6 x4 =
 bK (0≤i6) (.br ((x4.fld 0).toBool) (kK (0≤i6) (kK (i6<(((x4.fld 1).els).length:Int)) (Rf n m6 (Ale .i64 ((Ale .i64 (nn5*4294967296))-(Ale .i64 ((((x4.fld 1).els).getD (Alf i6) D.nil).toInt)))) (Ale .i64 (i6-1)) x4)))
 (kK (0≤i6) (kK (i6<(((x4.fld 1).els).length:Int)) (Rf n m6 (Ale .i64 ((Ale .i64 (nn5*4294967296))+(Ale .i64 ((((x4.fld 1).els).getD (Alf i6) D.nil).toInt)))) (Ale .i64 (i6-1)) x4))))
 (.ret [D.int nn5,D.bool true]):=by kernel_rfl
theorem Ahl(n:Nat)(a0:D):fA Xr n 163 [] [a0] =
 cK 223 [a0] fun Y1 =>
 bK (2<((((qA Y1).fld 1).els).length:Int)) (.ret [D.int 0,D.bool false])
 (cK 225 [D.int 9223372036854775807] fun Y2 =>
 cK 224 [qA Y1,qA Y2] fun Y3 =>
 bK (0<((qA Y3).toInt)) (.ret [D.int 0,D.bool false])
 (cK 225 [D.int (-9223372036854775808)] fun Y4 =>
 cK 224 [qA Y1,qA Y4] fun Y5 =>
 bK (((qA Y5).toInt)<0) (.ret [D.int 0,D.bool false])
 (Rf n n 0 (Ale .i64 (((((qA Y1).fld 1).els).length:Int)-1)) (qA Y1)))):=by kernel_rfl
theorem Ahg(n:Nat)(a0:D):fA [] n 223 [] [a0] =
 cK 265 [a0.fld 1] fun Y1 =>
 .br ((((qA Y1).els).length:Int)==0) (.ret [D.agg [D.bool false,D.sl []]])
 (.ret [D.agg [D.bool ((a0.fld 0).toBool),qA Y1]]):=by kernel_rfl
theorem Ahd(n:Nat)(a0 b1:D):fA [] n 224 [] [a0,b1] =
 cK 267 [a0,b1] fun Y1 =>
 cK 266 [qA Y1] fun Y2 =>
 .ret [D.int ((qA Y2).toInt)]:=by kernel_rfl
theorem Ahh(n:Nat)(nn0:D):fA [] n 225 [] [nn0] =
 bK (0≤nn0.toInt) (.br (!(4294967296 == (0:Int))) (.br (!(4294967296 == (0:Int))) (cK 223 [D.agg [D.bool false,D.sl [D.int (Ale .u32 (Int.tmod nn0.toInt 4294967296)),D.int (Ale .u32 (Ale .i64 (Int.tdiv nn0.toInt 4294967296)))]]] fun Y1 =>
 .ret [qA Y1]) .fail) .fail)
 (.br (!(4294967296 == (0:Int))) (.br (!(4294967296 == (0:Int))) (cK 268 [D.sl [D.int (Ale .u32 (Int.tmod (Ale .i64 ((-1)-nn0.toInt)) 4294967296)),D.int (Ale .u32 (Ale .i64 (Int.tdiv (Ale .i64 ((-1)-nn0.toInt)) 4294967296)))],D.sl [D.int 1]] fun Y2 =>
 cK 223 [D.agg [D.bool true,qA Y2]] fun Y3 =>
 .ret [qA Y3]) .fail) .fail):=by kernel_rfl
def Z_:List (Nat×Orc):=[(6,⟨[(1,none),(4,none),(14,some 62),(15,none),(16,none)],[(1,true)],[]⟩)]
noncomputable def O9(n m6:Nat)(size4:Int)(t14:D)(t15 t16:Int)(a1:D):Tree :=
 lA (eA Z_ n 228 [1,1,1,1,0,1,0,0]) (Al Z_ 6) m6 ⟨(.undef:: .ptr 1 []:: .undef:: .undef:: .i .u64 size4::uA 9++(.d 62 t14:: .i .i64 t15:: .i .i64 t16::uA 24)),[(1,.var 187 (.d 187 a1) true)],[1],[],[]⟩
  (Ai 0 (An (jA Z_ n 228 [1,1,1,1,1]) (rA 228 [187] [.tmp 2,.tmp 3] [3,4])))
theorem ZR(n m6:Nat)(size4:Int)(t14:D)(t15 t16:Int)(a1:D):O9 n (m6+1) size4 t14 t15 t16 a1 =
 bK (t16<t15) (kK (0≤t16) (kK (t16<(t14.els.length:Int)) (kK (0≤Ale .u64 (Ale .i64 (32*t16))) (O9 n m6 (Bj .or .u64 size4 (Ale .u64 ((Ale .u64 ((t14.els.getD (Alf t16) D.nil).toInt))*2 ^ (min (Alf (Ale .u64 (Ale .i64 (32*t16)))) (Alq .u64))))) t14 t15 (Ale .i64 (t16+1)) a1))))
 (.br ((a1.fld 0).toBool) (bK (9223372036854775808<size4) (.ret [D.int 0,D.bool false])
 (.ret [D.int (Ale .i64 (Ale .u64 (0-size4))),D.bool true]))
 (bK (9223372036854775807<size4) (.ret [D.int 0,D.bool false])
 (.ret [D.int (Ale .i64 size4),D.bool true]))):=by kernel_rfl
theorem AkP(n:Nat)(a0:D):fA Z_ n 228 [] [a0] =
 cK 269 [a0] fun Y1 =>
 bK (2<((((qA Y1).fld 1).els).length:Int)) (.ret [D.int 0,D.bool false])
 (O9 n n 0 ((qA Y1).fld 1) ((((qA Y1).fld 1).els).length:Int) 0 (qA Y1)):=by kernel_rfl
theorem AkL(n:Nat)(nn0:D):fA [] n 246 [] [nn0] =
 bK (nn0.toInt<0) (kK (0≤32) (cK 299 [D.sl [D.int (Ale .u32 (Ale .u64 (0-(Ale .u64 nn0.toInt)))),D.int (Ale .u32 (Al8 (Ale .u64 (0-(Ale .u64 nn0.toInt))) (2 ^ (min (Alf 32) (Alq .u64)))))]] fun Y1 =>
 cK 298 [D.bool (decide (nn0.toInt<0)),D.sl ((qA Y1).els)] fun Y2 =>
 .ret [qA Y2]))
 (kK (0≤32) (cK 299 [D.sl [D.int (Ale .u32 (Ale .u64 nn0.toInt)),D.int (Ale .u32 (Al8 (Ale .u64 nn0.toInt) (2 ^ (min (Alf 32) (Alq .u64)))))]] fun Y3 =>
 cK 298 [D.bool (decide (nn0.toInt<0)),D.sl ((qA Y3).els)] fun Y4 =>
 .ret [qA Y4])):=by kernel_rfl
theorem AkG(n:Nat)(a0 b1:D):fA [] n 253 [] [a0,b1] =
 cK 301 [a0] fun Y1 =>
 cK 301 [b1] fun Y2 =>
 bK (((qA Y1).toInt)<((qA Y2).toInt)) (.ret [D.int (-1)])
 (bK (((qA Y2).toInt)<((qA Y1).toInt)) (.ret [D.int 1])
 (bK (((qA Y1).toInt)<0) (cK 302 [b1.fld 1,a0.fld 1] fun Y3 =>
 .ret [D.int ((qA Y3).toInt)])
 (cK 302 [a0.fld 1,b1.fld 1] fun Y4 =>
 .ret [D.int ((qA Y4).toInt)]))):=by kernel_rfl
theorem AkJ(n:Nat)(a0 b1:D):fA [] n 254 [] [a0,b1] =
 cK 303 [a0.fld 1,b1.fld 1] fun Y1 =>
 cK 298 [D.bool (!(((a0.fld 0).toBool)==((b1.fld 0).toBool))),qA Y1] fun Y2 =>
 .ret [qA Y2]:=by kernel_rfl
theorem Ahj(n:Nat)(a0:D):fA [] n 266 [] [a0] =
 cK 223 [a0] fun Y1 =>
 .br (((((qA Y1).fld 1).els).length:Int)==0) (.ret [D.int 0])
 (.br (((qA Y1).fld 0).toBool) (.ret [D.int (-1)])
 (.ret [D.int 1])):=by kernel_rfl
theorem Ahn(n:Nat)(a0 b1:D):fA [] n 267 [] [a0,b1] =
 cK 309 [b1] fun Y1 =>
 cK 308 [a0,qA Y1] fun Y2 =>
 .ret [qA Y2]:=by kernel_rfl
theorem AkK(n:Nat)(a0:D):fA [] n 269 [] [a0] =
 cK 299 [a0.fld 1] fun Y1 =>
 cK 298 [D.bool ((a0.fld 0).toBool),D.sl ((qA Y1).els)] fun Y2 =>
 .ret [qA Y2]:=by kernel_rfl
theorem AkS(n:Nat)(neg0 mag1:D):fA [] n 298 [] [neg0,mag1] =
 .br ((mag1.els.length:Int)==0) (.ret [D.agg [D.bool false,D.sl []]])
 (.ret [D.agg [D.bool neg0.toBool,mag1]]):=by kernel_rfl
theorem AkN(n:Nat)(a0:D):fA [] n 301 [] [a0] =
 cK 302 [a0.fld 1,D.sl []] fun Y1 =>
 .br (((qA Y1).toInt)==0) (.ret [D.int 0])
 (.br ((a0.fld 0).toBool) (.ret [D.int (-1)])
 (.ret [D.int 1])):=by kernel_rfl
theorem AkI(n:Nat)(a0 b1:D):fA [] n 306 [] [a0,b1] =
 cK 323 [a0.fld 1,b1.fld 1] fun Y1 =>
 .br (!((qC Y1).toBool)) (.ret [D.agg [D.bool false,D.sl []],D.agg [D.bool false,D.sl []],D.bool false])
 (cK 298 [D.bool (!(((a0.fld 0).toBool)==((b1.fld 0).toBool))),qA Y1] fun Y2 =>
 cK 298 [D.bool ((a0.fld 0).toBool),qB Y1] fun Y3 =>
 .br (!(((a0.fld 0).toBool)==((b1.fld 0).toBool))) (bK (0<(((qB Y1).els).length:Int)) (cK 246 [D.int 1] fun Y4 =>
 cK 324 [qA Y2,qA Y4] fun Y5 =>
 cK 313 [qA Y3,b1] fun Y6 =>
 .ret [qA Y5,qA Y6,D.bool true])
 (.ret [qA Y2,qA Y3,D.bool true]))
 (.ret [qA Y2,qA Y3,D.bool true])):=by kernel_rfl
theorem Ahc(n:Nat)(a0 b1:D):fA [] n 308 [] [a0,b1] =
 cK 223 [a0] fun Y1 =>
 cK 223 [b1] fun Y2 =>
 .br ((((qA Y1).fld 0).toBool)==(((qA Y2).fld 0).toBool)) (cK 268 [(qA Y1).fld 1,(qA Y2).fld 1] fun Y3 =>
 cK 223 [D.agg [D.bool (((qA Y1).fld 0).toBool),qA Y3]] fun Y4 =>
 .ret [qA Y4])
 (cK 320 [(qA Y1).fld 1,(qA Y2).fld 1] fun Y5 =>
 bK (0≤((qA Y5).toInt)) (cK 297 [(qA Y1).fld 1,(qA Y2).fld 1] fun Y6 =>
 cK 223 [D.agg [D.bool (((qA Y1).fld 0).toBool),qA Y6]] fun Y7 =>
 .ret [qA Y7])
 (cK 297 [(qA Y2).fld 1,(qA Y1).fld 1] fun Y8 =>
 cK 223 [D.agg [D.bool (((qA Y2).fld 0).toBool),qA Y8]] fun Y9 =>
 .ret [qA Y9])):=by kernel_rfl
theorem Ahf(n:Nat)(a0:D):fA [] n 309 [] [a0] =
 cK 223 [D.agg [D.bool (!((a0.fld 0).toBool)),a0.fld 1]] fun Y1 =>
 .ret [qA Y1]:=by kernel_rfl
theorem AkF(n:Nat)(a0 b1:D):fA [] n 313 [] [a0,b1] =
 .br (((a0.fld 0).toBool)==((b1.fld 0).toBool)) (cK 325 [a0.fld 1,b1.fld 1] fun Y1 =>
 cK 298 [D.bool ((a0.fld 0).toBool),qA Y1] fun Y2 =>
 .ret [qA Y2])
 (cK 326 [a0.fld 1,b1.fld 1] fun Y3 =>
 .br ((qB Y3).toBool) (cK 298 [D.bool ((a0.fld 0).toBool),qA Y3] fun Y4 =>
 .ret [qA Y4])
 (cK 326 [b1.fld 1,a0.fld 1] fun Y5 =>
 cK 298 [D.bool ((b1.fld 0).toBool),qA Y5] fun Y6 =>
 .ret [qA Y6])):=by kernel_rfl
def Z7:List (Nat×Orc):=[(4,⟨[(1,none),(4,none),(6,none),(7,none)],[(4,false),(6,true),(7,true)],[]⟩)]
noncomputable def Mt(n m4:Nat)(nn1:Int)(t4_0:Bool)(out6 factor7:D):Tree :=
 lA (eA Z7 n 314 [1,1,1,0,0,0]) (Al Z7 4) m4 ⟨(.undef:: .i .i64 nn1:: .undef:: .undef:: .ptr 4 []:: .undef:: .ptr 6 []:: .ptr 7 []::uA 32),[(4,.var 187 (.agg 187 [.b t4_0,.mt]) true),(6,.var 187 (.d 187 out6) true),(7,.var 187 (.d 187 factor7) true)],[4,6,7],[],[]⟩
  (Ai 0 (An (jA Z7 n 314 [1,1,1,1]) (rA 314 [187,3] [.cell 4 187,.tmp 5] [187,29])))
theorem ZQ(n m4:Nat)(nn1:Int)(t4_0:Bool)(out6 factor7:D):Mt n (m4+1) nn1 t4_0 out6 factor7 =
 bK (0<nn1) (bK (32<(((factor7.fld 1).els).length:Int)) (.ret [D.agg [D.bool false,D.sl []],D.int 7])
 (.br ((Bj .and .i64 nn1 1)==1) (cK 254 [out6,factor7] fun Y3 =>
 bK (32<((((qA Y3).fld 1).els).length:Int)) (.ret [D.agg [D.bool false,D.sl []],D.int 7])
 (kK (0≤1) (bK (0<(Al8 nn1 (2 ^ (min (Alf 1) (Alq .i64))))) (cK 254 [factor7,factor7] fun Y4 =>
 Mt n m4 (Al8 nn1 (2 ^ (min (Alf 1) (Alq .i64)))) t4_0 (qA Y3) (qA Y4))
 (Mt n m4 (Al8 nn1 (2 ^ (min (Alf 1) (Alq .i64)))) t4_0 (qA Y3) factor7))))
 (bK (32<(((out6.fld 1).els).length:Int)) (.ret [D.agg [D.bool false,D.sl []],D.int 7])
 (kK (0≤1) (bK (0<(Al8 nn1 (2 ^ (min (Alf 1) (Alq .i64))))) (cK 254 [factor7,factor7] fun Y5 =>
 Mt n m4 (Al8 nn1 (2 ^ (min (Alf 1) (Alq .i64)))) t4_0 out6 (qA Y5))
 (Mt n m4 (Al8 nn1 (2 ^ (min (Alf 1) (Alq .i64)))) t4_0 out6 factor7))))))
 (.ret [out6,D.int 0]):=by kernel_rfl
theorem AkM(n:Nat)(a0 nn1:D):fA Z7 n 314 [] [a0,nn1] =
 bK (nn1.toInt<0) (.ret [D.agg [D.bool false,D.sl []],D.int 3])
 (cK 246 [D.int 1] fun Y1 =>
 cK 269 [a0] fun Y2 =>
 Mt n n nn1.toInt false (qA Y1) (qA Y2)):=by kernel_rfl
theorem AkR(n:Nat)(a0 b1:D):fA [] n 324 [] [a0,b1] =
 cK 313 [a0,D.agg [D.bool (!((b1.fld 0).toBool)),b1.fld 1]] fun Y1 =>
 .ret [qA Y1]:=by kernel_rfl
def Xm:List (Nat×Orc):=[(4,⟨[(0,some 62),(1,some 62),(5,none)],[],[]⟩)]
noncomputable def Xl(n m4:Nat)(a0 b1:D)(i5:Int):Tree :=
 lA (eA Xm n 211 [1,1,0,1,0,0]) (Al Xm 4) m4 ⟨(.d 62 a0:: .d 62 b1::uA 3++(.i .i64 i5::uA 20)),[],[],[],[]⟩
  (Ai 0 (An (jA Xm n 211 [1,1,1]) (rA 211 [62,62] [.tmp 4] [4])))
theorem AgV(n m4:Nat)(a0 b1:D)(i5:Int):Xl n (m4+1) a0 b1 i5 =
 bK (i5<(a0.els.length:Int)) (kK (0≤i5) (kK (i5<(a0.els.length:Int)) (kK (0≤i5) (kK (i5<(b1.els.length:Int)) (.br (((a0.els.getD (Alf i5) D.nil).toInt)!=((b1.els.getD (Alf i5) D.nil).toInt)) (.ret [D.bool false])
 (Xl n m4 a0 b1 (Ale .i64 (i5+1))))))))
 (.ret [D.bool true]):=by kernel_rfl
theorem AgW(n:Nat)(a0 b1:D):fA Xm n 211 [] [a0,b1] =
 .br ((a0.els.length:Int)!=(b1.els.length:Int)) (.ret [D.bool false])
 (Xl n n a0 b1 0):=by kernel_rfl
theorem AaV(n:Nat)(x0 y1:D):fA [] n 231 [] [x0,y1] =
 cK 271 [D.int x0.toInt,D.int y1.toInt] fun Y1 =>
 .ret [D.int ((qA Y1).toInt),D.int ((qB Y1).toInt)]:=by kernel_rfl
def Xi:List (Nat×Orc):=[(3,⟨[(5,some 62),(6,some 62),(7,none)],[],[]⟩)]
noncomputable def Mf(n m3:Nat)(x5 y6:D)(k7:Int):Tree :=
 lA (eA Xi n 243 [1,1,0,1,0,0]) (Al Xi 3) m3 ⟨(uA 5++(.d 62 x5:: .d 62 y6:: .i .i64 k7::uA 26)),[],[],[],[]⟩
  (Ai 0 (An (jA Xi n 243 [1,1,1]) (rA 243 [62,62] [.tmp 4] [62])))
theorem GA(n m3:Nat)(x5 y6:D)(k7:Int):Mf n (m3+1) x5 y6 k7 =
 bK (k7<100000) (bK (0<(y6.els.length:Int)) (cK 244 [x5,y6] fun Y3 =>
 Mf n m3 y6 (qB Y3) (Ale .i64 (k7+1)))
 (.ret [x5]))
 (.ret [x5]):=by kernel_rfl
theorem AgT(n:Nat)(a0 b1:D):fA Xi n 243 [] [a0,b1] =
 cK 265 [a0] fun Y1 =>
 cK 265 [b1] fun Y2 =>
 Mf n n (qA Y1) (qA Y2) 0:=by kernel_rfl
def Xh:List (Nat×Orc):=[(5,⟨[(0,some 62),(1,some 62),(7,some 62),(8,some 62),(9,none)],[],[]⟩)]
noncomputable def Rc(n m5:Nat)(a0 b1:D)(q7 r8:D)(i9:Int):Tree :=
 lA (eA Xh n 244 [1,1,1,0,1,0,0]) (Al Xh 5) m5 ⟨(.d 62 a0:: .d 62 b1::uA 5++(.d 62 q7:: .d 62 r8:: .i .i64 i9::uA 33)),[],[],[],[]⟩
  (Ai 0 (An (jA Xh n 244 [1,1,1,1]) (rA 244 [62,62] [.tmp 4,.tmp 5,.tmp 6] [62,62,4])))
theorem TY(n m5:Nat)(a0 b1:D)(q7 r8:D)(i9:Int):Rc n (m5+1) a0 b1 q7 r8 i9 =
 bK (0≤i9) (cK 296 [a0,D.int i9] fun Y2 =>
 cK 295 [r8,D.int ((qA Y2).toInt)] fun Y3 =>
 cK 297 [qA Y3,b1] fun Y4 =>
 .br ((qB Y4).toBool) (cK 295 [q7,D.int 1] fun Y5 =>
 Rc n m5 a0 b1 (qA Y5) (qA Y4) (Ale .i64 (i9-1)))
 (cK 295 [q7,D.int 0] fun Y6 =>
 Rc n m5 a0 b1 (qA Y6) (qA Y3) (Ale .i64 (i9-1))))
 (.ret [q7,r8,D.bool true]):=by kernel_rfl
theorem AgR(n:Nat)(a0 b1:D):fA Xh n 244 [] [a0,b1] =
 cK 265 [b1] fun Y1 =>
 .br ((((qA Y1).els).length:Int)==0) (.ret [D.sl [],D.sl [],D.bool false])
 (Rc n n a0 b1 (D.sl []) (D.sl []) (Ale .i64 ((Ale .i64 (32*(a0.els.length:Int)))-1))):=by kernel_rfl
def Xk:List (Nat×Orc):=[(2,⟨[(0,some 62),(3,none)],[],[]⟩)]
noncomputable def Xj(n m2:Nat)(a0:D)(nn3:Int):Tree :=
 lA (eA Xk n 265 [1,1,0,0,0]) (Al Xk 2) m2 ⟨(.d 62 a0:: .undef:: .undef:: .i .i64 nn3::uA 20),[],[],[],[]⟩
  (Ai 0 (An (jA Xk n 265 [1,1,1]) (rA 265 [62] [.tmp 2] [62])))
theorem TZ(n m2:Nat)(a0:D)(nn3:Int):Xj n (m2+1) a0 nn3 =
 bK (0<nn3) (kK (0≤Ale .i64 (nn3-1)) (kK (Ale .i64 (nn3-1)<(a0.els.length:Int)) (.br (((a0.els.getD (Alf (Ale .i64 (nn3-1))) D.nil).toInt)==0) (Xj n m2 a0 (Ale .i64 (nn3-1)))
 (kK (0≤nn3) (kK (nn3≤(a0.els.length:Int)) (kK ((a0.els.take (Alf nn3)).length≤Aj) (.ret [D.sl (a0.els.take (Alf nn3))])))))))
 (kK (0≤nn3) (kK (nn3≤(a0.els.length:Int)) (kK ((a0.els.take (Alf nn3)).length≤Aj) (.ret [D.sl (a0.els.take (Alf nn3))])))):=by kernel_rfl
theorem AgU(n:Nat)(a0:D):fA Xk n 265 [] [a0] =
 Xj n n a0 (a0.els.length:Int):=by kernel_rfl
def Xc:List (Nat×Orc):=[(4,⟨[(0,some 62),(1,some 62),(5,none),(6,none),(7,none)],[],[(.slot 5,1040,180)]⟩)]
noncomputable def Xb(n m4:Nat)(a0 b1:D)(out5:List D)(carry6 i7:Int):Tree :=
 lA (eA Xc n 268 [1,1,1,0,1,0,0]) (Al Xc 4) m4 ⟨(.d 62 a0:: .d 62 b1::uA 3++(.row 1040:: .i .u64 carry6:: .i .i64 i7::uA 27)),[(1040,.row 180 out5 true)],[1040],[],[]⟩
  (Ai 0 (An (jA Xc n 268 [1,1,1,1]) (rA 268 [62,62] [.tmp 4] [62])))
theorem TT(n m4:Nat)(a0 b1:D)(out5:List D)(carry6 i7:Int):Xb n (m4+1) a0 b1 out5 carry6 i7 =
 cK 310 [a0,b1] fun Y1 =>
 bK (i7≤((qA Y1).toInt)) (cK 311 [a0,D.int i7] fun Y2 =>
 cK 311 [b1,D.int i7] fun Y3 =>
 .br (!(4294967296 == (0:Int))) (kK (out5.length + [D.int (Ale .u32 (Int.tmod (Ale .u64 ((Ale .u64 (((qA Y2).toInt)+((qA Y3).toInt)))+carry6)) 4294967296))].length≤Aj) (.br (!(4294967296 == (0:Int))) (Xb n m4 a0 b1 (out5++[D.int (Ale .u32 (Int.tmod (Ale .u64 ((Ale .u64 (((qA Y2).toInt)+((qA Y3).toInt)))+carry6)) 4294967296))]) (Ale .u64 (Int.tdiv (Ale .u64 ((Ale .u64 (((qA Y2).toInt)+((qA Y3).toInt)))+carry6)) 4294967296)) (Ale .i64 (i7+1))) .fail)) .fail)
 (cK 265 [D.sl out5] fun Y4 =>
 .ret [qA Y4]):=by kernel_rfl
theorem AgN(n:Nat)(a0 b1:D):fA Xc n 268 [] [a0,b1] =
 Xb n n a0 b1 [] 0 0:=by kernel_rfl
theorem AaU(n:Nat)(x0 y1:D):fA [] n 271 [] [x0,y1] =
 kK (0≤32) (kK (0≤32) (kK (0≤32) (kK (0≤32) (kK (0≤32) (.ret [D.int (Ale .u64 ((Ale .u64 ((Ale .u64 ((Al8 x0.toInt (2 ^ (min (Alf 32) (Alq .u64))))*(Al8 y1.toInt (2 ^ (min (Alf 32) (Alq .u64))))))+(Al8 (Ale .u64 ((Ale .u64 ((Al8 x0.toInt (2 ^ (min (Alf 32) (Alq .u64))))*(Bj .and .u64 y1.toInt 4294967295)))+(Al8 (Ale .u64 ((Bj .and .u64 x0.toInt 4294967295)*(Bj .and .u64 y1.toInt 4294967295))) (2 ^ (min (Alf 32) (Alq .u64)))))) (2 ^ (min (Alf 32) (Alq .u64))))))+(Al8 (Ale .u64 ((Bj .and .u64 (Ale .u64 ((Ale .u64 ((Al8 x0.toInt (2 ^ (min (Alf 32) (Alq .u64))))*(Bj .and .u64 y1.toInt 4294967295)))+(Al8 (Ale .u64 ((Bj .and .u64 x0.toInt 4294967295)*(Bj .and .u64 y1.toInt 4294967295))) (2 ^ (min (Alf 32) (Alq .u64)))))) 4294967295)+(Ale .u64 ((Bj .and .u64 x0.toInt 4294967295)*(Al8 y1.toInt (2 ^ (min (Alf 32) (Alq .u64)))))))) (2 ^ (min (Alf 32) (Alq .u64)))))),D.int (Ale .u64 (x0.toInt*y1.toInt))]))))):=by kernel_rfl
def Xq:List (Nat×Orc):=[(4,⟨[(0,some 62),(5,none),(6,none),(7,none)],[],[(.slot 5,1040,180)]⟩)]
noncomputable def Xp(n m4:Nat)(a0:D)(out5:List D)(carry6 i7:Int):Tree :=
 lA (eA Xq n 295 [1,1,1,0,1,0,0]) (Al Xq 4) m4 ⟨(.d 62 a0::uA 4++(.row 1040:: .i .u64 carry6:: .i .i64 i7::uA 25)),[(1040,.row 180 out5 true)],[1040],[],[]⟩
  (Ai 0 (An (jA Xq n 295 [1,1,1,1]) (rA 295 [62,180] [.tmp 4] [62])))
theorem UC(n m4:Nat)(a0:D)(out5:List D)(carry6 i7:Int):Xp n (m4+1) a0 out5 carry6 i7 =
 bK (i7≤(a0.els.length:Int)) (cK 311 [a0,D.int i7] fun Y1 =>
 .br (!(4294967296 == (0:Int))) (kK (out5.length + [D.int (Ale .u32 (Int.tmod (Ale .u64 ((Ale .u64 (2*((qA Y1).toInt)))+carry6)) 4294967296))].length≤Aj) (.br (!(4294967296 == (0:Int))) (Xp n m4 a0 (out5++[D.int (Ale .u32 (Int.tmod (Ale .u64 ((Ale .u64 (2*((qA Y1).toInt)))+carry6)) 4294967296))]) (Ale .u64 (Int.tdiv (Ale .u64 ((Ale .u64 (2*((qA Y1).toInt)))+carry6)) 4294967296)) (Ale .i64 (i7+1))) .fail)) .fail)
 (cK 265 [D.sl out5] fun Y2 =>
 .ret [qA Y2]):=by kernel_rfl
theorem Aha(n:Nat)(a0 bit1:D):fA Xq n 295 [] [a0,bit1] =
 Xp n n a0 [] (Ale .u64 bit1.toInt) 0:=by kernel_rfl
def Xe:List (Nat×Orc):=[(3,⟨[(1,none),(5,none),(6,none)],[],[]⟩)]
noncomputable def Xd(n m3:Nat)(i1 w5 k6:Int):Tree :=
 lA (eA Xe n 296 [1,1,0,1,0,0]) (Al Xe 3) m3 ⟨(.undef:: .i .i64 i1::uA 3++(.i .u64 w5:: .i .i64 k6::uA 15)),[],[],[],[]⟩
  (Ai 0 (An (jA Xe n 296 [1,1,1]) (rA 296 [62,3] [.tmp 4] [180])))
theorem TV(n m3:Nat)(i1 w5 k6:Int):Xd n (m3+1) i1 w5 k6 =
 .br (!(32 == (0:Int))) (bK (k6<(Int.tmod i1 32)) (.br (!(2 == (0:Int))) (Xd n m3 i1 (Ale .u64 (Int.tdiv w5 2)) (Ale .i64 (k6+1))) .fail)
 (.br (!(2 == (0:Int))) (.ret [D.int (Ale .u32 (Int.tmod w5 2))]) .fail)) .fail:=by kernel_rfl
theorem AgP(n:Nat)(a0 i1:D):fA Xe n 296 [] [a0,i1] =
 .br (!(32 == (0:Int))) (cK 311 [a0,D.int (Ale .i64 (Int.tdiv i1.toInt 32))] fun Y1 =>
 Xd n n i1.toInt ((qA Y1).toInt) 0) .fail:=by kernel_rfl
def Xo:List (Nat×Orc):=[(6,⟨[(0,some 62),(1,some 62),(6,none),(7,none),(8,none)],[],[(.slot 6,1060,180)]⟩)]
noncomputable def Xn(n m6:Nat)(a0 b1:D)(out6:List D)(borrow7 i8:Int):Tree :=
 lA (eA Xo n 297 [1,1,1,1,0,1,0,0]) (Al Xo 6) m6 ⟨(.d 62 a0:: .d 62 b1::uA 4++(.row 1060:: .i .u64 borrow7:: .i .i64 i8::uA 33)),[(1060,.row 180 out6 true)],[1060],[],[]⟩
  (Ai 0 (An (jA Xo n 297 [1,1,1,1,1]) (rA 297 [62,62] [.tmp 4,.tmp 5] [62,4])))
theorem UB(n m6:Nat)(a0 b1:D)(out6:List D)(borrow7 i8:Int):Xn n (m6+1) a0 b1 out6 borrow7 i8 =
 cK 310 [a0,b1] fun Y2 =>
 bK (i8<((qA Y2).toInt)) (cK 311 [a0,D.int i8] fun Y3 =>
 cK 311 [b1,D.int i8] fun Y4 =>
 .br (!(4294967296 == (0:Int))) (kK (out6.length + [D.int (Ale .u32 (Int.tmod (Ale .u64 ((Ale .u64 ((Ale .u64 (4294967296+((qA Y3).toInt)))-((qA Y4).toInt)))-borrow7)) 4294967296))].length≤Aj) (.br (!(4294967296 == (0:Int))) (Xn n m6 a0 b1 (out6++[D.int (Ale .u32 (Int.tmod (Ale .u64 ((Ale .u64 ((Ale .u64 (4294967296+((qA Y3).toInt)))-((qA Y4).toInt)))-borrow7)) 4294967296))]) (Ale .u64 (1-(Ale .u64 (Int.tdiv (Ale .u64 ((Ale .u64 ((Ale .u64 (4294967296+((qA Y3).toInt)))-((qA Y4).toInt)))-borrow7)) 4294967296)))) (Ale .i64 (i8+1))) .fail)) .fail)
 (cK 265 [D.sl out6] fun Y5 =>
 .ret [qA Y5,D.bool true]):=by kernel_rfl
theorem AgX(n:Nat)(a0 b1:D):fA Xo n 297 [] [a0,b1] =
 cK 320 [a0,b1] fun Y1 =>
 bK (((qA Y1).toInt)<0) (.ret [D.sl [],D.bool false])
 (Xn n n a0 b1 [] 0 0):=by kernel_rfl
theorem Ael(n:Nat)(a0:D):fA [] n 299 [] [a0] =
 cK 321 [a0] fun Y1 =>
 kK (0≤(((qA Y1).els).length:Int)) (kK ((((qA Y1).els).length:Int)≤(((qA Y1).els).length:Int)) (kK ((((qA Y1).els).length:Int)≤Aj) (.ret [D.sl (((qA Y1).els).take (Alh (Alf (((qA Y1).els).length:Int)) (D.int 0)).length++(Alh (Alf (((qA Y1).els).length:Int)) (D.int 0)).drop ((qA Y1).els).length)]))):=by kernel_rfl
def Vz:List (Nat×Orc):=[(7,⟨[(0,some 62),(1,some 62),(5,none)],[],[]⟩)]
noncomputable def Vy(n m7:Nat)(a0 b1:D)(i5:Int):Tree :=
 lA (eA Vz n 302 [1,1,1,0,1,0,0]) (Al Vz 7) m7 ⟨(.d 62 a0:: .d 62 b1::uA 3++(.i .i64 i5::uA 43)),[],[],[],[]⟩
  (Ai 1 (An (jA Vz n 302 [1,1,1,1]) (rA 302 [62,62] [.tmp 4] [3])))
theorem PV(n m7:Nat)(a0 b1:D)(i5:Int):Vy n (m7+1) a0 b1 i5 =
 bK (0≤i5) (kK (0≤i5) (kK (i5<(a0.els.length:Int)) (kK (0≤i5) (kK (i5<(b1.els.length:Int)) (bK (((a0.els.getD (Alf i5) D.nil).toInt)<((b1.els.getD (Alf i5) D.nil).toInt)) (.ret [D.int (-1)])
 (kK (0≤i5) (kK (i5<(a0.els.length:Int)) (kK (0≤i5) (kK (i5<(b1.els.length:Int)) (bK (((b1.els.getD (Alf i5) D.nil).toInt)<((a0.els.getD (Alf i5) D.nil).toInt)) (.ret [D.int 1])
 (Vy n m7 a0 b1 (Ale .i64 (i5-1)))))))))))))
 (.ret [D.int 0]):=by kernel_rfl
theorem Aef(n:Nat)(a0 b1:D):fA Vz n 302 [] [a0,b1] =
 cK 321 [a0] fun Y1 =>
 cK 321 [b1] fun Y2 =>
 bK ((((qA Y1).els).length:Int)<(((qA Y2).els).length:Int)) (.ret [D.int (-1)])
 (bK ((((qA Y2).els).length:Int)<(((qA Y1).els).length:Int)) (.ret [D.int 1])
 (Vy n n (qA Y1) (qA Y2) (Ale .i64 ((((qA Y1).els).length:Int)-1)))):=by kernel_rfl
def Gy:List (Nat×Orc):=[(6,⟨[(1,some 62),(5,none),(30,some 62),(31,none),(32,none)],[],[(.slot 5,1060,180)]⟩),(10,⟨[(1,some 62),(5,none),(6,none),(7,none),(8,none),(30,some 62),(31,none),(32,none),(37,some 62),(38,none),(39,none)],[],[(.slot 5,1100,180)]⟩)]
noncomputable def V3(n m6 m10:Nat)(b1:D)(out5:List D)(i6 x7 carry8:Int)(t30:D)(t31 t32:Int)(t37:D)(t38 t39:Int):Tree :=
 lA (eA Gy n 303 [1,1,1,1,0,1,0,0,1,1,0,0,1,1,0,1,0,0]) (Al Gy 10) m10 ⟨(.undef:: .d 62 b1::uA 3++(.row 1100:: .i .i64 i6:: .i .u32 x7:: .i .u64 carry8::uA 21++(.d 62 t30:: .i .i64 t31:: .i .i64 t32::uA 4++(.d 62 t37:: .i .i64 t38:: .i .i64 t39::uA 40)))),[(1100,.row 180 out5 true)],[1100],[],[]⟩
  (Ai 2 (An (jA Gy n 303 [1,1,1,1,0,1,0,0,1,1,0,0,1,1,1]) (Ai 1 (An (jA Gy n 303 [1,1,1,1,0,1,0,0,1,1,1]) (Fg Tryz.prog md (Al Gy 6) (fun s1=>lA (eA Gy n 303 [1,1,1,1,0,1,0,0]) (Al Gy 6) m6 s1 (Ai 0 (An (jA Gy n 303 [1,1,1,1,1]) (rA 303 [62,62] [.tmp 4] [62])))) (Ai 0 (An (jA Gy n 303 [1,1,1,1,1]) (rA 303 [62,62] [.tmp 4] [62]))))))))
noncomputable def V4(n m6:Nat)(b1:D)(out5:List D)(t30:D)(t31 t32:Int):Tree :=
 lA (eA Gy n 303 [1,1,1,1,0,1,0,0]) (Al Gy 6) m6 ⟨(.undef:: .d 62 b1::uA 3++(.row 1060::uA 24++(.d 62 t30:: .i .i64 t31:: .i .i64 t32::uA 47))),[(1060,.row 180 out5 true)],[1060],[],[]⟩
  (Ai 0 (An (jA Gy n 303 [1,1,1,1,1]) (rA 303 [62,62] [.tmp 4] [62])))
theorem PX(n m6 m10:Nat)(b1:D)(out5:List D)(i6 x7 carry8:Int)(t30:D)(t31 t32:Int)(t37:D)(t38 t39:Int):V3 n m6 (m10+1) b1 out5 i6 x7 carry8 t30 t31 t32 t37 t38 t39 =
 bK (t39<t38) (kK (0≤t39) (kK (t39<(t37.els.length:Int)) (kK (0≤Ale .i64 (i6+t39)) (kK (Ale .i64 (i6+t39)<(out5.length:Int)) (kK (0≤Ale .i64 (i6+t39)) (kK (Ale .i64 (i6+t39)<(out5.length:Int)) (kK (0≤32) (V3 n m6 m10 b1 (out5.set (Alf (Ale .i64 (i6+t39))) (D.int (Ale .u32 (Ale .u64 ((Ale .u64 ((Ale .u64 ((Ale .u64 x7)*(Ale .u64 ((t37.els.getD (Alf t39) D.nil).toInt))))+(Ale .u64 ((out5.getD (Alf (Ale .i64 (i6+t39))) D.nil).toInt))))+carry8))))) i6 x7 (Al8 (Ale .u64 ((Ale .u64 ((Ale .u64 ((Ale .u64 x7)*(Ale .u64 ((t37.els.getD (Alf t39) D.nil).toInt))))+(Ale .u64 ((out5.getD (Alf (Ale .i64 (i6+t39))) D.nil).toInt))))+carry8)) (2 ^ (min (Alf 32) (Alq .u64)))) t30 t31 t32 t37 t38 (Ale .i64 (t39+1))))))))))
 (kK (0≤Ale .i64 (i6+(b1.els.length:Int))) (kK (Ale .i64 (i6+(b1.els.length:Int))<(out5.length:Int)) (V4 n m6 b1 (out5.set (Alf (Ale .i64 (i6+(b1.els.length:Int)))) (D.int (Ale .u32 carry8))) t30 t31 (Ale .i64 (t32+1))))):=by kernel_rfl
theorem PY(n m6:Nat)(b1:D)(out5:List D)(t30:D)(t31 t32:Int):V4 n (m6+1) b1 out5 t30 t31 t32 =
 bK (t32<t31) (kK (0≤t32) (kK (t32<(t30.els.length:Int)) (V3 n m6 n b1 out5 t32 ((t30.els.getD (Alf t32) D.nil).toInt) 0 t30 t31 t32 b1 (b1.els.length:Int) 0)))
 (cK 321 [D.sl out5] fun Y3 =>
 .ret [qA Y3]):=by kernel_rfl
theorem Aek(n:Nat)(a0 b1:D):fA Gy n 303 [] [a0,b1] =
 cK 321 [a0] fun Y1 =>
 cK 321 [b1] fun Y2 =>
 .br ((((qA Y1).els).length:Int)==0) (.ret [D.sl []])
 (.br ((((qA Y2).els).length:Int)==0) (.ret [D.sl []])
 (kK (0≤Ale .i64 ((((qA Y1).els).length:Int)+(((qA Y2).els).length:Int))) (kK (Ale .i64 ((((qA Y1).els).length:Int)+(((qA Y2).els).length:Int))≤Ale .i64 ((((qA Y1).els).length:Int)+(((qA Y2).els).length:Int))) (kK (Ale .i64 ((((qA Y1).els).length:Int)+(((qA Y2).els).length:Int))≤Aj) (V4 n n (qA Y2) (Alh (Alf (Ale .i64 ((((qA Y1).els).length:Int)+(((qA Y2).els).length:Int)))) (D.int 0)) (qA Y1) (((qA Y1).els).length:Int) 0))))):=by kernel_rfl
theorem AgZ(n:Nat)(a0 b1:D):fA [] n 310 [] [a0,b1] =
 bK ((b1.els.length:Int)<(a0.els.length:Int)) (.ret [D.int (a0.els.length:Int)])
 (.ret [D.int (b1.els.length:Int)]):=by kernel_rfl
theorem AgY(n:Nat)(a0 i1:D):fA [] n 311 [] [a0,i1] =
 bK (i1.toInt<(a0.els.length:Int)) (kK (0≤i1.toInt) (kK (i1.toInt<(a0.els.length:Int)) (.ret [D.int (Ale .u64 ((a0.els.getD (Alf i1.toInt) D.nil).toInt))])))
 (.ret [D.int 0]):=by kernel_rfl
def V2:List (Nat×Orc):=[(2,⟨[(0,some 62),(1,some 62)],[],[]⟩)]
noncomputable def Qt(n m2:Nat)(a0 b1:D):Tree :=
 lA (eA V2 n 315 [1,1,0,0,0]) (Al V2 2) m2 ⟨(.d 62 a0:: .d 62 b1::uA 37),[],[],[],[]⟩
  (Ai 0 (An (jA V2 n 315 [1,1,1]) (rA 315 [62,62] [.tmp 4] [62])))
theorem Aeh(n m2:Nat)(a0 b1:D):Qt n (m2+1) a0 b1 =
 bK (0<(b1.els.length:Int)) (bK ((a0.els.length:Int)≤2) (bK ((b1.els.length:Int)≤2) (cK 328 [a0] fun Y3 =>
 cK 328 [b1] fun Y4 =>
 cK 327 [D.int ((qA Y3).toInt),D.int ((qA Y4).toInt)] fun Y5 =>
 .ret [qA Y5])
 (cK 323 [a0,b1] fun Y6 =>
 Qt n m2 b1 (qB Y6)))
 (cK 323 [a0,b1] fun Y7 =>
 Qt n m2 b1 (qB Y7)))
 (cK 299 [a0] fun Y8 =>
 .ret [D.sl ((qA Y8).els)]):=by kernel_rfl
theorem Aei(n:Nat)(a0 b1:D):fA V2 n 315 [] [a0,b1] =
 cK 321 [a0] fun Y1 =>
 cK 321 [b1] fun Y2 =>
 Qt n n (qA Y1) (qA Y2):=by kernel_rfl
def Xg:List (Nat×Orc):=[(2,⟨[(0,some 62),(1,some 62),(5,none)],[],[]⟩)]
noncomputable def Xf(n m2:Nat)(a0 b1:D)(i5:Int):Tree :=
 lA (eA Xg n 320 [1,0,1,0,0]) (Al Xg 2) m2 ⟨(.d 62 a0:: .d 62 b1::uA 3++(.i .i64 i5::uA 22)),[],[],[],[]⟩
  (Ai 0 (An (jA Xg n 320 [1,1]) (rA 320 [62,62] [.tmp 4] [3])))
theorem TW(n m2:Nat)(a0 b1:D)(i5:Int):Xf n (m2+1) a0 b1 i5 =
 bK (0≤i5) (cK 311 [a0,D.int i5] fun Y2 =>
 cK 311 [b1,D.int i5] fun Y3 =>
 bK (((qA Y2).toInt)<((qA Y3).toInt)) (.ret [D.int (-1)])
 (cK 311 [a0,D.int i5] fun Y4 =>
 cK 311 [b1,D.int i5] fun Y5 =>
 bK (((qA Y5).toInt)<((qA Y4).toInt)) (.ret [D.int 1])
 (Xf n m2 a0 b1 (Ale .i64 (i5-1)))))
 (.ret [D.int 0]):=by kernel_rfl
theorem AgQ(n:Nat)(a0 b1:D):fA Xg n 320 [] [a0,b1] =
 cK 310 [a0,b1] fun Y1 =>
 Xf n n a0 b1 (Ale .i64 (((qA Y1).toInt)-1)):=by kernel_rfl
def Wd:List (Nat×Orc):=[(2,⟨[(0,some 62),(3,none)],[],[]⟩)]
noncomputable def Wc(n m2:Nat)(a0:D)(nn3:Int):Tree :=
 lA (eA Wd n 321 [1,1,0,0,0]) (Al Wd 2) m2 ⟨(.d 62 a0:: .undef:: .undef:: .i .i64 nn3::uA 18),[],[],[],[]⟩
  (Ai 0 (An (jA Wd n 321 [1,1,1]) (rA 321 [62] [.tmp 2] [62])))
theorem QD(n m2:Nat)(a0:D)(nn3:Int):Wc n (m2+1) a0 nn3 =
 bK (0<nn3) (kK (0≤Ale .i64 (nn3-1)) (kK (Ale .i64 (nn3-1)<(a0.els.length:Int)) (.br (((a0.els.getD (Alf (Ale .i64 (nn3-1))) D.nil).toInt)==0) (Wc n m2 a0 (Ale .i64 (nn3-1)))
 (kK (0≤nn3) (kK (nn3≤nn3) (kK (nn3≤(a0.els.length:Int)) (.ret [D.sl (a0.els.take (Alf nn3))])))))))
 (kK (0≤nn3) (kK (nn3≤nn3) (kK (nn3≤(a0.els.length:Int)) (.ret [D.sl (a0.els.take (Alf nn3))])))):=by kernel_rfl
theorem Aey(n:Nat)(a0:D):fA Wd n 321 [] [a0] =
 Wc n n a0 (a0.els.length:Int):=by kernel_rfl
theorem Aeg(n:Nat)(a0 b1:D):fA [] n 323 [] [a0,b1] =
 cK 321 [a0] fun Y1 =>
 cK 321 [b1] fun Y2 =>
 .br ((((qA Y2).els).length:Int)==0) (.ret [D.sl [],D.sl [],D.bool false])
 (cK 302 [qA Y1,qA Y2] fun Y3 =>
 bK (((qA Y3).toInt)<0) (cK 299 [qA Y1] fun Y4 =>
 .ret [D.sl [],D.sl ((qA Y4).els),D.bool true])
 (.br ((((qA Y2).els).length:Int)==1) (cK 299 [qA Y1] fun Y5 =>
 kK (0≤0) (kK (0<(((qA Y2).els).length:Int)) (cK 331 [D.sl ((qA Y5).els),D.int ((((qA Y2).els).getD (Alf 0) D.nil).toInt)] fun Y6 =>
 cK 321 [D.sl ((qB Y6).els)] fun Y7 =>
 cK 299 [D.sl [D.int ((qA Y6).toInt)]] fun Y8 =>
 .ret [qA Y7,D.sl ((qA Y8).els),D.bool true])))
 (cK 332 [qA Y1,qA Y2] fun Y9 =>
 .ret [qA Y9,qB Y9,D.bool true]))):=by kernel_rfl
def Vx:List (Nat×Orc):=[(8,⟨[(1,some 62),(5,none),(6,none),(30,none),(31,none)],[],[(.slot 5,1080,180)]⟩)]
noncomputable def L8(n m8:Nat)(b1:D)(out5:List D)(carry6 t30 t31:Int):Tree :=
 lA (eA Vx n 325 [1,1,1,1,1,1,0,1,0,0]) (Al Vx 8) m8 ⟨(.undef:: .d 62 b1::uA 3++(.row 1080:: .i .u32 carry6::uA 23++(.i .i64 t30:: .i .i64 t31::uA 33))),[(1080,.row 180 out5 true)],[1080],[],[]⟩
  (Ai 0 (An (jA Vx n 325 [1,1,1,1,1,1,1]) (rA 325 [62,62] [.tmp 4] [62])))
theorem PT(n m8:Nat)(b1:D)(out5:List D)(carry6 t30 t31:Int):L8 n (m8+1) b1 out5 carry6 t30 t31 =
 bK (t31<t30) (bK (t31<(b1.els.length:Int)) (kK (0≤t31) (kK (t31<(b1.els.length:Int)) (kK (0≤t31) (kK (t31<(out5.length:Int)) (cK 333 [D.int ((out5.getD (Alf t31) D.nil).toInt),D.int ((b1.els.getD (Alf t31) D.nil).toInt),D.int carry6] fun Y3 =>
 kK (0≤t31) (kK (t31<(out5.length:Int)) (L8 n m8 b1 (out5.set (Alf t31) (D.int ((qA Y3).toInt))) ((qB Y3).toInt) t30 (Ale .i64 (t31+1)))))))))
 (.br (carry6 == 0) (.br (carry6 != 0) (kK (out5.length + [D.int carry6].length≤Aj) (.ret [D.sl (out5++[D.int carry6])]))
 (.ret [D.sl out5]))
 (kK (0≤t31) (kK (t31<(out5.length:Int)) (cK 333 [D.int ((out5.getD (Alf t31) D.nil).toInt),D.int 0,D.int carry6] fun Y4 =>
 kK (0≤t31) (kK (t31<(out5.length:Int)) (L8 n m8 b1 (out5.set (Alf t31) (D.int ((qA Y4).toInt))) ((qB Y4).toInt) t30 (Ale .i64 (t31+1)))))))))
 (.br (carry6 != 0) (kK (out5.length + [D.int carry6].length≤Aj) (.ret [D.sl (out5++[D.int carry6])]))
 (.ret [D.sl out5])):=by kernel_rfl
theorem Aee(n:Nat)(a0 b1:D):fA Vx n 325 [] [a0,b1] =
 cK 321 [a0] fun Y1 =>
 cK 321 [b1] fun Y2 =>
 bK ((((qA Y1).els).length:Int)<(((qA Y2).els).length:Int)) (kK (0≤(((qA Y2).els).length:Int)) (kK ((((qA Y2).els).length:Int)≤Ale .i64 ((((qA Y2).els).length:Int)+1)) (kK (Ale .i64 ((((qA Y2).els).length:Int)+1)≤Aj) (L8 n n (qA Y1) (((qA Y2).els).take (Alh (Alf (((qA Y2).els).length:Int)) (D.int 0)).length++(Alh (Alf (((qA Y2).els).length:Int)) (D.int 0)).drop ((qA Y2).els).length) 0 ((((qA Y2).els).take (Alh (Alf (((qA Y2).els).length:Int)) (D.int 0)).length++(Alh (Alf (((qA Y2).els).length:Int)) (D.int 0)).drop ((qA Y2).els).length).length:Int) 0))))
 (kK (0≤(((qA Y1).els).length:Int)) (kK ((((qA Y1).els).length:Int)≤Ale .i64 ((((qA Y1).els).length:Int)+1)) (kK (Ale .i64 ((((qA Y1).els).length:Int)+1)≤Aj) (L8 n n (qA Y2) (((qA Y1).els).take (Alh (Alf (((qA Y1).els).length:Int)) (D.int 0)).length++(Alh (Alf (((qA Y1).els).length:Int)) (D.int 0)).drop ((qA Y1).els).length) 0 ((((qA Y1).els).take (Alh (Alf (((qA Y1).els).length:Int)) (D.int 0)).length++(Alh (Alf (((qA Y1).els).length:Int)) (D.int 0)).drop ((qA Y1).els).length).length:Int) 0)))):=by kernel_rfl
def V5:List (Nat×Orc):=[(6,⟨[(1,some 62),(6,none),(7,none),(19,none),(20,none)],[],[(.slot 6,1060,180)]⟩)]
noncomputable def Qu(n m6:Nat)(b1:D)(out6:List D)(borrow7 t19 t20:Int):Tree :=
 lA (eA V5 n 326 [1,1,1,1,0,1,0,0]) (Al V5 6) m6 ⟨(.undef:: .d 62 b1::uA 4++(.row 1060:: .i .u32 borrow7::uA 11++(.i .i64 t19:: .i .i64 t20::uA 28))),[(1060,.row 180 out6 true)],[1060],[],[]⟩
  (Ai 0 (An (jA V5 n 326 [1,1,1,1,1]) (rA 326 [62,62] [.tmp 4,.tmp 5] [62,4])))
theorem PZ(n m6:Nat)(b1:D)(out6:List D)(borrow7 t19 t20:Int):Qu n (m6+1) b1 out6 borrow7 t19 t20 =
 bK (t20<t19) (bK (t20<(b1.els.length:Int)) (kK (0≤t20) (kK (t20<(b1.els.length:Int)) (kK (0≤t20) (kK (t20<(out6.length:Int)) (cK 334 [D.int ((out6.getD (Alf t20) D.nil).toInt),D.int ((b1.els.getD (Alf t20) D.nil).toInt),D.int borrow7] fun Y4 =>
 kK (0≤t20) (kK (t20<(out6.length:Int)) (Qu n m6 b1 (out6.set (Alf t20) (D.int ((qA Y4).toInt))) ((qB Y4).toInt) t19 (Ale .i64 (t20+1)))))))))
 (.br (borrow7 == 0) (cK 321 [D.sl out6] fun Y5 =>
 .ret [qA Y5,D.bool true])
 (kK (0≤t20) (kK (t20<(out6.length:Int)) (cK 334 [D.int ((out6.getD (Alf t20) D.nil).toInt),D.int 0,D.int borrow7] fun Y6 =>
 kK (0≤t20) (kK (t20<(out6.length:Int)) (Qu n m6 b1 (out6.set (Alf t20) (D.int ((qA Y6).toInt))) ((qB Y6).toInt) t19 (Ale .i64 (t20+1)))))))))
 (cK 321 [D.sl out6] fun Y7 =>
 .ret [qA Y7,D.bool true]):=by kernel_rfl
theorem Aem(n:Nat)(a0 b1:D):fA V5 n 326 [] [a0,b1] =
 cK 302 [a0,b1] fun Y1 =>
 bK (((qA Y1).toInt)<0) (.ret [D.sl [],D.bool false])
 (cK 299 [a0] fun Y2 =>
 cK 321 [b1] fun Y3 =>
 Qu n n (qA Y3) ((qA Y2).els) 0 (((qA Y2).els).length:Int) 0):=by kernel_rfl
def Wb:List (Nat×Orc):=[(1,⟨[(0,none),(1,none)],[],[]⟩)]
noncomputable def Wa(n m1:Nat)(a0 b1:Int):Tree :=
 lA (eA Wb n 327 [1,0,0,0]) (Al Wb 1) m1 ⟨(.i .u64 a0:: .i .u64 b1::uA 16),[],[],[],[]⟩
  (Ai 0 (An (jA Wb n 327 [1,1]) (rA 327 [22,22] [.tmp 4] [62])))
theorem Aev(n m1:Nat)(a0 b1:Int):Wa n (m1+1) a0 b1 =
 .br (b1 != 0) (.br (!(b1 == (0:Int))) (Wa n m1 b1 (Int.tmod a0 b1)) .fail)
 (kK (0≤32) (cK 299 [D.sl [D.int (Ale .u32 a0),D.int (Ale .u32 (Al8 a0 (2 ^ (min (Alf 32) (Alq .u64)))))]] fun Y1 =>
 .ret [D.sl ((qA Y1).els)])):=by kernel_rfl
theorem Aex(n:Nat)(a0 b1:D):fA Wb n 327 [] [a0,b1] =
 Wa n n a0.toInt b1.toInt:=by kernel_rfl
def Wg:List (Nat×Orc):=[(3,⟨[(3,none),(6,some 62),(7,none),(8,none)],[],[]⟩)]
noncomputable def N9(n m3:Nat)(out3:Int)(t6:D)(t7 t8:Int):Tree :=
 lA (eA Wg n 328 [1,1,0,1,0,0]) (Al Wg 3) m3 ⟨(uA 3++(.i .u64 out3:: .undef:: .undef:: .d 62 t6:: .i .i64 t7:: .i .i64 t8::uA 14)),[],[],[],[]⟩
  (Ai 0 (An (jA Wg n 328 [1,1,1]) (rA 328 [62] [.tmp 2] [22])))
theorem QG(n m3:Nat)(out3:Int)(t6:D)(t7 t8:Int):N9 n (m3+1) out3 t6 t7 t8 =
 bK (t8<t7) (kK (0≤t8) (kK (t8<(t6.els.length:Int)) (kK (0≤Ale .u64 (Ale .i64 (32*t8))) (N9 n m3 (Bj .or .u64 out3 (Ale .u64 ((Ale .u64 ((t6.els.getD (Alf t8) D.nil).toInt))*2 ^ (min (Alf (Ale .u64 (Ale .i64 (32*t8)))) (Alq .u64))))) t6 t7 (Ale .i64 (t8+1))))))
 (.ret [D.int out3]):=by kernel_rfl
theorem Ae0(n:Nat)(a0:D):fA Wg n 328 [] [a0] =
 N9 n n 0 a0 (a0.els.length:Int) 0:=by kernel_rfl
def V_:List (Nat×Orc):=[(3,⟨[(0,none),(1,none),(5,none),(6,none)],[],[(.slot 0,0,180)]⟩)]
noncomputable def V9(n m3:Nat)(a0:List D)(by1 rest5 i6:Int):Tree :=
 lA (eA V_ n 331 [1,1,0,1,0,0]) (Al V_ 3) m3 ⟨(.row 0:: .i .u32 by1::uA 3++(.i .u64 rest5:: .i .i64 i6::uA 29)),[(0,.row 180 a0 true)],[0],[],[0]⟩
  (Ai 0 (An (jA V_ n 331 [1,1,1]) (rA 331 [62,180] [.tmp 4] [180])))
theorem QC(n m3:Nat)(a0:List D)(by1 rest5 i6:Int):V9 n (m3+1) a0 by1 rest5 i6 =
 bK (0≤i6) (kK (0≤32) (kK (0≤i6) (kK (i6<(a0.length:Int)) (.br (!((Ale .u64 by1)==(0:Int))) (kK (0≤i6) (kK (i6<(a0.length:Int)) (.br (!((Ale .u64 by1)==(0:Int))) (V9 n m3 (a0.set (Alf i6) (D.int (Ale .u32 (Ale .u64 (Int.tdiv (Bj .or .u64 (Ale .u64 (rest5*2 ^ (min (Alf 32) (Alq .u64)))) (Ale .u64 ((a0.getD (Alf i6) D.nil).toInt))) (Ale .u64 by1)))))) by1 (Int.tmod (Bj .or .u64 (Ale .u64 (rest5*2 ^ (min (Alf 32) (Alq .u64)))) (Ale .u64 ((a0.getD (Alf i6) D.nil).toInt))) (Ale .u64 by1)) (Ale .i64 (i6-1))) .fail))) .fail))))
 (.ret [D.int (Ale .u32 rest5),D.sl a0]):=by kernel_rfl
theorem Aeu(n:Nat)(a0 by1:D):fA V_ n 331 [] [a0,by1] =
 V9 n n a0.els by1.toInt 0 (Ale .i64 ((a0.els.length:Int)-1)):=by kernel_rfl
theorem AaP(n:Nat)(x0 y1 carry2:D):fA [] n 333 [] [x0,y1,carry2] =
 kK (0≤32) (.ret [D.int (Ale .u32 (Ale .u64 ((Ale .u64 ((Ale .u64 x0.toInt)+(Ale .u64 y1.toInt)))+(Ale .u64 carry2.toInt)))),D.int (Ale .u32 (Al8 (Ale .u64 ((Ale .u64 ((Ale .u64 x0.toInt)+(Ale .u64 y1.toInt)))+(Ale .u64 carry2.toInt))) (2 ^ (min (Alf 32) (Alq .u64)))))]):=by kernel_rfl
theorem AaW(n:Nat)(x0 y1 borrow2:D):fA [] n 334 [] [x0,y1,borrow2] =
 kK (0≤31) (.ret [D.int (Ale .u32 ((Ale .u32 (x0.toInt-y1.toInt))-borrow2.toInt)),D.int (Al8 (Bj .or .u32 (Bj .and .u32 (Bj .xor .u32 (IntKind.max .u32) x0.toInt) y1.toInt) (Bj .and .u32 (Bj .xor .u32 (IntKind.max .u32) (Bj .xor .u32 x0.toInt y1.toInt)) (Ale .u32 ((Ale .u32 (x0.toInt-y1.toInt))-borrow2.toInt)))) (2 ^ (min (Alf 31) (Alq .u32))))]):=by kernel_rfl
theorem AaQ(n:Nat)(x0:D):fA [] n 335 [] [x0] =
 cK 341 [D.int x0.toInt] fun Y1 =>
 .ret [D.int (Ale .i64 (32-((qA Y1).toInt)))]:=by kernel_rfl
def Wf:List (Nat×Orc):=[(4,⟨[(0,some 62),(1,none),(5,none),(6,none),(14,some 62),(15,none),(16,none)],[],[(.slot 5,1040,180)]⟩)]
noncomputable def We(n m4:Nat)(a0:D)(shift1:Int)(out5:List D)(carry6:Int)(t14:D)(t15 t16:Int):Tree :=
 lA (eA Wf n 336 [1,1,1,0,1,0,0]) (Al Wf 4) m4 ⟨(.d 62 a0:: .i .i64 shift1::uA 3++(.row 1040:: .i .u64 carry6::uA 7++(.d 62 t14:: .i .i64 t15:: .i .i64 t16::uA 26))),[(1040,.row 180 out5 true)],[1040],[],[]⟩
  (Ai 0 (An (jA Wf n 336 [1,1,1,1]) (rA 336 [62,3] [.tmp 4] [62])))
theorem QF(n m4:Nat)(a0:D)(shift1:Int)(out5:List D)(carry6:Int)(t14:D)(t15 t16:Int):We n (m4+1) a0 shift1 out5 carry6 t14 t15 t16 =
 bK (t16<t15) (kK (0≤t16) (kK (t16<(t14.els.length:Int)) (kK (0≤Ale .u64 shift1) (kK (0≤t16) (kK (t16<(out5.length:Int)) (kK (0≤32) (We n m4 a0 shift1 (out5.set (Alf t16) (D.int (Ale .u32 (Bj .or .u64 (Ale .u64 ((Ale .u64 ((t14.els.getD (Alf t16) D.nil).toInt))*2 ^ (min (Alf (Ale .u64 shift1)) (Alq .u64)))) carry6)))) (Al8 (Bj .or .u64 (Ale .u64 ((Ale .u64 ((t14.els.getD (Alf t16) D.nil).toInt))*2 ^ (min (Alf (Ale .u64 shift1)) (Alq .u64)))) carry6) (2 ^ (min (Alf 32) (Alq .u64)))) t14 t15 (Ale .i64 (t16+1)))))))))
 (kK (0≤(a0.els.length:Int)) (kK ((a0.els.length:Int)<(out5.length:Int)) (.ret [D.sl (out5.set (Alf (a0.els.length:Int)) (D.int (Ale .u32 carry6)))]))):=by kernel_rfl
theorem Aez(n:Nat)(a0 shift1:D):fA Wf n 336 [] [a0,shift1] =
 kK (0≤Ale .i64 ((a0.els.length:Int)+1)) (kK (Ale .i64 ((a0.els.length:Int)+1)≤Ale .i64 ((a0.els.length:Int)+1)) (kK (Ale .i64 ((a0.els.length:Int)+1)≤Aj) (We n n a0 shift1.toInt (Alh (Alf (Ale .i64 ((a0.els.length:Int)+1))) (D.int 0)) 0 a0 (a0.els.length:Int) 0))):=by kernel_rfl
def V8:List (Nat×Orc):=[(4,⟨[(0,some 62),(1,some 62),(5,none),(7,none),(8,none)],[],[]⟩)]
noncomputable def N8(n m4:Nat)(a0 divisor1:D)(nn5 guess7 rest8:Int):Tree :=
 lA (eA V8 n 337 [1,1,1,1,0,0,0]) (Al V8 4) m4 ⟨(.d 62 a0:: .d 62 divisor1::uA 3++(.i .i64 nn5:: .undef:: .i .u64 guess7:: .i .u64 rest8::uA 68)),[],[],[],[]⟩
  (Ai 0 (An (jA V8 n 337 [1,1,1,1,1]) (rA 337 [62,62] [.tmp 4] [22])))
theorem Aeq(n m4:Nat)(a0 divisor1:D)(nn5 guess7 rest8:Int):N8 n (m4+1) a0 divisor1 nn5 guess7 rest8 =
 kK (0≤32) (.br ((Al8 guess7 (2 ^ (min (Alf 32) (Alq .u64))))!=0) (kK (0≤Ale .i64 (nn5-1)) (kK (Ale .i64 (nn5-1)<(divisor1.els.length:Int)) (kK (0≤32) (.br ((Al8 (Ale .u64 (rest8+(Ale .u64 ((divisor1.els.getD (Alf (Ale .i64 (nn5-1))) D.nil).toInt)))) (2 ^ (min (Alf 32) (Alq .u64))))!=0) (.ret [D.int (Ale .u64 (guess7-1))])
 (N8 n m4 a0 divisor1 nn5 (Ale .u64 (guess7-1)) (Ale .u64 (rest8+(Ale .u64 ((divisor1.els.getD (Alf (Ale .i64 (nn5-1))) D.nil).toInt)))))))))
 (kK (0≤Ale .i64 (nn5-2)) (kK (Ale .i64 (nn5-2)<(divisor1.els.length:Int)) (kK (0≤32) (kK (0≤Ale .i64 (nn5-2)) (kK (Ale .i64 (nn5-2)<(a0.els.length:Int)) (bK ((Bj .or .u64 (Ale .u64 (rest8*2 ^ (min (Alf 32) (Alq .u64)))) (Ale .u64 ((a0.els.getD (Alf (Ale .i64 (nn5-2))) D.nil).toInt)))<(Ale .u64 (guess7*(Ale .u64 ((divisor1.els.getD (Alf (Ale .i64 (nn5-2))) D.nil).toInt))))) (kK (0≤Ale .i64 (nn5-1)) (kK (Ale .i64 (nn5-1)<(divisor1.els.length:Int)) (kK (0≤32) (.br ((Al8 (Ale .u64 (rest8+(Ale .u64 ((divisor1.els.getD (Alf (Ale .i64 (nn5-1))) D.nil).toInt)))) (2 ^ (min (Alf 32) (Alq .u64))))!=0) (.ret [D.int (Ale .u64 (guess7-1))])
 (N8 n m4 a0 divisor1 nn5 (Ale .u64 (guess7-1)) (Ale .u64 (rest8+(Ale .u64 ((divisor1.els.getD (Alf (Ale .i64 (nn5-1))) D.nil).toInt)))))))))
 (.ret [D.int guess7])))))))):=by kernel_rfl
theorem Aer(n:Nat)(a0 divisor1:D):fA V8 n 337 [] [a0,divisor1] =
 kK (0≤(divisor1.els.length:Int)) (kK ((divisor1.els.length:Int)<(a0.els.length:Int)) (kK (0≤32) (kK (0≤Ale .i64 ((divisor1.els.length:Int)-1)) (kK (Ale .i64 ((divisor1.els.length:Int)-1)<(a0.els.length:Int)) (kK (0≤Ale .i64 ((divisor1.els.length:Int)-1)) (kK (Ale .i64 ((divisor1.els.length:Int)-1)<(divisor1.els.length:Int)) (.br (!((Ale .u64 ((divisor1.els.getD (Alf (Ale .i64 ((divisor1.els.length:Int)-1))) D.nil).toInt))==(0:Int))) (kK (0≤Ale .i64 ((divisor1.els.length:Int)-1)) (kK (Ale .i64 ((divisor1.els.length:Int)-1)<(divisor1.els.length:Int)) (.br (!((Ale .u64 ((divisor1.els.getD (Alf (Ale .i64 ((divisor1.els.length:Int)-1))) D.nil).toInt))==(0:Int))) (N8 n n a0 divisor1 (divisor1.els.length:Int) (Ale .u64 (Int.tdiv (Bj .or .u64 (Ale .u64 ((Ale .u64 ((a0.els.getD (Alf (divisor1.els.length:Int)) D.nil).toInt))*2 ^ (min (Alf 32) (Alq .u64)))) (Ale .u64 ((a0.els.getD (Alf (Ale .i64 ((divisor1.els.length:Int)-1))) D.nil).toInt))) (Ale .u64 ((divisor1.els.getD (Alf (Ale .i64 ((divisor1.els.length:Int)-1))) D.nil).toInt)))) (Int.tmod (Bj .or .u64 (Ale .u64 ((Ale .u64 ((a0.els.getD (Alf (divisor1.els.length:Int)) D.nil).toInt))*2 ^ (min (Alf 32) (Alq .u64)))) (Ale .u64 ((a0.els.getD (Alf (Ale .i64 ((divisor1.els.length:Int)-1))) D.nil).toInt))) (Ale .u64 ((divisor1.els.getD (Alf (Ale .i64 ((divisor1.els.length:Int)-1))) D.nil).toInt)))) .fail))) .fail))))))):=by kernel_rfl
def V7:List (Nat×Orc):=[(4,⟨[(0,some 62),(1,none),(5,none),(6,none),(7,none)],[],[(.slot 5,1040,180)]⟩)]
noncomputable def V6(n m4:Nat)(a0:D)(shift1:Int)(out5:List D)(above6 i7:Int):Tree :=
 lA (eA V7 n 340 [1,1,1,0,1,0,0]) (Al V7 4) m4 ⟨(.d 62 a0:: .i .i64 shift1::uA 3++(.row 1040:: .i .u64 above6:: .i .i64 i7::uA 34)),[(1040,.row 180 out5 true)],[1040],[],[]⟩
  (Ai 0 (An (jA V7 n 340 [1,1,1,1]) (rA 340 [62,3] [.tmp 4] [62])))
theorem QB(n m4:Nat)(a0:D)(shift1:Int)(out5:List D)(above6 i7:Int):V6 n (m4+1) a0 shift1 out5 above6 i7 =
 bK (0≤i7) (kK (0≤32) (kK (0≤i7) (kK (i7<(a0.els.length:Int)) (kK (0≤Ale .u64 shift1) (kK (0≤i7) (kK (i7<(out5.length:Int)) (kK (0≤i7) (kK (i7<(a0.els.length:Int)) (V6 n m4 a0 shift1 (out5.set (Alf i7) (D.int (Ale .u32 (Al8 (Bj .or .u64 (Ale .u64 (above6*2 ^ (min (Alf 32) (Alq .u64)))) (Ale .u64 ((a0.els.getD (Alf i7) D.nil).toInt))) (2 ^ (min (Alf (Ale .u64 shift1)) (Alq .u64))))))) (Ale .u64 ((a0.els.getD (Alf i7) D.nil).toInt)) (Ale .i64 (i7-1)))))))))))
 (cK 321 [D.sl out5] fun Y1 =>
 .ret [qA Y1]):=by kernel_rfl
theorem Aeo(n:Nat)(a0 shift1:D):fA V7 n 340 [] [a0,shift1] =
 kK (0≤(a0.els.length:Int)) (kK ((a0.els.length:Int)≤(a0.els.length:Int)) (kK ((a0.els.length:Int)≤Aj) (V6 n n a0 shift1.toInt (Alh (Alf (a0.els.length:Int)) (D.int 0)) 0 (Ale .i64 ((a0.els.length:Int)-1))))):=by kernel_rfl
theorem AaS(n:Nat)(x0:D):fA [] n 341 [] [x0] =
 bK (65536≤x0.toInt) (kK (0≤16) (bK (256≤(Al8 x0.toInt (2 ^ (min (Alf 16) (Alq .u32))))) (kK (0≤8) (kK (0≤Ale .u8 (Al8 (Al8 x0.toInt (2 ^ (min (Alf 16) (Alq .u32)))) (2 ^ (min (Alf 8) (Alq .u32))))) (kK (Ale .u8 (Al8 (Al8 x0.toInt (2 ^ (min (Alf 16) (Alq .u32)))) (2 ^ (min (Alf 8) (Alq .u32))))<(Jl.size:Int)) (.ret [D.int (Ale .i64 ((Ale .i64 (16+8))+(Ale .i64 (((Jl.data.toList.getD (Alf (Ale .u8 (Al8 (Al8 x0.toInt (2 ^ (min (Alf 16) (Alq .u32)))) (2 ^ (min (Alf 8) (Alq .u32)))))) 0).toNat:Nat):Int))))]))))
 (kK (0≤Ale .u8 (Al8 x0.toInt (2 ^ (min (Alf 16) (Alq .u32))))) (kK (Ale .u8 (Al8 x0.toInt (2 ^ (min (Alf 16) (Alq .u32))))<(Jl.size:Int)) (.ret [D.int (Ale .i64 (16+(Ale .i64 (((Jl.data.toList.getD (Alf (Ale .u8 (Al8 x0.toInt (2 ^ (min (Alf 16) (Alq .u32)))))) 0).toNat:Nat):Int))))])))))
 (bK (256≤x0.toInt) (kK (0≤8) (kK (0≤Ale .u8 (Al8 x0.toInt (2 ^ (min (Alf 8) (Alq .u32))))) (kK (Ale .u8 (Al8 x0.toInt (2 ^ (min (Alf 8) (Alq .u32))))<(Jl.size:Int)) (.ret [D.int (Ale .i64 ((Ale .i64 (0+8))+(Ale .i64 (((Jl.data.toList.getD (Alf (Ale .u8 (Al8 x0.toInt (2 ^ (min (Alf 8) (Alq .u32)))))) 0).toNat:Nat):Int))))]))))
 (kK (0≤Ale .u8 x0.toInt) (kK (Ale .u8 x0.toInt<(Jl.size:Int)) (.ret [D.int (Ale .i64 (0+(Ale .i64 (((Jl.data.toList.getD (Alf (Ale .u8 x0.toInt)) 0).toNat:Nat):Int))))])))):=by kernel_rfl
def B:Nat:=4294967296
theorem Aw:B=4294967296:=rfl
theorem Bu:0<B:=by decide
theorem Bp(i:Nat):0<B ^ i:=Nat.pow_pos Bu
theorem Ed(x:Ao):x.toNat<B:=x.isLt
def nv:List Ao→Nat
 | []=>0
 | x::l=>x.toNat+B*nv l
@[simp] theorem EM:nv []=0:=rfl
theorem G0(l m:List Ao):nv (l++m)=nv l+B ^ l.length*nv m:=by
 induction l with
 | nil=>simp
 | cons x l ih =>
  simp only[List.cons_append,nv,ih,All,Amk,Nat.mul_add]
  rw[Ami (B ^ l.length) B,Nat.mul_assoc];omega
theorem Ic(l:List Ao)(x:Ao):nv (l++[x])=nv l+B ^ l.length*x.toNat:=by rw[G0];simp[nv]
theorem B6(l:List Ao):nv l<B ^ l.length:=by
 induction l with
 | nil=>simp
 | cons x l ih =>
  simp only[nv,All,Amk]
  have hx:=Ed x
  have:B*(nv l+1)≤B*B ^ l.length:=Nat.mul_le_mul_left _ ih
  rw[Ami (B ^ l.length) B]
  rw[Nat.mul_add]at this
  omega
theorem Wj(l:List Ao)(i:Nat):nv (l.drop i)=nv l / B ^ i:=by
 induction i generalizing l with
 | zero=>simp
 | succ i ih =>
  cases l with
  | nil=>simp
  | cons x l =>
   rw[List.drop_succ_cons,ih,Amk,Ami,← Nat.div_div_eq_div_mul]
   simp only[nv]
   rw[Nat.add_mul_div_left _ _ Bu,Nat.div_eq_of_lt (Ed x),Amn]
theorem Ds(l:List Ao)(i:Nat)(hi:i<l.length):(l[i]).toNat=nv l / B ^ i % B:=by
 rw[← Wj,Al6 hi,nv,Nat.add_mul_mod_self_left,Al_ (Ed _)]
theorem EL(l:List Ao)(i:Nat)(hi:l.length≤i):nv l / B ^ i % B=0:=by
 rw[← Wj,List.drop_eq_nil_of_le hi];rfl
theorem Wk(k:Nat):nv (Alh k 0)=0:=by
 induction k with
 | zero=>rfl
 | succ k ih=>rw[List.replicate_succ,nv,ih];rfl
theorem Qv{out:List Ao}{z i:Nat}{d:Ao}(hl:out.length=i)(h:nv out=z % B ^ i)(hd:d.toNat=z / B ^ i % B):nv (out++[d])=z % B ^ (i+1):=by
 rw[Ic,hl,h,hd,Nat.mod_pow_succ]
def lb(n:Nat):List Ao:=if h:n=0 then [] else Al0 32 n::lb (n / B)
termination_by n
decreasing_by exact Nat.div_lt_self (Nat.pos_of_ne_zero h) (by decide)
theorem Cs:lb 0 = []:=by rw[lb];simp
theorem Nw{n:Nat}(h:n≠0):lb n=Al0 32 n::lb (n / B):=by rw[lb,dif_neg h]
theorem Bn(n:Nat):nv (lb n)=n:=by
 induction n using Nat.strongRecOn with
 | _ n ih =>
  by_cases h:n=0
  · subst h;rw[Cs];rfl
  · rw[Nw h,nv,ih _ (Nat.div_lt_self (Nat.pos_of_ne_zero h) (by decide)),BitVec.toNat_ofNat]
    exact Nat.mod_add_div n B
theorem Ay{n k:Nat} : (lb n).length≤k↔n<B ^ k:=by
 induction k generalizing n with
 | zero =>
  by_cases h:n=0
  · subst h;simp[Cs]
  · rw[Nw h];simp;omega
 | succ k ih =>
  by_cases h:n=0
  · subst h;simp[Cs,Bp]
  · rw[Nw h,All,Nat.succ_le_succ_iff,ih,Amm Bu,Amk]
theorem DK{n:Nat} : lb n = []↔n=0:=by
 constructor
 · intro h;have:=Bn n;rw[h]at this;simpa using this.symm
 · rintro rfl;exact Cs
theorem F_{n:Nat} : (lb n).length=0↔n=0:=by rw[Al7,DK]
theorem OI{l:List Ao}(h : ∀ hne:l≠[],l.getLast hne≠0):lb (nv l)=l:=by
 induction l with
 | nil=>simp[Cs]
 | cons x l ih =>
  have ihl:=ih (fun hne=>by have:=h (by simp);rwa[List.getLast_cons hne]at this)
  have hpos:nv (x::l)≠0:=by
   intro h0
   simp only[nv]at h0
   cases l with
   | nil =>
    have:=h (by simp)
    simp only[List.getLast_singleton]at this
    exact this (BitVec.eq_of_toNat_eq (by simp;omega))
   | cons y m =>
    have hv:nv (y::m)=0:=by
     rcases Nat.eq_zero_or_pos (nv (y::m)) with h | h
     · exact h
     · have:=Nat.mul_le_mul_left B h;rw[Aw]at this h0;omega
    rw[hv,Cs]at ihl
    cases ihl
  rw[Nw hpos]
  have e2:nv (x::l) / B=nv l:=by simp only[nv];rw[Nat.add_mul_div_left _ _ Bu,Nat.div_eq_of_lt (Ed x),Amn]
  rw[e2,ihl]
  congr 1
  apply BitVec.eq_of_toNat_eq
  simp only[nv,BitVec.toNat_ofNat]
  show (x.toNat+B*nv l) % B=x.toNat
  rw[Nat.add_mul_mod_self_left,Al_ (Ed x)]
theorem Vh{l:List Ao}{k:Nat}(hk:k≤l.length)(hz : ∀ i,k≤i→(hi:i<l.length)→l[i]=0)(ht : ∀ (hi:k-1<l.length),0<k→l[k-1]≠0):lb (nv l)=l.take k:=by
 have e:nv l=nv (l.take k):=by
  have:=G0 (l.take k) (l.drop k)
  rw[Ama]at this
  have hd:l.drop k=Alh (l.length-k) 0:=by
   apply List.ext_getElem
   · simp
   · intro i h1 h2
     simp only[List.getElem_drop,List.getElem_replicate]
     exact hz _ (by omega) _
  rw[this,hd,Wk];simp
 rw[e]
 apply OI
 intro hne
 have hk0:0<k:=by
  rcases Nat.eq_zero_or_pos k with h | h
  · subst h;simp at hne
  · exact h
 rw[List.getLast_eq_getElem]
 simp only[List.getElem_take,Alw]
 have:=ht (by omega) hk0
 have he:min k l.length-1=k-1:=by omega
 simp only[he]
 exact this
theorem AK(x y i:Nat):(x+y) / B ^ i % B=(x / B ^ i % B+y / B ^ i % B+(x % B ^ i+y % B ^ i) / B ^ i) % B:=by
 have h1:(x+y) / B ^ i=x / B ^ i+y / B ^ i+(x % B ^ i+y % B ^ i) / B ^ i:=by
  have hx:=Nat.div_add_mod x (B ^ i)
  have hy:=Nat.div_add_mod y (B ^ i)
  conv=>lhs;rw[← hx,← hy]
  rw[show B ^ i*(x / B ^ i)+x % B ^ i+(B ^ i*(y / B ^ i)+y % B ^ i)=(x % B ^ i+y % B ^ i)+B ^ i*(x / B ^ i+y / B ^ i) by rw[Nat.mul_add];omega,Nat.add_mul_div_left _ _ (Bp i)]
  omega
 rw[h1]
 simp[Nat.add_mod]
theorem AJ(x y i:Nat):(x % B ^ (i+1)+y % B ^ (i+1)) / B ^ (i+1)=(x / B ^ i % B+y / B ^ i % B+(x % B ^ i+y % B ^ i) / B ^ i) / B:=by
 rw[Nat.mod_pow_succ,Nat.mod_pow_succ,Amk,← Nat.div_div_eq_div_mul]
 congr 1
 rw[show x % B ^ i+B ^ i*(x / B ^ i % B)+(y % B ^ i+B ^ i*(y / B ^ i % B))=(x % B ^ i+y % B ^ i)+B ^ i*(x / B ^ i % B+y / B ^ i % B) by rw[Nat.mul_add];omega,Nat.add_mul_div_left _ _ (Bp i)]
 omega
theorem Vk{x y b:Nat}(h:x / b<y / b):x<y:=by
 rcases Nat.lt_or_ge x y with h1 | h1
 · exact h1
 · have:=Nat.div_le_div_right (c:=b) h1;omega
theorem YK{x y:Nat}(h:y≤x)(i:Nat) : ∃ zi c c',zi=(x-y) / B ^ i % B∧c=((x-y) % B ^ i+y % B ^ i) / B ^ i∧c'=((x-y) % B ^ (i+1)+y % B ^ (i+1)) / B ^ (i+1)∧c'≤1∧x / B ^ i % B+B*c'=zi+y / B ^ i % B+c:=by
 refine ⟨_,_,_,rfl,rfl,rfl,?_,?_⟩
 · have h1:=Al9 (x-y) (Bp (i+1))
   have h2:=Al9 y (Bp (i+1))
   have:((x-y) % B ^ (i+1)+y % B ^ (i+1)) / B ^ (i+1)<2:=by rw[Amm (Bp _)];omega
   omega
 · have h1:=AK (x-y) y i
   rw[Nat.sub_add_cancel h]at h1
   rw[AJ,h1]
   exact Nat.mod_add_div _ _
theorem Ak0(x b i:Nat):(2*x+b) / B ^ i % B=(2*(x / B ^ i % B)+(2*(x % B ^ i)+b) / B ^ i) % B:=by
 have h1:(2*x+b) / B ^ i=2*(x / B ^ i)+(2*(x % B ^ i)+b) / B ^ i:=by
  have hx:=Nat.div_add_mod x (B ^ i)
  conv=>lhs;rw[← hx]
  rw[show 2*(B ^ i*(x / B ^ i)+x % B ^ i)+b=(2*(x % B ^ i)+b)+B ^ i*(2*(x / B ^ i)) by rw[Nat.mul_add,Nat.mul_left_comm];omega,Nat.add_mul_div_left _ _ (Bp i)]
  omega
 rw[h1]
 simp[Nat.add_mod,Nat.mul_mod]
theorem Akz(x b i:Nat):(2*(x % B ^ (i+1))+b) / B ^ (i+1)=(2*(x / B ^ i % B)+(2*(x % B ^ i)+b) / B ^ i) / B:=by
 rw[Nat.mod_pow_succ,Amk,← Nat.div_div_eq_div_mul]
 congr 1
 rw[show 2*(x % B ^ i+B ^ i*(x / B ^ i % B))+b=(2*(x % B ^ i)+b)+B ^ i*(2*(x / B ^ i % B)) by rw[Nat.mul_add,Nat.mul_left_comm];omega,Nat.add_mul_div_left _ _ (Bp i)]
 omega
theorem IW(i:Nat):B ^ i=2 ^ (32*i):=by rw[Nat.pow_mul];rfl
theorem AaO(x i:Nat):x / B ^ (i / 32) % B / 2 ^ (i % 32) % 2=x / 2 ^ i % 2:=by
 have h1:=Nat.toNat_testBit (x / B ^ (i / 32) % B) (i % 32)
 have h2:=Nat.toNat_testBit x i
 rw[← h1,← h2]
 congr 1
 rw[show B=2 ^ 32 from rfl,Nat.testBit_mod_two_pow,← Nat.pow_mul,Nat.testBit_div_two_pow]
 have:i % 32<32:=Al9 _ (by decide)
 simp only[this,decide_true,Bool.true_and]
 congr 1
 omega
theorem AdF{x y:Nat}(h:y≠0)(h2:x % y≠0):2*(y % (x % y))<y:=by
 have h1:=Al9 x (Nat.pos_of_ne_zero h)
 rcases Nat.lt_or_ge y (2*(x % y)) with h3 | h3
 · have:y % (x % y)=y-x % y:=by
    rw[Nat.mod_eq_sub_mod (by omega),Al_ (by omega)]
   omega
 · have:=Al9 y (Nat.pos_of_ne_zero h2)
   omega
theorem D6{t:Nat}(h:t<B):D.int (t:Int)=dB (Al0 32 t):=by
 show _=D.int ((Al0 32 t).toNat:Int)
 rw[show (Al0 32 t).toNat=t by rw[BitVec.toNat_ofNat];exact Al_ h]
theorem ofNat_lt{t:Nat}(h:t<B):(Al0 32 t).toNat=t:=by rw[BitVec.toNat_ofNat];exact Al_ h
theorem ZZ(k:Nat)(h:k<9223372036854775807):Ale .i64 (((k+1:Nat):Int)-1)=(k:Int):=by rw[As (by omega) (by omega)];omega
theorem Tk(l:List Ao)(k:Nat):D.sl ((l.map dB).take k)=dL (l.take k):=by rw[dL,List.map_take]
theorem Mg(l:List Ao)(hl:l.length≤1000000):Sp 265 [dL l] [dL (lb (nv l))]:=by
 refine Af (l.length+1) (AgU _ _) ?_
 have:=H_ (P:=Tryz.prog) (md:=md) (fun m k (_:Unit)=>Xj (l.length+1) m (dL l) (k:Int)) (fun _ _=>[dL (lb (nv l))]) (fun k _=>k≤l.length∧∀ i,k≤i→(hi:i<l.length)→l[i]=0)
  (fun m s ⟨h1,h2⟩=>by
   simp only[TZ,Bx,Ali,Alw]
   refine Aq (Ad (Ad (Av (by simp[Aj]) (Ac ?_))))
   rw[Vh (k:=0) (by omega) h2 (fun _ h=>by omega),Tk];rfl)
  (fun m k s ⟨h1,h2⟩ ih=>by
   have hk:l[k]? = some l[k]:=Alg _
   simp only[TZ,Bx,Ali,Alw,ZZ k (by omega),Aln,Ar hk,D5,Cc]
   refine Ad (Ad (Ad (Ae (fun h=> ?_) (fun h=> ?_))))
   · refine ih () ⟨by omega,fun i hi hlt=> ?_⟩
     by_cases he:i=k
     · subst he;exact BitVec.eq_of_toNat_eq (by simp;omega)
     · exact h2 i (by omega) hlt
   · refine Ad (Ad (Av (by unfold Aj;omega) (Ac ?_)))
     rw[Vh (k:=k+1) (by omega) h2 (fun _ _ hc=>h (by have hc':l[k]=0:=hc;rw[hc'];rfl)),Tk])
  (l.length+1) l.length () (by omega) ⟨Als _,fun i h1 h2=>by omega⟩
 simpa using this
theorem Jd(l:List Ao)(i:Nat)(hi:i<9223372036854775807):Sp 311 [dL l,.int i] [.int ((nv l / B ^ i % B:Nat):Int)]:=by
 refine Af 0 (AgY _ _ _) ?_
 simp only[Bx,Ali,Ak,Aln]
 refine Ae (fun h=> ?_) (fun h=> ?_)
 · have hk:l[i]? = some (l[i]'(by omega)):=Alg _
   refine Ad (Ad (Ac ?_))
   have:=Ed l[i]
   rw[Ar hk,D5,Bq (by omega) (by rw[Aw]at this;omega),Ds]
 · refine Ac ?_
   rw[EL _ _ (by omega)];rfl
theorem Re(a b:List Ao):Sp 310 [dL a,dL b] [.int ((max a.length b.length:Nat):Int)]:=by
 refine Af 0 (AgZ _ _ _) ?_
 simp only[Bx,Ali]
 refine Ae (fun h=>Ac ?_) (fun h=>Ac ?_)
 · rw[Nat.max_eq_left (by omega)]
 · rw[Nat.max_eq_right (by omega)]
def Dj(a b:Nat):Int:=if a<b then -1 else if a=b then 0 else 1
theorem TX(a b:List Ao)(ha:a.length≤1000000)(hb:b.length≤1000000):Sp 320 [dL a,dL b] [.int (Dj (nv a) (nv b))]:=by
 refine Af (max a.length b.length+1) (AgQ _ _ _) (Aa (Re a b) ?_)
 simp only[Ag,Ak]
 have key:=H_ (P:=Tryz.prog) (md:=md) (fun m k (_:Unit)=>Xf (max a.length b.length+1) m (dL a) (dL b) ((k:Int)-1)) (fun _ _=>[.int (Dj (nv a) (nv b))]) (fun k _=>k≤1000000∧nv a / B ^ k=nv b / B ^ k)
  (fun m s ⟨_,h⟩=>by
   simp only[TW]
   refine Aq (Ac ?_)
   simp at h
   simp[Dj,h])
  (fun m k s ⟨h0,h⟩ ih=>by
   simp only[TW,show ((k+1:Nat):Int)-1=(k:Int) by omega]
   have ea:=Nat.div_add_mod (nv a / B ^ k) B
   have eb:=Nat.div_add_mod (nv b / B ^ k) B
   rw[Nat.div_div_eq_div_mul,← Amk]at ea eb
   rw[h]at ea
   generalize B*(nv b / B ^ (k+1))=q at ea eb
   refine Ad (Aa (Jd a k (by omega)) (Aa (Jd b k (by omega)) ?_))
   simp only[Ag,Ak]
   refine Ae (fun h'=>Ac ?_) (fun h'=>Aa (Jd a k (by omega)) (Aa (Jd b k (by omega)) ?_))
   · have hlt:=Vk (show nv a / B ^ k<nv b / B ^ k by omega)
     simp only[Dj];rw[if_pos hlt]
   · simp only[Ag,Ak]
     refine Ae (fun h2=>Ac ?_) (fun h2=> ?_)
     · have hlt:=Vk (show nv b / B ^ k<nv a / B ^ k by omega)
       simp only[Dj];rw[if_neg (by omega),if_neg (by omega)]
     · rw[As (by omega) (by omega)]
       exact ih () ⟨by omega,by omega⟩)
  (max a.length b.length+1) (max a.length b.length) () (by omega) ⟨by omega,by
   rw[Nat.div_eq_of_lt,Nat.div_eq_of_lt]
   · exact Ame (B6 b) (Nat.pow_le_pow_right Bu (Nat.le_max_right _ _))
   · exact Ame (B6 a) (Nat.pow_le_pow_right Bu (Nat.le_max_left _ _))⟩
 rw[As (by omega) (by omega)]
 exact key
theorem TU(a b:List Ao)(ha:a.length≤100000)(hb:b.length≤100000):Sp 268 [dL a,dL b] [dL (lb (nv a+nv b))]:=by
 refine Af (max a.length b.length+3) (AgN _ _ _) ?_
 have hmx:max a.length b.length≤100000:=by omega
 have hlt:nv a+nv b<B ^ (max a.length b.length+1):=by
  have h1:nv a<B ^ max a.length b.length:=Ame (B6 a) (Nat.pow_le_pow_right Bu (Nat.le_max_left _ _))
  have h2:nv b<B ^ max a.length b.length:=Ame (B6 b) (Nat.pow_le_pow_right Bu (Nat.le_max_right _ _))
  rw[Amk,Aw];rw[Aw]at h1 h2;omega
 have key:=Da (max a.length b.length+1) (fun m k (s:List Ao×Nat)=>Xb (max a.length b.length+3) m (dL a) (dL b) (s.1.map dB) (s.2:Int) (k:Int)) (fun _ _=>[dL (lb (nv a+nv b))])
  (fun k s=>s.1.length=k∧nv s.1=(nv a+nv b) % B ^ k∧s.2=(nv a % B ^ k+nv b % B ^ k) / B ^ k)
  (fun m s ⟨h1,h2,h3⟩=>by
   simp only[TT]
   refine Aa (Re a b) ?_
   simp only[Ag,Ak]
   refine Aq (Aa (Mg s.1 (by omega)) (Ac ?_))
   rw[h2,Al_ hlt];rfl)
  (fun m k s hk ⟨h1,h2,h3⟩ ih=>by
   simp only[TT]
   refine Aa (Re a b) ?_
   simp only[Ag,Ak]
   refine Ad (Aa (Jd a k (by omega)) (Aa (Jd b k (by omega)) ?_))
   simp only[Ag,Ak]
   have hd:=AK (nv a) (nv b) k
   have hc:=AJ (nv a) (nv b) k
   have la:=Al9 (nv a / B ^ k) Bu
   have lb':=Al9 (nv b / B ^ k) Bu
   have lc:s.2≤1:=by
    rw[h3]
    have r1:=Al9 (nv a) (Bp k)
    have r2:=Al9 (nv b) (Bp k)
    have:(nv a % B ^ k+nv b % B ^ k) / B ^ k<2:=by rw[Amm (Bp k)];omega
    omega
   rw[← h3]at hd hc
   generalize nv a / B ^ k % B=x at *
   generalize nv b / B ^ k % B=y at *
   have hB:=Aw
   rw[show (x+y+s.2) / B=(x+y+s.2) / 4294967296 from rfl]at hc
   have t1:Ale .u64 (Ale .u64 ((x:Int)+(y:Int))+(s.2:Int))=((x+y+s.2:Nat):Int):=by
    rw[Bq (x:=(x:Int)+y) (by omega) (by omega),Bq (by omega) (by omega)];omega
   rw[t1,Int.tmod_eq_emod_of_nonneg (by omega),Int.tdiv_eq_ediv_of_nonneg (by omega),show (((x+y+s.2:Nat):Int) % 4294967296)=(((x+y+s.2) % B:Nat):Int) by rw[Aw];omega,
    show (((x+y+s.2:Nat):Int) / 4294967296)=(((x+y+s.2) / 4294967296:Nat):Int) by omega]
   have hm:=Al9 (x+y+s.2) Bu
   rw[Ey (x:=(((x+y+s.2) % B:Nat):Int)) (by omega) (by generalize (x+y+s.2) % B=z at *; omega),Bq (x:=(((x+y+s.2) / 4294967296:Nat):Int)) (by omega) (by omega),Fo (by omega),D6 hm]
   simp only[Ali,List.length_singleton]
   refine Ax (by decide) (Av (by unfold Aj;omega) (Ax (by decide) ?_))
   have:=ih (s.1++[Al0 32 ((x+y+s.2) % B)],(x+y+s.2) / 4294967296) ⟨by simp[h1],Qv h1 h2 (by rw[ofNat_lt hm,hd]),by rw[hc]⟩
   simpa using this)
  (max a.length b.length+3) 0 ([],0) (by omega) (by omega) ⟨rfl,by simp[Nat.mod_one],by simp[Nat.mod_one]⟩
 exact key
theorem AjL{x y zi c c':Nat}(hx:x<B)(hy:y<B)(hz:zi<B)(hc:c≤1)(hc':c'≤1)(e:x+B*c'=zi+y+c) :
  Ale .u32 (Int.tmod (Ale .u64 (Ale .u64 (Ale .u64 (4294967296+(x:Int))-(y:Int))-(c:Int))) 4294967296)=(zi:Int) ∧
  Ale .u64 (1-Ale .u64 (Int.tdiv (Ale .u64 (Ale .u64 (Ale .u64 (4294967296+(x:Int))-(y:Int))-(c:Int))) 4294967296))=(c':Int):=by
 rw[Aw]at hx hy hz e
 have t1:Ale .u64 (Ale .u64 (Ale .u64 (4294967296+(x:Int))-(y:Int))-(c:Int))=(zi:Int)+4294967296*(1-(c':Int)):=by
  rw[Bq (x:=4294967296+(x:Int)) (by omega) (by omega),Bq (x:=4294967296+(x:Int)-y) (by omega) (by omega),Bq (by omega) (by omega)];omega
 rw[t1,Int.tmod_eq_emod_of_nonneg (by omega),Int.tdiv_eq_ediv_of_nonneg (by omega),show ((zi:Int)+4294967296*(1-(c':Int))) % 4294967296=(zi:Int) by omega,show ((zi:Int)+4294967296*(1-(c':Int))) / 4294967296=1-(c':Int) by omega]
 rw[Ey (x:=(zi:Int)) (by omega) (by omega),Bq (x:=1-(c':Int)) (by omega) (by omega),show (1:Int)-(1-(c':Int))=(c':Int) by omega,Bq (x:=(c':Int)) (by omega) (by omega)]
 exact ⟨rfl,rfl⟩
theorem GC(a b:List Ao)(ha:a.length≤100000)(hb:b.length≤100000):Sp 297 [dL a,dL b] [dL (lb (nv a-nv b)),.bool (decide (nv b≤nv a))]:=by
 refine Af (max a.length b.length+3) (AgX _ _ _) (Aa (TX a b (by omega) (by omega)) ?_)
 have hmx:max a.length b.length≤100000:=by omega
 simp only[Ag,Ak]
 refine Ae (fun h=>Ac ?_) (fun h=> ?_)
 · have hlt:nv a<nv b:=by
    unfold Dj at h
    rcases Nat.lt_or_ge (nv a) (nv b) with h1 | h1
    · exact h1
    · rw[if_neg (by omega)]at h;split at h <;> omega
   rw[Nat.sub_eq_zero_of_le (by omega),Cs,decide_eq_false (by omega)];rfl
 · have hge:nv b≤nv a:=by
    unfold Dj at h
    rcases Nat.lt_or_ge (nv a) (nv b) with h1 | h1
    · rw[if_pos h1]at h;omega
    · exact h1
   rw[decide_eq_true hge]
   have hlt:nv a-nv b<B ^ max a.length b.length:=by
    have h1:nv a<B ^ max a.length b.length:=Ame (B6 a) (Nat.pow_le_pow_right Bu (Nat.le_max_left _ _))
    omega
   have key:=Da (max a.length b.length) (fun m k (s:List Ao×Nat)=>Xn (max a.length b.length+3) m (dL a) (dL b) (s.1.map dB) (s.2:Int) (k:Int)) (fun _ _=>[dL (lb (nv a-nv b)),.bool true])
    (fun k s=>s.1.length=k∧nv s.1=(nv a-nv b) % B ^ k∧s.2=((nv a-nv b) % B ^ k+nv b % B ^ k) / B ^ k)
    (fun m s ⟨h1,h2,h3⟩=>by
     simp only[UB]
     refine Aa (Re a b) ?_
     simp only[Ag,Ak]
     refine Aq (Aa (Mg s.1 (by omega)) (Ac ?_))
     rw[h2,Al_ hlt];rfl)
    (fun m k s hk ⟨h1,h2,h3⟩ ih=>by
     simp only[UB]
     refine Aa (Re a b) ?_
     simp only[Ag,Ak]
     refine Ad (Aa (Jd a k (by omega)) (Aa (Jd b k (by omega)) ?_))
     simp only[Ag,Ak]
     obtain ⟨zi,c,c',e1,e2,e3,e4,e5⟩:=YK hge k
     have la:=Al9 (nv a / B ^ k) Bu
     have lb':=Al9 (nv b / B ^ k) Bu
     have lz:=Al9 ((nv a-nv b) / B ^ k) Bu
     rw[← e1]at lz
     rw[← e2]at h3
     have hB:=Aw
     have lc:c≤1:=by
      rw[e2]
      have r1:=Al9 (nv a-nv b) (Bp k)
      have r2:=Al9 (nv b) (Bp k)
      have:((nv a-nv b) % B ^ k+nv b % B ^ k) / B ^ k<2:=by rw[Amm (Bp k)];omega
      omega
     rw[h3]
     generalize nv a / B ^ k % B=x at *
     generalize nv b / B ^ k % B=y at *
     obtain ⟨t1,t2⟩:=AjL la lb' lz lc e4 e5
     rw[t1,t2,Fo (by omega),D6 lz]
     simp only[Ali,List.length_singleton]
     refine Ax (by decide) (Av (by unfold Aj;omega) (Ax (by decide) ?_))
     have:=ih (s.1++[Al0 32 zi],c') ⟨by simp[h1],Qv h1 h2 (by rw[ofNat_lt lz,e1]),e3⟩
     simpa using this)
    (max a.length b.length+3) 0 ([],0) (by omega) (by omega) ⟨rfl,by simp[Nat.mod_one],by simp[Nat.mod_one]⟩
   exact key
theorem GE(a:List Ao)(b:Nat)(hb:b≤1)(ha:a.length≤100000):Sp 295 [dL a,.int b] [dL (lb (2*nv a+b))]:=by
 refine Af (a.length+3) (Aha _ _ _) ?_
 have hlt:2*nv a+b<B ^ (a.length+1):=by
  have:=B6 a
  rw[Amk,Aw];rw[Aw]at this;omega
 have key:=Da (a.length+1) (fun m k (s:List Ao×Nat)=>Xp (a.length+3) m (dL a) (s.1.map dB) (s.2:Int) (k:Int)) (fun _ _=>[dL (lb (2*nv a+b))])
  (fun k s=>s.1.length=k∧nv s.1=(2*nv a+b) % B ^ k∧s.2=(2*(nv a % B ^ k)+b) / B ^ k)
  (fun m s ⟨h1,h2,h3⟩=>by
   simp only[UC,Bx,Ali]
   refine Aq (Aa (Mg s.1 (by omega)) (Ac ?_))
   rw[h2,Al_ hlt];rfl)
  (fun m k s hk ⟨h1,h2,h3⟩ ih=>by
   simp only[UC,Bx,Ali]
   refine Ad (Aa (Jd a k (by omega)) ?_)
   simp only[Ag,Ak]
   have hd:=Ak0 (nv a) b k
   have hc:=Akz (nv a) b k
   have la:=Al9 (nv a / B ^ k) Bu
   have hB:=Aw
   have lc:s.2≤1:=by
    rw[h3]
    have r1:=Al9 (nv a) (Bp k)
    have:(2*(nv a % B ^ k)+b) / B ^ k<2:=by rw[Amm (Bp k)];omega
    omega
   rw[← h3]at hd hc
   generalize nv a / B ^ k % B=x at *
   rw[show (2*x+s.2) / B=(2*x+s.2) / 4294967296 from rfl]at hc
   have t1:Ale .u64 (Ale .u64 (2*(x:Int))+(s.2:Int))=((2*x+s.2:Nat):Int):=by
    rw[Bq (x:=2*(x:Int)) (by omega) (by omega),Bq (by omega) (by omega)];omega
   rw[t1,Int.tmod_eq_emod_of_nonneg (by omega),Int.tdiv_eq_ediv_of_nonneg (by omega),show (((2*x+s.2:Nat):Int) % 4294967296)=(((2*x+s.2) % B:Nat):Int) by rw[Aw];omega,
    show (((2*x+s.2:Nat):Int) / 4294967296)=(((2*x+s.2) / 4294967296:Nat):Int) by omega]
   have hm:=Al9 (2*x+s.2) Bu
   rw[Ey (x:=(((2*x+s.2) % B:Nat):Int)) (by omega) (by generalize (2*x+s.2) % B=z at *; omega),Bq (x:=(((2*x+s.2) / 4294967296:Nat):Int)) (by omega) (by omega),Fo (by omega),D6 hm]
   simp only[List.length_singleton]
   refine Ax (by decide) (Av (by unfold Aj;omega) (Ax (by decide) ?_))
   have:=ih (s.1++[Al0 32 ((2*x+s.2) % B)],(2*x+s.2) / 4294967296) ⟨by simp[h1],Qv h1 h2 (by rw[ofNat_lt hm,hd]),by rw[hc]⟩
   simpa using this)
  (a.length+3) 0 ([],b) (by omega) (by omega) ⟨rfl,by simp[Nat.mod_one],by simp[Nat.mod_one]⟩
 simp only[Ak]
 rw[Bq (by omega) (by omega)]
 exact key
theorem AgO(a:List Ao)(i:Nat)(hi:i<9223372036854775807):Sp 296 [dL a,.int i] [.int ((nv a / 2 ^ i % 2:Nat):Int)]:=by
 refine Af 40 (AgP _ _ _) (Ax (by decide) ?_)
 simp only[Ak]
 rw[Int.tdiv_eq_ediv_of_nonneg (by omega),show (i:Int) / 32=((i / 32:Nat):Int) by omega,As (by omega) (by omega)]
 refine Aa (Jd a (i / 32) (by omega)) ?_
 simp only[Ag,Ak]
 have hm:Int.tmod (i:Int) 32=((i % 32:Nat):Int):=by rw[Int.tmod_eq_emod_of_nonneg (by omega)];omega
 have key:=Da (i % 32) (fun m k (v:Nat)=>Xd 40 m (i:Int) (v:Int) (k:Int)) (fun k v=>[.int ((v / 2 ^ (i % 32-k) % 2:Nat):Int)]) (fun _ v=>v<4294967296)
  (fun m v hv=>by
   simp only[TV,hm]
   refine Ax (by decide) (Aq (Ax (by decide) (Ac ?_)))
   rw[Int.tmod_eq_emod_of_nonneg (by omega),show (v:Int) % 2=((v % 2:Nat):Int) by omega,Ey (by omega) (by omega)]
   simp)
  (fun m k v hk hv ih=>by
   simp only[TV,hm]
   refine Ax (by decide) (Ad (Ax (by decide) ?_))
   rw[Fo (by omega),Int.tdiv_eq_ediv_of_nonneg (by omega),show (v:Int) / 2=((v / 2:Nat):Int) by omega,Bq (by omega) (by omega)]
   have:=ih (v / 2) (by omega)
   rw[show i % 32-k=(i % 32-(k+1))+1 by omega,Amk,Ami,← Nat.div_div_eq_div_mul]
   exact this)
  40 0 (nv a / B ^ (i / 32) % B) (by omega) (by omega) (Al9 _ Bu)
 rw[Nat.sub_zero,AaO]at key
 exact key
theorem FZ(a b:List Ao)(ha:a.length≤10000)(hb:b.length≤10000):Sp 244 [dL a,dL b] [dL (lb (nv a / nv b)),dL (lb (if nv b=0 then 0 else nv a % nv b)),.bool (decide (nv b≠0))]:=by
 refine Af (32*a.length+1) (AgR _ _ _) (Aa (Mg b (by omega)) ?_)
 simp only[Ag,Bx,Ali,Cc]
 refine Ae (fun h=>Ac ?_) (fun h=> ?_)
 · have h0:nv b=0:=F_.1 (by omega)
   simp[h0,Cs,dL]
 · have h0:nv b≠0:=fun hh=>h (by rw[hh,Cs];rfl)
   rw[decide_eq_true h0,if_neg h0]
   have key:=H_ (P:=Tryz.prog) (md:=md) (fun m k (s:Nat×Nat)=>Rc (32*a.length+1) m (dL a) (dL b) (dL (lb s.1)) (dL (lb s.2)) ((k:Int)-1)) (fun _ _=>[dL (lb (nv a / nv b)),dL (lb (nv a % nv b)),.bool true])
    (fun k s=>k≤320000∧nv a / 2 ^ k=nv b*s.1+s.2∧s.2<nv b)
    (fun m s ⟨_,h1,h2⟩=>by
     simp only[TY]
     refine Aq (Ac ?_)
     simp only[Nat.pow_zero,Nat.div_one]at h1
     rw[h1,Nat.mul_add_div (Nat.pos_of_ne_zero h0),Nat.div_eq_of_lt h2,Nat.mul_add_mod,Al_ h2];simp)
    (fun m k s ⟨hk,h1,h2⟩ ih=>by
     simp only[TY,show ((k+1:Nat):Int)-1=(k:Int) by omega]
     have hr:(lb s.2).length≤b.length:=Ay.2 (Nat.lt_trans h2 (B6 b))
     have hq:(lb s.1).length≤a.length:=by
       refine Ay.2 (Nat.lt_of_le_of_lt ?_ (B6 a))
       have h3:nv a / 2 ^ (k+1)≤nv a:=Nat.div_le_self _ _
       have h4:=Nat.le_mul_of_pos_left s.1 (Nat.pos_of_ne_zero h0)
       omega
     have hbit:nv a / 2 ^ k % 2≤1:=by omega
     have hdec:nv a / 2 ^ k=2*(nv a / 2 ^ (k+1))+nv a / 2 ^ k % 2:=by
       rw[Amk,← Nat.div_div_eq_div_mul];omega
     generalize hbt:nv a / 2 ^ k % 2=bt at *
     have hlen2:(lb (2*s.2+bt)).length≤b.length+1:=by
       refine Ay.2 ?_
       have:=B6 b
       rw[Amk,Aw];rw[Aw]at this;omega
     have sp1:=AgO a k (by omega)
     rw[hbt]at sp1
     refine Ad (Aa sp1 ?_)
     simp only[Ag,Ak]
     refine Aa (GE (lb s.2) bt hbit (by omega)) ?_
     simp only[Ag,Bn]
     refine Aa (GC (lb (2*s.2+bt)) b (by omega) (by omega)) ?_
     simp only[Ag,Cl,Az,Bn]
     refine Ae (fun h3=> ?_) (fun h3=> ?_)
     · refine Aa (GE (lb s.1) 1 (by omega) (by omega)) ?_
       simp only[Ag,Bn]
       rw[As (by omega) (by omega)]
       refine ih (2*s.1+1,2*s.2+bt-nv b) ⟨by omega,?_,by simp only;omega⟩
       simp only
       rw[hdec,h1,Nat.mul_add,Nat.mul_add,Nat.mul_left_comm];omega
     · refine Aa (GE (lb s.1) 0 (by omega) (by omega)) ?_
       simp only[Ag,Bn]
       rw[As (by omega) (by omega)]
       refine ih (2*s.1+0,2*s.2+bt) ⟨by omega,?_,by simp only;omega⟩
       simp only
       rw[hdec,h1,Nat.mul_add,Nat.add_zero,Nat.mul_left_comm];omega)
    (32*a.length+1) (32*a.length) (0,0) (by omega) ⟨by omega,by
     rw[← IW,Nat.div_eq_of_lt (B6 a)];rfl,Nat.pos_of_ne_zero h0⟩
   rw[As (x:=32*(a.length:Int)) (by omega) (by omega),As (by omega) (by omega)]
   simp only[Cs]at key
   exact key
theorem AgS(a b:List Ao)(ha:a.length≤1000)(hb:b.length≤1000):Sp 243 [dL a,dL b] [dL (lb (Nat.gcd (nv a) (nv b)))]:=by
 obtain ⟨K,hK⟩ : ∃ K,K=1000:=⟨_,rfl⟩
 obtain ⟨J,hJ⟩ : ∃ J,J=32000:=⟨_,rfl⟩
 refine Af 100001 (AgT _ _ _) (Aa (Mg a (by omega)) (Aa (Mg b (by omega)) ?_))
 simp only[Ag]
 have key : ∀ (j k m x y:Nat),(lb x).length≤K→(lb y).length≤K→y<2 ^ j→k+2*j+2≤99000→2*j+1<m→Tw (Mf 100001 m (dL (lb x)) (dL (lb y)) (k:Int)) [dL (lb (Nat.gcd x y))]:=by
  intro j
  induction j with
  | zero =>
   intro k m x y _ _ hy hk hm
   obtain ⟨m,rfl⟩ : ∃ m',m=m'+1:=⟨m-1,by omega⟩
   have:y=0:=by simpa using hy
   subst this
   simp only[GA,Bx,Ali,Cs,Alz]
   refine Ad (Aq (Ac ?_))
   rw[Nat.gcd_zero_right]
  | succ j ih =>
   intro k m x y hx hy hlt hk hm
   have stop : ∀ (k m x:Nat),k<100000→0<m→Tw (Mf 100001 m (dL (lb x)) (dL (lb 0)) (k:Int)) [dL (lb (Nat.gcd x 0))]:=by
     intro k m x hk hm
     obtain ⟨m,rfl⟩ : ∃ m',m=m'+1:=⟨m-1,by omega⟩
     simp only[GA,Bx,Ali,Cs,Alz]
     refine Ad (Aq (Ac ?_))
     rw[Nat.gcd_zero_right]
   have step : ∀ (k m x y:Nat),k<100000→(lb x).length≤K→(lb y).length≤K→y≠0→Tw (Mf 100001 m (dL (lb y)) (dL (lb (x % y))) ((k+1:Nat):Int)) [dL (lb (Nat.gcd y (x % y)))]→Tw (Mf 100001 (m+1) (dL (lb x)) (dL (lb y)) (k:Int)) [dL (lb (Nat.gcd x y))]:=by
     intro k m x y hk hx hy h0 hw
     simp only[Tw,GA,Bx,Ali]
     have hne:(lb y).length≠0:=fun hh=>h0 (F_.1 hh)
     have sp:=FZ (lb x) (lb y) (by omega) (by omega)
     rw[Bn,Bn,if_neg h0]at sp
     refine Ad (Ad (Aa sp ?_))
     simp only[Cl]
     rw[Fo (by omega),Nat.gcd_comm x y,Nat.gcd_rec,Nat.gcd_comm]
     exact hw
   by_cases h0:y=0
   · subst h0;exact stop k m x (by omega) (by omega)
   · obtain ⟨m,rfl⟩ : ∃ m',m=m'+2:=⟨m-2,by omega⟩
     have hl1:(lb (x % y)).length≤K:=Ay.2 (Nat.lt_of_le_of_lt (Nat.le_of_lt (Al9 x (Nat.pos_of_ne_zero h0))) (Ay.1 hy))
     refine step k (m+1) x y (by omega) hx hy h0 ?_
     by_cases h1:x % y=0
     · rw[h1];exact stop (k+1) (m+1) y (by omega) (by omega)
     · refine step (k+1) m y (x % y) (by omega) hy hl1 h1 ?_
       have hh:=AdF h0 h1
       refine ih (k+1+1) m (x % y) (y % (x % y)) hl1 (Ay.2 (Nat.lt_trans (Al9 y (Nat.pos_of_ne_zero h1)) (Ay.1 hl1))) ?_ (by omega) (by omega)
       rw[Amk]at hlt;omega
 have h1:(lb (nv a)).length≤K:=Nat.le_trans (Ay.2 (B6 a)) (by omega)
 have h2:(lb (nv b)).length≤K:=Nat.le_trans (Ay.2 (B6 b)) (by omega)
 have hlt:nv b<2 ^ J:=by
  refine Ame (B6 b) ?_
  rw[IW]
  exact Nat.pow_le_pow_right (by decide) (by omega)
 exact key J 0 100001 _ _ h1 h2 hlt (by omega) (by omega)
theorem Ty{α:Type} [DecidableEq α] {P:Program}{md:Nat→FMode}(f:α→D)(hf : ∀ x y,(f x).toInt=(f y).toInt→x=y)(a b:List α)(hlen:a.length=b.length)(hbig:a.length≤9223372036854775807)(L:Nat→Int→Tree)
  (hL : ∀ m i,L (m+1) i = .br (decide (i<((a.map f).length:Int))) (.br (decide (0≤i)) (.br (decide (i<((a.map f).length:Int))) (.br (decide (0≤i)) (.br (decide (i<((b.map f).length:Int)))
   (.br ((((a.map f).getD (Alf i) D.nil).toInt)!=(((b.map f).getD (Alf i) D.nil).toInt)) (.ret [D.bool false]) (L m (Ale .i64 (i+1)))) .fail) .fail) .fail) .fail) (.ret [D.bool true])) :
  (L (a.length+1) 0).wp P md (fun zs=>zs = [.bool (decide (a=b))]):=by
 have key:=Vj (P:=P) (md:=md) a.length (fun m k (_:Unit)=>L m (k:Int)) (fun _ _=>[.bool (decide (a=b))]) (fun k _=>a.take k=b.take k)
  (fun m s h=>by
   simp only[hL,Ali]
   refine Aq (Ac ?_)
   rw[Amb (Als _),Amb (by omega)]at h
   rw[decide_eq_true h])
  (fun m k s hk h ih=>by
   have ha:a[k]? = some a[k]:=Alg _
   have hb:b[k]? = some (b[k]'(by omega)):=Alg _
   simp only[hL,Ali,Aln,Ar ha,Ar hb,Cu]
   refine Ad (Ad (Ad (Ad (Ad (Ae (fun hne=>Ac ?_) (fun heq=> ?_))))))
   · rw[decide_eq_false]
     rintro rfl
     exact hne rfl
   · rw[Fo (by omega)]
     refine ih () ?_
     have:a[k]=b[k]:=hf _ _ (Alt.1 heq)
     rw[List.take_succ_eq_append_getElem hk,List.take_succ_eq_append_getElem (by omega),h,this])
  (a.length+1) 0 () (by omega) (by omega) (by simp)
 exact key
theorem LI{k:Nat}(x y:BitVec k)(h:(dB x).toInt=(dB y).toInt):x=y:=BitVec.eq_of_toNat_eq (Int.ofNat.inj h)
theorem LP(x y:Int)(h:(D.int x).toInt=(D.int y).toInt):x=y:=h
theorem UA(a b:List Ao)(ha:a.length≤9223372036854775807):Sp 211 [dL a,dL b] [.bool (decide (a=b))]:=by
 refine Af (a.length+1) (AgW _ _ _) ?_
 simp only[Bx,Ali,Cu]
 refine Ae (fun h=>Ac ?_) (fun h=> ?_)
 · rw[decide_eq_false];rintro rfl;exact h rfl
 · exact Ty dB LI a b (by omega) ha (fun m i=>Xl (a.length+1) m (dL a) (dL b) i) (fun m i=>AgV _ _ _ _ _)
structure Wh where
 neg:Bool
 mag:List Ao
def dW(w:Wh):D:= .agg [.bool w.neg,dL w.mag]
def zv(w:Wh):Int:=if w.neg then -(nv w.mag:Int) else (nv w.mag:Int)
def wz(z:Int):Wh:=⟨decide (z<0),lb z.natAbs⟩
@[simp] theorem E5 (w:Wh):(dW w).fld 0 = .bool w.neg:=rfl
@[simp] theorem Ep (w:Wh):(dW w).fld 1=dL w.mag:=rfl
theorem AbC(b:Bool)(l:List Ao):D.agg [.bool b,dL l]=dW ⟨b,l⟩:=rfl
theorem Tl:D.agg [.bool false,.sl []]=dW (wz 0):=by simp[dW,wz,Cs,dL]
theorem Kh(w:Wh):(zv w).natAbs=nv w.mag:=by unfold zv;split <;> omega
theorem G_(w:Wh):(lb (zv w).natAbs).length≤w.mag.length:=by rw[Kh];exact Ay.2 (B6 _)
theorem Cw(z:Int):zv (wz z)=z:=by
 unfold zv wz
 simp only[Bn,decide_eq_true_eq]
 split <;> omega
theorem Sj(b:Bool)(n:Nat):zv ⟨b,lb n⟩=if b then -(n:Int) else (n:Int):=by simp only[zv,Bn]
theorem AkW:wz 0=⟨false,[]⟩:=by simp[wz,Cs]
theorem Aaa(b:Bool){n:Nat}(h:n≠0):wz (if b then -(n:Int) else (n:Int))=⟨b,lb n⟩:=by
 cases b <;> simp[wz] <;> omega
theorem Aab(w:Wh):wz (zv w)=if nv w.mag=0 then ⟨false,[]⟩ else ⟨w.neg,lb (nv w.mag)⟩:=by
 split
 · rename_i h
   unfold zv;rw[h];simp[AkW]
 · rename_i h
   unfold zv
   exact Aaa _ h
theorem Pl(a b:Bool):(a == b)=decide (a=b):=by cases a <;> cases b <;> rfl
def Bc(z:Int):Prop:= -9223372036854775808≤z∧z≤9223372036854775807
instance (z:Int):Decidable (Bc z):=by unfold Bc;infer_instance
def Fl(z:Int):List D:=if Bc z then [.int z,.bool true] else [.int 0,.bool false]
def Fa(z:Int):Int:=if z<0 then -1 else if z=0 then 0 else 1
def Cg(x y:Int):Int:=if x<y then -1 else if x=y then 0 else 1
theorem Fv(w:Wh)(h:w.mag.length≤1000000):Sp 223 [dW w] [dW (wz (zv w))]:=by
 refine Af 0 (Ahg _ _) (Aa (Mg w.mag h) ?_)
 simp only[Ag,Bx,Ali,Cc,E5,Az]
 refine Ae (fun h=>Ac ?_) (fun h=>Ac ?_)
 · have h0:nv w.mag=0:=F_.1 (by omega)
   rw[Aab,if_pos h0];rfl
 · have h0:nv w.mag≠0:=fun hh=>h (by rw[hh,Cs];rfl)
   rw[Aab,if_neg h0];rfl
theorem R7{n:Nat}(h:n<18446744073709551616):nv [Al0 32 (n % 4294967296),Al0 32 (n / 4294967296)]=n:=by
 simp only[nv,EM]
 rw[ofNat_lt (by rw[Aw];omega),ofNat_lt (by rw[Aw];omega),Aw];omega
theorem GF(z:Int)(h:Bc z):Sp 225 [.int z] [dW (wz z)]:=by
 unfold Bc at h
 refine Af 0 (Ahh _ _) ?_
 simp only[Ak]
 refine Ae (fun h0=> ?_) (fun h0=> ?_)
 · obtain ⟨n,rfl⟩ : ∃ n:Nat,z=n:=⟨z.toNat,by omega⟩
   have e : [D.int (Ale .u32 (Int.tmod (n:Int) 4294967296)),D.int (Ale .u32 (Ale .i64 (Int.tdiv (n:Int) 4294967296)))] = [Al0 32 (n % 4294967296),Al0 32 (n / 4294967296)].map dB:=by
    rw[Int.tmod_eq_emod_of_nonneg (by omega),Int.tdiv_eq_ediv_of_nonneg (by omega),show (n:Int) % 4294967296=((n % 4294967296:Nat):Int) by omega,show (n:Int) / 4294967296=((n / 4294967296:Nat):Int) by omega,
     As (by omega) (by omega),Ey (by omega) (by omega),Ey (by omega) (by omega),D6 (by rw[Aw];omega),D6 (by rw[Aw];omega)];rfl
   rw[e]
   have hv:=R7 (n:=n) (by omega)
   refine Ax (by decide) (Ax (by decide) (Aa (Fv ⟨false,[Al0 32 (n % 4294967296),Al0 32 (n / 4294967296)]⟩ (by simp)) (Ac ?_)))
   simp only[Ag,zv,hv];rfl
 · obtain ⟨n,rfl⟩ : ∃ n:Nat,z = -1-(n:Int):=⟨(-1-z).toNat,by omega⟩
   have e : [D.int (Ale .u32 (Int.tmod (Ale .i64 (-1-(-1-(n:Int)))) 4294967296)),D.int (Ale .u32 (Ale .i64 (Int.tdiv (Ale .i64 (-1-(-1-(n:Int)))) 4294967296)))] = [Al0 32 (n % 4294967296),Al0 32 (n / 4294967296)].map dB:=by
    rw[show (-1:Int)-(-1-(n:Int))=(n:Int) by omega,As (x:=(n:Int)) (by omega) (by omega),Int.tmod_eq_emod_of_nonneg (by omega),Int.tdiv_eq_ediv_of_nonneg (by omega),show (n:Int) % 4294967296=((n % 4294967296:Nat):Int) by omega,show (n:Int) / 4294967296=((n / 4294967296:Nat):Int) by omega,
     As (by omega) (by omega),Ey (by omega) (by omega),Ey (by omega) (by omega),D6 (by rw[Aw];omega),D6 (by rw[Aw];omega)];rfl
   rw[e]
   have hv:=R7 (n:=n) (by omega)
   have sp:=TU [Al0 32 (n % 4294967296),Al0 32 (n / 4294967296)] [1] (by simp) (by simp)
   rw[hv,show nv [1]=1 from rfl]at sp
   refine Ax (by decide) (Ax (by decide) (Aa sp ?_))
   simp only[Ag]
   have hl:(lb (n+1)).length≤3:=Ay.2 (by show n+1<79228162514264337593543950336;omega)
   refine Aa (Fv ⟨true,lb (n+1)⟩ (by simp only;omega)) (Ac ?_)
   simp only[Ag,Sj,if_true]
   rw[show -((n+1:Nat):Int) = -1-(n:Int) by omega]
theorem Ahe(w:Wh)(h:w.mag.length≤1000000):Sp 309 [dW w] [dW (wz (-zv w))]:=by
 refine Af 0 (Ahf _ _) ?_
 simp only[E5,Ep,Az]
 refine Aa (Fv ⟨!w.neg,w.mag⟩ h) (Ac ?_)
 simp only[Ag]
 rw[show zv ⟨!w.neg,w.mag⟩ = -zv w by unfold zv;cases w.neg <;> simp]
theorem Ahb(a b:Wh)(ha:a.mag.length≤10000)(hb:b.mag.length≤10000):Sp 308 [dW a,dW b] [dW (wz (zv a+zv b))]:=by
 refine Af 0 (Ahc _ _ _) (Aa (Fv a (by omega)) (Aa (Fv b (by omega)) ?_))
 have la:=G_ a
 have lb':=G_ b
 generalize zv a=x at *
 generalize zv b=y at *
 simp only[Ag,E5,Ep,Az,Pl,wz]
 have hadd:(lb (x.natAbs+y.natAbs)).length≤10001:=by
   refine Ay.2 ?_
   have h1:=Ay.1 (Nat.le_trans la ha)
   have h2:=Ay.1 (Nat.le_trans lb' hb)
   obtain ⟨K,hK⟩ : ∃ K,K=10000:=⟨_,rfl⟩
   rw[← hK]at h1 h2
   rw[show 10001=K+1 by omega,Amk,Aw]
   rw[Aw]at h1 h2
   omega
 have hsub : ∀ p q:Nat,(lb p).length≤10000→(lb (p-q)).length≤10000:=fun p q hp=>by
   obtain ⟨K,hK⟩ : ∃ K,K=10000:=⟨_,rfl⟩
   rw[← hK]at hp ⊢
   exact Ay.2 (Nat.lt_of_le_of_lt (Nat.sub_le _ _) (Ay.1 hp))
 refine Ae (fun h=> ?_) (fun h=> ?_)
 · have sp:=TU (lb x.natAbs) (lb y.natAbs) (by omega) (by omega)
   rw[Bn,Bn]at sp
   refine Aa sp ?_
   simp only[Ag]
   refine Aa (Fv ⟨decide (x<0),lb (x.natAbs+y.natAbs)⟩ (by simp only;omega)) (Ac ?_)
   simp only[Ag,Sj]
   have h':x<0↔y<0:=by simpa using h
   congr 2
   rw[show (if decide (x<0)=true then -((x.natAbs+y.natAbs:Nat):Int) else ((x.natAbs+y.natAbs:Nat):Int))=x+y by
     by_cases hx:x<0 <;> simp[hx] <;> omega]
   rfl
 · have h' : ¬ (x<0↔y<0):=by simpa using h
   have sp:=TX (lb x.natAbs) (lb y.natAbs) (by omega) (by omega)
   rw[Bn,Bn]at sp
   refine Aa sp ?_
   simp only[Ag,Ak,Dj]
   refine Ae (fun h2=> ?_) (fun h2=> ?_)
   · have sp:=GC (lb x.natAbs) (lb y.natAbs) (by omega) (by omega)
     rw[Bn,Bn]at sp
     refine Aa sp ?_
     simp only[Ag]
     refine Aa (Fv ⟨decide (x<0),lb (x.natAbs-y.natAbs)⟩ (by simp only;have:=hsub x.natAbs y.natAbs (by omega);omega)) (Ac ?_)
     simp only[Ag,Sj]
     have hge:y.natAbs≤x.natAbs:=by split at h2 <;> omega
     rw[show (if decide (x<0)=true then -((x.natAbs-y.natAbs:Nat):Int) else ((x.natAbs-y.natAbs:Nat):Int))=x+y by
      by_cases hx:x<0 <;> simp[hx] <;> omega]
     rfl
   · have sp:=GC (lb y.natAbs) (lb x.natAbs) (by omega) (by omega)
     rw[Bn,Bn]at sp
     refine Aa sp ?_
     simp only[Ag]
     refine Aa (Fv ⟨decide (y<0),lb (y.natAbs-x.natAbs)⟩ (by simp only;have:=hsub y.natAbs x.natAbs (by omega);omega)) (Ac ?_)
     simp only[Ag,Sj]
     have hge:x.natAbs<y.natAbs:=by
      rcases Nat.lt_or_ge x.natAbs y.natAbs with h3 | h3
      · exact h3
      · rw[if_neg (by omega)]at h2;split at h2 <;> omega
     rw[show (if decide (y<0)=true then -((y.natAbs-x.natAbs:Nat):Int) else ((y.natAbs-x.natAbs:Nat):Int))=x+y by
      by_cases hx:y<0 <;> simp[hx] <;> omega]
     rfl
theorem Ahm(a b:Wh)(ha:a.mag.length≤10000)(hb:b.mag.length≤10000):Sp 267 [dW a,dW b] [dW (wz (zv a-zv b))]:=by
 refine Af 0 (Ahn _ _ _) (Aa (Ahe b (by omega)) ?_)
 simp only[Ag]
 have:=G_ b
 refine Aa (Ahb a (wz (-zv b)) ha (by simp only[wz,Int.natAbs_neg];omega)) (Ac ?_)
 simp only[Ag,Cw,← Int.sub_eq_add_neg]
theorem Ahi(a:Wh)(ha:a.mag.length≤1000000):Sp 266 [dW a] [.int (Fa (zv a))]:=by
 refine Af 0 (Ahj _ _) (Aa (Fv a ha) ?_)
 generalize zv a=x
 simp only[Ag,E5,Ep,Bx,Ali,Cc,Az,wz]
 have h0:((lb x.natAbs).length:Int)=0↔x=0:=by rw[Int.natCast_eq_zero,F_];omega
 unfold Fa
 refine Ae (fun h=>Ac ?_) (fun h=>Ae (fun h2=>Ac ?_) (fun h2=>Ac ?_))
 · rw[if_neg (by have:=h0.1 h;omega),if_pos (h0.1 h)]
 · rw[if_pos h2]
 · rw[if_neg h2,if_neg (fun hh=>h (h0.2 hh))]
theorem AjO{a b:Wh}{k:Nat}(ha:a.mag.length≤k)(hb:b.mag.length≤k):(wz (zv a-zv b)).mag.length≤k+1:=by
 simp only[wz]
 refine Ay.2 ?_
 have h1:=Ay.1 (Nat.le_trans (G_ a) ha)
 have h2:=Ay.1 (Nat.le_trans (G_ b) hb)
 rw[Amk,Aw]
 rw[Aw]at h1 h2
 omega
theorem UD(a b:Wh)(ha:a.mag.length≤10000)(hb:b.mag.length≤10000):Sp 224 [dW a,dW b] [.int (Cg (zv a) (zv b))]:=by
 refine Af 0 (Ahd _ _ _) (Aa (Ahm a b ha hb) ?_)
 simp only[Ag]
 have:=AjO ha hb
 refine Aa (Ahi _ (by omega)) (Ac ?_)
 simp only[Ag,Ak,Cw]
 congr 2
 unfold Fa Cg
 split <;> split <;> first | rfl | omega | (split <;> split <;> first | rfl | omega) | (split <;> first | rfl | omega)
theorem Ahk(a:Wh)(ha:a.mag.length≤10000):Sp 163 [dW a] (Fl (zv a)):=by
 refine Af 10 (Ahl _ _) (Aa (Fv a (by omega)) ?_)
 generalize zv a=z
 simp only[Ag,E5,Ep,Bx,Ali]
 refine Ae (fun h=>Ac ?_) (fun h=> ?_)
 · have : ¬ (lb z.natAbs).length≤2:=by simp only[wz]at h;omega
   rw[Ay]at this
   have : ¬ Bc z:=by
     intro hr
     apply this
     unfold Bc at hr
     show z.natAbs<18446744073709551616
     omega
   rw[Fl,if_neg this]
 · have hl:(wz z).mag.length≤2:=by omega
   have hof : ∀ y,Bc y→(wz y).mag.length≤2:=fun y hy=>Ay.2 (by unfold Bc at hy;show y.natAbs<18446744073709551616;omega)
   have r1:Bc 9223372036854775807:=by decide
   have r2:Bc (-9223372036854775808):=by decide
   refine Aa (GF _ r1) (Aa (UD (wz z) (wz 9223372036854775807) (by omega) (by have:=hof _ r1;omega)) ?_)
   simp only[Ag,Ak,Cw,Cg]
   refine Ae (fun h2=>Ac ?_) (fun h2=> ?_)
   · rw[Fl,if_neg]
     unfold Bc
     split at h2
     · omega
     · split at h2 <;> omega
   · refine Aa (GF _ r2) (Aa (UD (wz z) (wz (-9223372036854775808)) (by omega) (by have:=hof _ r2;omega)) ?_)
     simp only[Ag,Ak,Cw,Cg]
     refine Ae (fun h3=>Ac ?_) (fun h3=> ?_)
     · rw[Fl,if_neg]
       unfold Bc
       split at h3
       · omega
       · split at h3 <;> omega
     · have hz:Bc z:=by
        unfold Bc
        constructor
        · split at h3 <;> omega
        · split at h2
          · omega
          · split at h2 <;> omega
       rw[Fl,if_pos hz]
       have key:=H_ (P:=Tryz.prog) (md:=md) (fun m k (x:Int)=>Rf 10 m x ((k:Int)-1) (dW (wz z))) (fun _ _=>[.int z,.bool true])
        (fun k x=>k≤(wz z).mag.length∧x=if z<0 then -((z.natAbs / B ^ k:Nat):Int) else ((z.natAbs / B ^ k:Nat):Int))
        (fun m x ⟨_,hx⟩=>by
          simp only[UE]
          refine Aq (Ac ?_)
          rw[hx]
          simp only[Nat.pow_zero,Nat.div_one]
          congr 2
          split <;> omega)
        (fun m k x ⟨hk,hx⟩ ih=>by
          have hk':k<(lb z.natAbs).length:=hk
          have hg:(lb z.natAbs)[k]? = some (lb z.natAbs)[k]:=Alg _
          simp only[UE,show ((k+1:Nat):Int)-1=(k:Int) by omega,E5,Ep,Bx,Ali,Az,Aln]
          have e1:(wz z).mag=lb z.natAbs:=rfl
          have e2:(wz z).neg=decide (z<0):=rfl
          rw[e1,e2,Ar hg,D5,Ds,Bn]
          have hd:=Nat.mod_add_div (z.natAbs / B ^ k) B
          rw[Nat.div_div_eq_div_mul,← Amk]at hd
          have hle:z.natAbs / B ^ k≤z.natAbs:=Nat.div_le_self _ _
          have hm:=Al9 (z.natAbs / B ^ k) Bu
          unfold Bc at hz
          have ih':=ih (if z<0 then -((z.natAbs / B ^ k:Nat):Int) else ((z.natAbs / B ^ k:Nat):Int)) ⟨by omega,rfl⟩
          generalize z.natAbs / B ^ k=p at *
          generalize z.natAbs / B ^ (k+1)=q at *
          generalize p % B=r at *
          rw[Aw]at hd hm
          refine Ad (Ae (fun hn=> ?_) (fun hn=> ?_))
          · rw[if_pos hn]at hx ih'
            refine Ad (Ad ?_)
            rw[hx,As (x:= -(q:Int)*4294967296) (by omega) (by omega),As (x:=(r:Int)) (by omega) (by omega),As (x:= -(q:Int)*4294967296-r) (by omega) (by omega),As (by omega) (by omega),show -(q:Int)*4294967296-(r:Int) = -(p:Int) by omega]
            exact ih'
          · rw[if_neg hn]at hx ih'
            refine Ad (Ad ?_)
            rw[hx,As (x:=(q:Int)*4294967296) (by omega) (by omega),As (x:=(r:Int)) (by omega) (by omega),As (x:=(q:Int)*4294967296+r) (by omega) (by omega),As (by omega) (by omega),show (q:Int)*4294967296+(r:Int)=(p:Int) by omega]
            exact ih')
        10 (wz z).mag.length 0 (by omega) ⟨Als _,by
          have:z.natAbs / B ^ (wz z).mag.length=0:=Nat.div_eq_of_lt (Ay.1 (Als _))
          rw[this];simp⟩
       rw[As (by omega) (by omega)]
       exact key
theorem E9(l:List Ao)(hl:l.length<9223372036854775807):Sp 321 [dL l] [dL (lb (nv l))]:=by
 refine Af (l.length+1) (Aey _ _) ?_
 have:=H_ (P:=Tryz.prog) (md:=md) (fun m k (_:Unit)=>Wc (l.length+1) m (dL l) (k:Int)) (fun _ _=>[dL (lb (nv l))]) (fun k _=>k≤l.length∧∀ i,k≤i→(hi:i<l.length)→l[i]=0)
  (fun m s ⟨h1,h2⟩=>by
   simp only[QD,Bx,Ali,Alw]
   refine Aq (Ad (Ad (Ad (Ac ?_))))
   rw[Vh (k:=0) (by omega) h2 (fun _ h=>by omega),Tk];rfl)
  (fun m k s ⟨h1,h2⟩ ih=>by
   have hk:l[k]? = some l[k]:=Alg _
   simp only[QD,Bx,Ali,Alw,ZZ k (by omega),Aln,Ar hk,D5,Cc]
   refine Ad (Ad (Ad (Ae (fun h=> ?_) (fun h=> ?_))))
   · refine ih () ⟨by omega,fun i hi hlt=> ?_⟩
     by_cases he:i=k
     · subst he;exact BitVec.eq_of_toNat_eq (by simp;omega)
     · exact h2 i (by omega) hlt
   · refine Ad (Ad (Ad (Ac ?_)))
     rw[Vh (k:=k+1) (by omega) h2 (fun _ _ hc=>h (by have hc':l[k]=0:=hc;rw[hc'];rfl)),Tk])
  (l.length+1) l.length () (by omega) ⟨Als _,fun i h1 h2=>by omega⟩
 simpa using this
theorem Gz(l:List Ao)(hl:l.length≤1000000):Sp 299 [dL l] [dL (lb (nv l))]:=by
 refine Af 0 (Ael _ _) (Aa (E9 l (by omega)) ?_)
 have h1:(lb (nv l)).length≤l.length:=Ay.2 (B6 l)
 simp only[Ag,Bx,Ali,Amg,Aln]
 refine Ad (Ad (Av (by unfold Aj;omega) (Ac ?_)))
 rw[Amb (by simp),List.drop_eq_nil_of_le (by simp),Al2];rfl
theorem Ke(b:Bool)(n:Nat):Sp 298 [.bool b,dL (lb n)] [dW (wz (if b then -(n:Int) else (n:Int)))]:=by
 refine Af 0 (AkS _ _ _) ?_
 simp only[Bx,Ali,Cc,Az]
 refine Ae (fun h=>Ac ?_) (fun h=>Ac ?_)
 · have:n=0:=F_.1 (by omega)
   subst this
   simp[Tl]
 · have:n≠0:=fun hh=>h (by rw[hh,Cs];rfl)
   rw[Aaa _ this];rfl
theorem Z6(w:Wh)(h:w.mag.length≤1000000):Sp 269 [dW w] [dW (wz (zv w))]:=by
 refine Af 0 (AkK _ _) (Aa (Gz w.mag h) ?_)
 simp only[Ag,E5,Az]
 exact Aa (Ke w.neg (nv w.mag)) (Ac rfl)
theorem Ni(x:Nat):Al8 (x:Int) (2 ^ (min (Alf 32) (Alq .u64)))=((x / 4294967296:Nat):Int):=by
 show Al8 (x:Int) 4294967296=_
 rw[Int.fdiv_eq_ediv_of_nonneg _ (by omega)];omega
theorem Ak1{z:Int}(h:z<0)(h2 : -9223372036854775808≤z):Ale .u64 (0-Ale .u64 z) = -z:=by
 rw[IntKind.wrap_u64,IntKind.wrap_u64];omega
theorem Se(z:Int)(h:Bc z):Sp 246 [.int z] [dW (wz z)]:=by
 unfold Bc at h
 refine Af 0 (AkL _ _) ?_
 simp only[Ak]
 have main : ∀ n:Nat,n<18446744073709551616→[D.int (Ale .u32 (n:Int)),D.int (Ale .u32 (Al8 (n:Int) (2 ^ (min (Alf 32) (Alq .u64)))))] = [Al0 32 (n % 4294967296),Al0 32 (n / 4294967296)].map dB:=by
   intro n hn
   rw[Ni,Ey (x:=((n / 4294967296:Nat):Int)) (by omega) (by omega),D6 (t:=n / 4294967296) (by rw[Aw];omega),show Ale .u32 (n:Int)=((n % 4294967296:Nat):Int) by rw[IntKind.wrap_u32];omega,D6 (t:=n % 4294967296) (by rw[Aw];omega)];rfl
 refine Ae (fun h0=> ?_) (fun h0=> ?_)
 · obtain ⟨n,hn⟩ : ∃ n:Nat,-z=n:=⟨(-z).toNat,by omega⟩
   rw[Ak1 h0 h.1,hn,main n (by omega)]
   simp only[h0,decide_true]
   have sp:=Gz [Al0 32 (n % 4294967296),Al0 32 (n / 4294967296)] (by simp)
   rw[R7 (by omega)]at sp
   refine Ad (Aa sp ?_)
   simp only[Ag]
   refine Aa (Ke true n) (Ac ?_)
   simp only[Ag,if_true]
   rw[show -(n:Int)=z by omega]
 · obtain ⟨n,rfl⟩ : ∃ n:Nat,z=n:=⟨z.toNat,by omega⟩
   rw[Bq (by omega) (by omega),main n (by omega)]
   simp only[h0,decide_false]
   have sp:=Gz [Al0 32 (n % 4294967296),Al0 32 (n / 4294967296)] (by simp)
   rw[R7 (by omega)]at sp
   refine Ad (Aa sp ?_)
   simp only[Ag]
   exact Aa (Ke false n) (Ac rfl)
theorem EY{x d:Nat}(hx:x<4294967296)(hd:d<4294967296):Bj .or .u64 (x:Int) ((d*4294967296:Nat):Int)=((x+d*4294967296:Nat):Int):=by
 have h:=EW (Al0 64 x) (Al0 64 (d*4294967296))
 rw[BitVec.toNat_or,BitVec.toNat_ofNat,BitVec.toNat_ofNat,Al_ (a:=x) (by omega),Al_ (a:=d*4294967296) (by omega)]at h
 rw[h]
 congr 1
 have:=Nat.two_pow_add_eq_or_of_lt (i:=32) (b:=x) (by omega) d
 rw[show 2 ^ 32*d=d*4294967296 by omega]at this
 rw[Nat.or_comm,← this];omega
theorem AkO(a:Wh)(ha:a.mag.length≤1000000):Sp 228 [dW a] (Fl (zv a)):=by
 refine Af 10 (AkP _ _) (Aa (Z6 a (by omega)) ?_)
 generalize zv a=z
 simp only[Ag,E5,Ep,Bx,Ali]
 refine Ae (fun h=>Ac ?_) (fun h=> ?_)
 · have : ¬ (lb z.natAbs).length≤2:=by simp only[wz]at h;omega
   rw[Ay]at this
   have : ¬ Bc z:=by
    intro hr
    apply this
    unfold Bc at hr
    show z.natAbs<18446744073709551616
    omega
   rw[Fl,if_neg this]
 · have hl:(lb z.natAbs).length≤2:=by simp only[wz]at h;omega
   have hlt:z.natAbs<18446744073709551616:=Ay.1 hl
   have fin : ∀ (m:Nat) (t:D) (k:Int),Tw (O9 10 (m+1) (z.natAbs:Int) t k k (dW (wz z))) (Fl z):=by
    intro m t k
    simp only[Tw,ZR,E5,Az,wz]
    refine Aq (Ae (fun hn=>Ae (fun h2=>Ac ?_) (fun h2=>Ac ?_)) (fun hn=>Ae (fun h2=>Ac ?_) (fun h2=>Ac ?_)))
    · rw[Fl,if_neg];unfold Bc;omega
    · rw[Fl,if_pos (by unfold Bc;omega),IntKind.wrap_u64,IntKind.wrap_i64]
      congr 2
      omega
    · rw[Fl,if_neg];unfold Bc;omega
    · rw[Fl,if_pos (by unfold Bc;omega),As (by omega) (by omega)]
      congr 2
      omega
   have one : ∀ (m:Nat) (l:List Ao) (t:Int) (k x:Nat) (d:Ao),k≤1→l[k]? = some d→(k:Int)<t→(k=0→x=0)→x<4294967296→Tw (O9 10 m ((x+d.toNat*4294967296 ^ k:Nat):Int) (dL l) t ((k+1:Nat):Int) (dW (wz z))) (Fl z)→Tw (O9 10 (m+1) (x:Int) (dL l) t (k:Int) (dW (wz z))) (Fl z):=by
    intro m l t k x d hk hd ht hx hx2 hw
    have hkl:k<l.length:=(Alj.1 hd).1
    have hdl:=Ed d
    rw[Aw]at hdl
    simp only[Tw,ZR,Bx,Ali,Aln,Ar hd,D5]
    rw[As (x:=32*(k:Int)) (by omega) (by omega),Bq (x:=32*(k:Int)) (by omega) (by omega),Bq (x:=(d.toNat:Int)) (by omega) (by omega),Fo (by omega)]
    refine Ad (Ad (Ad (Ad ?_)))
    have e:Bj .or .u64 (x:Int) (Ale .u64 ((d.toNat:Int)*2 ^ (min (Alf (32*(k:Int))) (Alq .u64))))=((x+d.toNat*4294967296 ^ k:Nat):Int):=by
      rcases (by omega:k=0∨k=1) with rfl | rfl
      · rw[hx rfl]
        show Bj .or .u64 ((0:Nat):Int) (Ale .u64 ((d.toNat:Int)*1))=_
        rw[Int.mul_one,Bq (by omega) (by omega)]
        have:=EW (0:A8) (Al0 64 d.toNat)
        rw[BitVec.toNat_or,BitVec.toNat_ofNat,Al_ (a:=d.toNat) (by omega)]at this
        simpa using this
      · show Bj .or .u64 (x:Int) (Ale .u64 ((d.toNat:Int)*4294967296))=_
        rw[show (d.toNat:Int)*4294967296=((d.toNat*4294967296:Nat):Int) by omega,Bq (by omega) (by omega),EY hx2 hdl]
        try simp
    rw[e]
    exact hw
   have hz0:z.natAbs=nv (lb z.natAbs):=(Bn _).symm
   simp only[show (wz z).mag=lb z.natAbs from rfl]
   generalize hll:lb z.natAbs=ll at *
   match ll,hl with
   | [],_ =>
    have:z.natAbs=0:=by simpa using hz0
    have hf:=fin 9 (dL []) 0
    rw[this]at hf
    exact hf
   | [d],_ =>
    have:z.natAbs=d.toNat:=by simpa [nv]using hz0
    refine one 9 [d] 1 0 0 d (by omega) rfl (by omega) (fun _=>rfl) (by omega) ?_
    have hf:=fin 8 (dL [d]) 1
    rw[this]at hf
    simpa using hf
   | [d,e],_ =>
    have:z.natAbs=d.toNat+e.toNat*4294967296:=by simp only[nv,EM]at hz0;rw[Aw]at hz0;omega
    have hdl:=Ed d
    rw[Aw]at hdl
    refine one 9 [d,e] 2 0 0 d (by omega) rfl (by omega) (fun _=>rfl) (by omega) ?_
    have:=one 8 [d,e] 2 1 d.toNat e (by omega) rfl (by omega) (fun h=>by omega) (by omega) (by
      have hf:=fin 7 (dL [d,e]) 2
      rw[this]at hf
      simpa using hf)
    simpa using this
def Bm(n:Num):Int:=zv ⟨n.neg,n.top⟩
def Bi(n:Num):Int:=(nv n.bot:Int)
def Cm(z:Int):Num:=⟨decide (z<0),lb z.natAbs,[1]⟩
def Kx:Option Int→List D
 | some z=>[.int z,.bool true]
 | none=>[.int 0,.bool false]
def K8(z:Int):Option Int:=if Bc z then some z else none
theorem YD(z:Int):Fl z=Kx (K8 z):=by unfold Fl K8;split <;> rfl
def Db(n:Num):Option Int:=if n.bot = [1] then K8 (Bm n) else none
def C1(p q:Int):Num×Int :=
 if q=0 then (.zero,3)
 else if 32<(lb (p.natAbs / Nat.gcd p.natAbs q.natAbs)).length∨32<(lb (q.natAbs / Nat.gcd p.natAbs q.natAbs)).length then (.zero,7)
 else (⟨decide (0<(lb (p.natAbs / Nat.gcd p.natAbs q.natAbs)).length)&& !(decide (p<0)==decide (q<0)),lb (p.natAbs / Nat.gcd p.natAbs q.natAbs),lb (q.natAbs / Nat.gcd p.natAbs q.natAbs)⟩,0)
def Ej(n:Num):Bool:=decide (n.top.length≤32∧n.bot.length≤32∧C1 (Bm n) (Bi n)=(n,0))
theorem H2:D.agg [.bool false,.sl [],.sl []]=dN .zero:=rfl
theorem AeW(l:List Ao):(l = [1])↔(l.length=1∧∀ h:0<l.length,l[0].toNat=1):=by
 constructor
 · rintro rfl;exact ⟨rfl,fun _=>rfl⟩
 · rintro ⟨h1,h2⟩
   match l,h1 with
   | [x],_=>have:=h2 (by simp);simp at this;exact congrArg (· :: []) (BitVec.eq_of_toNat_eq (by simpa using this))
theorem QY{P:Program}{md:Nat→FMode}(l:List Ao):(Tree.br (((l.map dB).length:Int)==1) (.br (decide (0≤(0:Int))) (.br (decide (0<((l.map dB).length:Int))) (.ret [D.bool ((((l.map dB).getD (Alf 0) D.nil).toInt)==1)]) .fail) .fail) (.ret [D.bool false])).wp P md (fun zs=>zs = [.bool (decide (l = [1]))]):=by
 simp only[Ali,Cc]
 refine Ae (fun h=>Ad (Ad (Ac ?_))) (fun h=>Ac ?_)
 · have hg:l[0]? = some (l[0]'(by omega)):=Alg _
   rw[show Alf 0=0 from rfl,Ar hg,D5]
   congr 2
   rw[decide_eq_decide,AeW]
   refine ⟨fun hh=>⟨by omega,fun _=>by omega⟩,fun hh=>by have:=hh.2 (by omega);omega⟩
 · rw[decide_eq_false];rintro rfl;exact h rfl
theorem Ahq(n:Num):Sp 162 [dN n] [.bool (decide (n.bot = [1]))]:=by
 refine Af 0 (Ahr _ _) ?_
 simp only[Ll,Bx]
 exact QY n.bot
theorem J6(l:List Ao):Sp 227 [dL l] [.bool (decide (l = [1]))]:=by
 refine Af 0 (AgA _ _) ?_
 simp only[Bx]
 exact QY l
theorem UG(n:Num)(h:n.top.length≤1000000):Sp 164 [dN n] [dW (wz (Bm n))]:=by
 refine Af 0 (Ah1 _ _) ?_
 simp only[Lk,Nc,Az]
 exact Aa (Fv ⟨n.neg,n.top⟩ h) (Ac rfl)
theorem Aho(n:Num)(h:n.bot.length≤1000000):Sp 210 [dN n] [dW (wz (Bi n))]:=by
 refine Af 0 (Ahp _ _) ?_
 simp only[Ll]
 exact Aa (Fv ⟨false,n.bot⟩ h) (Ac rfl)
theorem Ah2(w:Wh)(h:w.mag.length≤1000000):Sp 226 [dW w] [dN (Cm (zv w))]:=by
 refine Af 0 (Ah3 _ _) (Aa (Fv w h) (Ac rfl))
theorem Ahu(z:Int)(h:Bc z):Sp 165 [.int z] [dN (Cm z)]:=by
 refine Af 0 (Ahv _ _) (Aa (GF z h) ?_)
 have hl:(wz z).mag.length≤2:=Ay.2 (by unfold Bc at h;show z.natAbs<18446744073709551616;omega)
 refine Aa (Ah2 (wz z) (by omega)) (Ac ?_)
 rw[Cw];rfl
theorem Ahz(n:Num)(h:n.top.length≤10000):Sp 77 [dN n] (Kx (Db n)):=by
 refine Af 0 (Ah0 _ _) (Aa (Ahq n) ?_)
 simp only[Ag,Az,Eu]
 unfold Db
 refine Ae (fun h=>Ac ?_) (fun h0=> ?_)
 · rw[if_neg h];rfl
 · rw[if_pos (Alt.1 h0)]
   refine Aa (UG n (by omega)) ?_
   have hl:(wz (Bm n)).mag.length≤n.top.length:=G_ ⟨n.neg,n.top⟩
   refine Aa (Ahk (wz (Bm n)) (by omega)) ?_
   rw[Cw,YD]
   cases K8 (Bm n) <;> exact Ac rfl
theorem E_(n:Num):Sp 229 [dN n] [dW ⟨n.neg,n.top⟩]:=Af 0 (AgB _ _) (Ac rfl)
theorem W7(n:Num)(h:n.top.length≤1000000):Sp 166 [dN n] (Kx (Db n)):=by
 refine Af 0 (Ag6 _ _) (Aa (J6 n.bot) ?_)
 simp only[Ag,Az,Eu]
 unfold Db
 refine Ae (fun h=>Ac ?_) (fun h0=> ?_)
 · rw[if_neg h];rfl
 · rw[if_pos (Alt.1 h0)]
   refine Aa (E_ n) (Aa (AkO ⟨n.neg,n.top⟩ h) ?_)
   rw[YD,show zv ⟨n.neg,n.top⟩=Bm n from rfl]
   cases K8 (Bm n) <;> exact Ac rfl
def Lb(z:Int):Num:=if 32<(lb z.natAbs).length then .zero else Cm z
theorem W8(w:Wh)(h:w.mag.length≤1000000):Sp 245 [dW w] [dN (Lb (zv w))]:=by
 refine Af 0 (Ag8 _ _) (Aa (Z6 w h) ?_)
 simp only[Ag,E5,Ep,Bx,Ali,Az]
 unfold Lb
 refine Ae (fun h=>Ac ?_) (fun h=>Ac ?_)
 · rw[if_pos (by simp only[wz]at h;omega)];rfl
 · rw[if_neg (by simp only[wz]at h;omega)];rfl
theorem Kz(z:Int)(h:Bc z):Sp 212 [.int z] [dN (Cm z)]:=by
 refine Af 0 (Ag0 _ _) (Aa (Se z h) ?_)
 have hl:(wz z).mag.length≤2:=Ay.2 (by unfold Bc at h;show z.natAbs<18446744073709551616;omega)
 refine Aa (W8 (wz z) (by omega)) (Ac ?_)
 rw[Cw,Lb,if_neg (by simp only[wz]at hl;omega)];rfl
theorem EK(a b:Num):(a=b)↔(a.neg=b.neg∧a.top=b.top∧a.bot=b.bot):=by
 cases a;cases b;simp
theorem UF(a b:Num)(h1:a.top.length≤9223372036854775807)(h2:a.bot.length≤9223372036854775807):Sp 137 [dN a,dN b] [.bool (decide (a=b))]:=by
 refine Af 0 (Ahy _ _ _) ?_
 simp only[Lk,Nc,Ll,Az,Pl]
 refine Ae (fun e1=>Aa (UA a.top b.top h1) ?_) (fun e1=>Ac ?_)
 · simp only[Ag,Az]
   refine Ae (fun e2=>Aa (UA a.bot b.bot h2) (Ac ?_)) (fun e2=>Ac ?_)
   · simp only[Ag,Az]
     congr 2
     rw[decide_eq_decide,EK];simp[e1,e2]
   · rw[decide_eq_false];rintro rfl;exact e2 rfl
 · rw[decide_eq_false];rintro rfl;exact e1 rfl
theorem XP(a b:List Ao)(ha:a.length≤9223372036854775807):Sp 312 [dL a,dL b] [.bool (decide (a=b))]:=by
 refine Af (a.length+1) (Ajq _ _ _) ?_
 simp only[Bx,Ali,Cu]
 refine Ae (fun h=>Ac ?_) (fun h=> ?_)
 · rw[decide_eq_false];rintro rfl;exact h rfl
 · refine Ty dB LI a b (by omega) ha (fun m i=>Zf (a.length+1) m (dL a) (dL b) (a.length:Int) i) (fun m i=> ?_)
   rw[Ajp]
   simp only[Bx,Ali]
theorem XO(a b:List Int)(ha:a.length≤9223372036854775807):Sp 234 [dI a,dI b] [.bool (decide (a=b))]:=by
 refine Af (a.length+1) (Ajo _ _ _) ?_
 simp only[B0,Ali,Cu]
 refine Ae (fun h=>Ac ?_) (fun h=> ?_)
 · rw[decide_eq_false];rintro rfl;exact h rfl
 · refine Ty D.int LP a b (by omega) ha (fun m i=>Zd (a.length+1) m (dI a) (dI b) (a.length:Int) i) (fun m i=> ?_)
   rw[Ajn]
   simp only[B0,Ali]
theorem Ag3(a b:Num)(h1:a.top.length≤9223372036854775807)(h2:a.bot.length≤9223372036854775807):Sp 274 [dN a,dN b] [.bool (decide (a=b))]:=by
 refine Af 0 (Ag4 _ _ _) ?_
 simp only[Lk,Nc,Ll,Az,Pl]
 refine Ae (fun e1=>Aa (XP a.top b.top h1) ?_) (fun e1=>Ac ?_)
 · simp only[Ag,Az]
   refine Ae (fun e2=>Aa (XP a.bot b.bot h2) (Ac ?_)) (fun e2=>Ac ?_)
   · simp only[Ag,Az]
     congr 2
     rw[decide_eq_decide,EK];simp[e1,e2]
   · rw[decide_eq_false];rintro rfl;exact e2 rfl
 · rw[decide_eq_false];rintro rfl;exact e1 rfl
theorem Ahs(p q:Wh)(hp:p.mag.length≤1000)(hq:q.mag.length≤1000):Sp 209 [dW p,dW q] [dN (C1 (zv p) (zv q)).1,.int (C1 (zv p) (zv q)).2]:=by
 refine Af 0 (Aht _ _ _) (Aa (Fv p (by omega)) (Aa (Fv q (by omega)) ?_))
 have lp:=G_ p
 have lq:=G_ q
 generalize zv p=x at *
 generalize zv q=y at *
 simp only[Ag,E5,Ep,Bx,Ali,Az,Cc,wz]
 refine Ae (fun h=>Ac ?_) (fun h=> ?_)
 · have:y=0:=by have:=F_.1 (show (lb y.natAbs).length=0 by omega);omega
   unfold C1;rw[if_pos this];rfl
 · have hy:y≠0:=fun hh=>h (by rw[hh];simp[Cs])
   have sp:=AgS (lb x.natAbs) (lb y.natAbs) (by omega) (by omega)
   rw[Bn,Bn]at sp
   refine Aa sp ?_
   simp only[Ag]
   have hg:Nat.gcd x.natAbs y.natAbs≠0:=fun hh=>hy (by have:=(Nat.gcd_eq_zero_iff.1 hh).2;omega)
   have hgl:(lb (Nat.gcd x.natAbs y.natAbs)).length≤1000:=by
    refine Nat.le_trans ?_ (Nat.le_trans lq hq)
    refine Ay.2 (Nat.lt_of_le_of_lt (Nat.gcd_le_right _ (by omega)) (Ay.1 (Als _)))
   have sp1:=FZ (lb x.natAbs) (lb (Nat.gcd x.natAbs y.natAbs)) (by omega) (by omega)
   have sp2:=FZ (lb y.natAbs) (lb (Nat.gcd x.natAbs y.natAbs)) (by omega) (by omega)
   rw[Bn,Bn]at sp1 sp2
   refine Aa sp1 (Aa sp2 ?_)
   simp only[Ag,Bx,Ali]
   unfold C1
   rw[if_neg hy]
   refine Ae (fun h1=>Ac ?_) (fun h1=>Ae (fun h2=>Ac ?_) (fun h2=>Ae (fun h3=>Ac ?_) (fun h3=>Ac ?_)))
   · rw[if_pos (by omega)];rfl
   · rw[if_pos (by omega)];rfl
   · rw[if_neg (by omega),decide_eq_true (p:=0<(lb (x.natAbs / Nat.gcd x.natAbs y.natAbs)).length) (by omega),Bool.true_and];rfl
   · rw[if_neg (by omega),decide_eq_false (p:=0<(lb (x.natAbs / Nat.gcd x.natAbs y.natAbs)).length) (by omega),Bool.false_and];rfl
theorem Ahw(n:Num):Sp 133 [dN n] [.bool (Ej n)]:=by
 refine Af 0 (Ahx _ _) ?_
 simp only[Nc,Ll,Bx,Ali]
 unfold Ej
 refine Ae (fun h=>Ac ?_) (fun h=>Ae (fun h'=>Ac ?_) (fun h'=> ?_))
 · rw[decide_eq_false (by omega)]
 · rw[decide_eq_false (by omega)]
 · refine Aa (UG n (by omega)) (Aa (Aho n (by omega)) ?_)
   have l1:(wz (Bm n)).mag.length≤n.top.length:=G_ ⟨n.neg,n.top⟩
   have l2:(wz (Bi n)).mag.length≤n.bot.length:=G_ ⟨false,n.bot⟩
   refine Aa (Ahs (wz (Bm n)) (wz (Bi n)) (by omega) (by omega)) ?_
   simp only[Ag,Cl,Ak,Cc,Cw]
   generalize C1 (Bm n) (Bi n)=r
   refine Ae (fun h3=>Aa (UF n r.1 (by omega) (by omega)) (Ac ?_)) (fun h3=>Ac ?_)
   · simp only[Ag,Az]
     congr 2
     rw[decide_eq_decide]
     refine ⟨fun hh=>⟨by omega,by omega,by rw[hh];exact Prod.ext rfl h3⟩,fun hh=>by rw[hh.2.2]⟩
   · rw[decide_eq_false]
     rintro ⟨_,_,hh⟩
     exact h3 (by rw[hh])
def Xt:List (Nat×Orc):=[(2,⟨[(0,some 23),(1,none),(5,none)],[],[]⟩)]
noncomputable def Xs(n m2:Nat)(l0:D)(nn1 i5:Int):Tree :=
 lA (eA Xt n 23 [1,0,1,0,0]) (Al Xt 2) m2 ⟨(.d 23 l0:: .i .i64 nn1::uA 3++(.i .i64 i5::uA 12)),[],[],[],[]⟩
  (Ai 0 (An (jA Xt n 23 [1,1]) (rA 23 [23,3] [.tmp 4] [4])))
theorem UH(n m2:Nat)(l0:D)(nn1 i5:Int):Xs n (m2+1) l0 nn1 i5 =
 bK (i5<(l0.els.length:Int)) (kK (0≤i5) (kK (i5<(l0.els.length:Int)) (.br (((l0.els.getD (Alf i5) D.nil).toInt)==nn1) (.ret [D.bool true])
 (Xs n m2 l0 nn1 (Ale .i64 (i5+1))))))
 (.ret [D.bool false]):=by kernel_rfl
theorem Ah4(n:Nat)(l0 nn1:D):fA Xt n 23 [] [l0,nn1] =
 Xs n n l0 nn1.toInt 0:=by kernel_rfl
theorem Ah6(n:Nat)(c0:D):fA [] n 135 [] [c0] =
 bK (0≤c0.toInt) (bK (c0.toInt≤1114111) (bK (c0.toInt<55296) (.ret [D.bool true])
 (.ret [D.bool (decide (57343<c0.toInt))]))
 (.ret [D.bool false]))
 (.ret [D.bool false]):=by kernel_rfl
theorem AU : ∃ N:Nat,9223372036854775808<N:=⟨9223372036854775809,by decide⟩
def Bd:List Int→Int→Int
 | [],p=>p
 | x::xs,p=>if 2048<p*x then 0 else Bd xs (p*x)
def A0(l:List Int):Int×Int :=
 if 6<l.length then (0,7) else if l.any (fun x=>decide (x<0)) then (0,3) else if l.any (fun x=>decide (2048<x)) then (0,7)
 else if l.any (fun x=>decide (x=0)) then (0,0) else if Bd l 1=0 then (0,7) else (Bd l 1,0)
theorem FM{x y:Int}(h1:1≤x)(h2:x≤2048)(h3:1≤y)(h4:y≤2048):1≤x*y∧x*y≤4194304:=by
 constructor
 · have:=Int.mul_le_mul h1 h3 (by omega) (by omega);omega
 · have:=Int.mul_le_mul h2 h4 (by omega) (by omega);omega
theorem SS : ∀ (l:List Int) (p:Int),1≤p→p≤2048→(∀ x∈l,1≤x∧x≤2048)→0≤Bd l p∧Bd l p≤2048
 | [],p,h1,h2,_=>by simp only[Bd];omega
 | x::xs,p,h1,h2,h=>by
  simp only[Bd]
  have hx:=h x (by simp)
  have:=FM h1 h2 hx.1 hx.2
  split
  · omega
  · exact SS xs (p*x) this.1 (by omega) (fun y hy=>h y (by simp[hy]))
theorem Pg{l:List Int}{p:Int→Bool}(h : ¬ l.any p=true) : ∀ x∈l,p x=false:=fun x hx=>by
 cases hp:p x with
 | false=>rfl
 | true=>exact absurd (List.any_eq_true.2 ⟨x,hx,hp⟩) h
theorem Te{l:List Int}(h1 : ¬ l.any (fun x=>decide (x<0))=true)(h2 : ¬ l.any (fun x=>decide (2048<x))=true)(h3 : ¬ l.any (fun x=>decide (x=0))=true) : ∀ x∈l,1≤x∧x≤2048:=fun x hx=>by
 have a:=of_decide_eq_false (Pg h1 x hx)
 have b:=of_decide_eq_false (Pg h2 x hx)
 have c:=of_decide_eq_false (Pg h3 x hx)
 omega
theorem F1(l:List Int):0≤(A0 l).1∧(A0 l).1≤2048:=by
 unfold A0
 split
 · decide
 split
 · decide
 split
 · decide
 split
 · decide
 split
 · decide
 · rename_i h1 h2 h3 h4 _;exact SS l 1 (by decide) (by decide) (Te h2 h3 h4)
theorem Gl{l:List Int}(h:(A0 l).2=0):l.length≤6∧∀ x∈l,0≤x∧x≤2048:=by
 unfold A0 at h
 split at h
 · cases h
 split at h
 · cases h
 split at h
 · cases h
 · rename_i h1 h2 h3
   refine ⟨by omega,fun x hx=> ?_⟩
   have a:=of_decide_eq_false (Pg h2 x hx)
   have b:=of_decide_eq_false (Pg h3 x hx)
   omega
def Dq(p:Int→Bool):Nat→List Int→Int
 | _,[]=> -1
 | k,x::xs=>if p x then (k:Int) else Dq p (k+1) xs
def Jw(p:Int):List D:=if p=0 then [.int 0,.int 7] else [.int p,.int 0]
theorem Me(x:Int)(xs:List Int)(p:Int):Bd (x::xs) p=if 2048<p*x then 0 else Bd xs (p*x):=rfl
theorem AcD(p:Int→Bool)(k:Nat)(x:Int)(xs:List Int):Dq p k (x::xs)=if p x then (k:Int) else Dq p (k+1) xs:=rfl
theorem Ah7(N:Nat)(l:List Int)(hl:l.length<N)(hb:l.length≤6)(hx : ∀ x∈l,1≤x∧x≤2048):Tw (Rg N N (dI l) 1 0) (Jw (Bd l 1)):=by
 have key:=B1 l (fun m k (p:Int)=>Rg N m (dI l) p (k:Int)) (fun rest p=>Jw (Bd rest p)) (fun _ p=>1≤p∧p≤2048)
  (fun m k p hk hI=>by
   simp only[UI,B0,Ali]
   refine Aq (Ac ?_)
   show _=Jw p
   rw[Jw,if_neg (by omega)])
  (fun m k p x rest hd hI ih=>by
   obtain ⟨h1,h2,h3⟩:=Bv hd
   have hxx:=hx x (Alm h2)
   have hp:=FM hI.1 hI.2 hxx.1 hxx.2
   simp only[UI,B0,Ali,Aln,Ar h2,Ak,Bb k,As (x:=p*x) (by omega) (by omega)]
   repeat (refine Ad ?_)
   rw[Me]
   refine Ae (fun h=>Ac ?_) (fun h=> ?_)
   · rw[if_pos h];rfl
   · rw[if_neg h];exact ih _ ⟨hp.1,by omega⟩)
  N 0 1 (by omega) (by omega) (by decide)
 exact key
theorem Ah8(l:List Int):Sp 52 [dI l] [.int (A0 l).1,.int (A0 l).2]:=by
  refine Af (l.length+1) (Ah9 _ _) ?_
  simp only[B0,Ali]
  unfold A0
  refine Ae (fun h=>Ac ?_) (fun h=> ?_)
  · rw[if_pos (by omega)]
  · rw[if_neg (by omega)]
    have key:=B1 l (fun m k (s:Bool×Bool)=>K1 (l.length+1) m (dI l) s.1 s.2 (k:Int))
      (fun rest s=>if rest.any (fun x=>decide (x<0)) then [.int 0,.int 3] else if s.1||rest.any (fun x=>decide (2048<x)) then [.int 0,.int 7] else if s.2||rest.any (fun x=>decide (x=0)) then [.int 0,.int 0] else Jw (Bd l 1))
      (fun rest s=>(∀ x∈l,(0≤x∧(s.1=true∨x≤2048)∧(s.2=true∨x≠0))∨x∈rest))
      (fun m k s hk hI=>by
        simp only[UJ,B0,Ali]
        refine Aq (Ch (fun h1=>Ac ?_) (fun h1=>Ch (fun h2=>Ac ?_) (fun h2=> ?_)))
        · simp[h1]
        · simp[h1,h2]
        · simp only[h1,h2,List.any_nil,Bool.or_self,Bool.false_eq_true,if_false]
          refine Ah7 (l.length+1) l (by omega) (by omega) (fun x hx=> ?_)
          rcases hI x hx with ⟨a,b,c⟩ | b
          · rw[h1]at b;rw[h2]at c
            simp at b c
            omega
          · cases b)
      (fun m k s x rest hd hI ih=>by
        obtain ⟨h1,h2,h3⟩:=Bv hd
        simp only[UJ,B0,Ali,Aln,Ar h2,Ak,Bb k,Cc]
        repeat (refine Ad ?_)
        refine Ae (fun h=>Ac ?_) (fun h=> ?_)
        · simp[h]
        · have hih : ∀ s':Bool×Bool,s'=(s.1||decide (2048<x),s.2||decide (x=0))→Tw (K1 (l.length+1) m (dI l) s'.1 s'.2 ((k+1:Nat):Int)) (if (x::rest).any (fun x=>decide (x<0)) then [.int 0,.int 3] else if s.1||(x::rest).any (fun x=>decide (2048<x)) then [.int 0,.int 7] else if s.2||(x::rest).any (fun x=>decide (x=0)) then [.int 0,.int 0] else Jw (Bd l 1)):=fun s' hs'=>by
            have:=ih s' (fun y hy=>by
              subst hs'
              rcases hI y hy with ⟨a,b,c⟩ | b
              · refine .inl ⟨a,?_,?_⟩
                · rcases b with b | b
                  · left;simp[b]
                  · right;exact b
                · rcases c with b | b
                  · left;simp[b]
                  · right;exact b
              · rcases Alx.1 b with rfl | b
                · left
                  refine ⟨by omega,?_,?_⟩
                  · by_cases hh:2048<y
                    · left;simp[hh]
                    · right;omega
                  · by_cases hh:y=0
                    · left;simp[hh]
                    · right;exact hh
                · exact .inr b)
            subst hs'
            rw[List.any_cons,List.any_cons,List.any_cons,decide_eq_false h,Bool.false_or,← Bool.or_assoc,← Bool.or_assoc]
            exact this
          refine Ch (fun b1=>Ch (fun b2=> ?_) (fun b2=> ?_)) (fun b1=> ?_)
          · exact hih (true,true) (by simp[b1,b2])
          · repeat (refine Ad ?_)
            exact hih (true,decide (x=0)) (by simp[b1,b2])
          · repeat (refine Ad ?_)
            refine Ch (fun b2=> ?_) (fun b2=> ?_)
            · exact hih (decide (2048<x),true) (by simp[b1,b2])
            · repeat (refine Ad ?_)
              exact hih (decide (2048<x),decide (x=0)) (by simp[b1,b2]))
      (l.length+1) 0 (false,false) (by omega) (by omega) (fun x hx=> .inr hx)
    have e:(fun (c:Int×Int)=>[D.int c.1,D.int c.2]) (if l.any (fun x=>decide (x<0)) then (0,3) else if l.any (fun x=>decide (2048<x)) then (0,7)
      else if l.any (fun x=>decide (x=0)) then (0,0) else if Bd l 1=0 then (0,7) else (Bd l 1,0))=(if l.any (fun x=>decide (x<0)) then [.int 0,.int 3] else if false||l.any (fun x=>decide (2048<x)) then [.int 0,.int 7] else if false||l.any (fun x=>decide (x=0)) then [.int 0,.int 0] else Jw (Bd l 1)):=by
      simp only[Bool.false_or]
      split
      · rfl
      split
      · rfl
      split
      · rfl
      show _=Jw _
      unfold Jw
      split <;> rfl
    show Tw _ ((fun (c:Int×Int)=>[D.int c.1,D.int c.2]) _)
    rw[e]
    exact key
theorem U2(p:Int→Bool) : ∀ (l:List Int) (k:Nat),decide (0≤Dq p k l)=l.any p
 | [],k=>by simp[Dq]
 | x::xs,k=>by
  rw[AcD,List.any_cons]
  by_cases hp:p x=true
  · rw[if_pos hp];simp[hp]
  · rw[if_neg hp,U2 p xs (k+1)];simp[hp]
theorem HN(l:List Int)(v:Int)(hb:l.length≤9223372036854775807):Sp 74 [dI l,.int v] [.bool (l.any (fun x=>decide (x=v)))]:=by
 refine Af 0 (Ajk _ _ _) (Aa (ys:=[.int (Dq (fun x=>decide (x=v)) 0 l)]) ?_ (Ac ?_))
 · refine Af (l.length+1) (Aju _ _ _) ?_
   have key:=B1 l (fun m k (_:Unit)=>Zh (l.length+1) m (dI l) v (l.length:Int) (k:Int)) (fun rest _=>[.int (Dq (fun x=>decide (x=v)) (l.length-rest.length) rest)]) (fun _ _=>True)
    (fun m k p hk hI=>by
     simp only[XU]
     refine Aq (Ac ?_)
     simp[Dq])
    (fun m k p x rest hd hI ih=>by
     obtain ⟨h1,h2,h3⟩:=Bv hd
     have hle:=congrArg List.length hd;rw[Alu,All]at hle;have hk:l.length-(x::rest).length=k:=by rw[All];omega
     have hk':l.length-rest.length=k+1:=by omega
     simp only[XU,B0,Ali,Aln,Ar h2,Ak,Bb k,Cc]
     repeat (refine Ad ?_)
     simp only[Dq,hk]
     refine Ae (fun h=>Ac ?_) (fun h=> ?_)
     · simp[h]
     · have:=ih () trivial
       rw[hk']at this
       simpa [show ¬ x=v from fun e=>h e.symm]using this)
    (l.length+1) 0 () (by omega) (by omega) trivial
   simpa using key
 · exact congrArg (fun b=>[D.bool b]) (U2 _ l 0)
theorem Aag(x:Int):Sp 168 [.int x] [.bool (decide (x<0))]:=Af 0 (AiS _ _) (Ac rfl)
theorem Aah(x:Int):Sp 169 [.int x] [.bool (decide (2048<x))]:=Af 0 (AiT _ _) (Ac rfl)
theorem Aae(l:List Int)(hb:l.length≤6):Sp 167 [dI l,D.fn 168 [] []] [.bool (l.any (fun x=>decide (x<0)))]:=by
 refine Af 0 (Aji _ _) (Aa (ys:=[.int (Dq (fun x=>decide (x<0)) 0 l)]) ?_ (Ac ?_))
 · refine Af (l.length+1) (Ajs _ _) ?_
   have key:=B1 l (fun m k (_:Unit)=>Hs (l.length+1) m (dI l) (D.fn 168 [] []) (l.length:Int) (k:Int)) (fun rest _=>[.int (Dq (fun x=>decide (x<0)) (l.length-rest.length) rest)]) (fun _ _=>True)
    (fun m k p hk hI=>by
     simp only[XR]
     refine Aq (Ac ?_)
     simp[Dq])
    (fun m k p x rest hd hI ih=>by
     obtain ⟨h1,h2,h3⟩:=Bv hd
     have hle:=congrArg List.length hd;rw[Alu,All]at hle;have hk:l.length-(x::rest).length=k:=by rw[All];omega
     have hk':l.length-rest.length=k+1:=by omega
     simp only[XR,B0,Ali,Aln,Ar h2,Ak,Bb k,Gs,Gq,Gr,Al2]
     repeat (refine Ad ?_)
     refine Aa (Aag x) ?_
     simp only[Ag,Az,Dq,hk]
     refine Ae (fun h=>Ac ?_) (fun h=> ?_)
     · simp[h]
     · have:=ih () trivial
       rw[hk']at this
       simpa [h]using this)
    (l.length+1) 0 () (by omega) (by omega) trivial
   simpa using key
 · exact congrArg (fun b=>[D.bool b]) (U2 _ l 0)
theorem Aaf(l:List Int)(hb:l.length≤6):Sp 167 [dI l,D.fn 169 [] []] [.bool (l.any (fun x=>decide (2048<x)))]:=by
 refine Af 0 (Ajj _ _) (Aa (ys:=[.int (Dq (fun x=>decide (2048<x)) 0 l)]) ?_ (Ac ?_))
 · refine Af (l.length+1) (Ajt _ _) ?_
   have key:=B1 l (fun m k (_:Unit)=>Hs (l.length+1) m (dI l) (D.fn 169 [] []) (l.length:Int) (k:Int)) (fun rest _=>[.int (Dq (fun x=>decide (2048<x)) (l.length-rest.length) rest)]) (fun _ _=>True)
    (fun m k p hk hI=>by
     simp only[XS]
     refine Aq (Ac ?_)
     simp[Dq])
    (fun m k p x rest hd hI ih=>by
     obtain ⟨h1,h2,h3⟩:=Bv hd
     have hle:=congrArg List.length hd;rw[Alu,All]at hle;have hk:l.length-(x::rest).length=k:=by rw[All];omega
     have hk':l.length-rest.length=k+1:=by omega
     simp only[XS,B0,Ali,Aln,Ar h2,Ak,Bb k,Gs,Gq,Gr,Al2]
     repeat (refine Ad ?_)
     refine Aa (Aah x) ?_
     simp only[Ag,Az,Dq,hk]
     refine Ae (fun h=>Ac ?_) (fun h=> ?_)
     · simp[h]
     · have:=ih () trivial
       rw[hk']at this
       simpa [h]using this)
    (l.length+1) 0 () (by omega) (by omega) trivial
   simpa using key
 · exact congrArg (fun b=>[D.bool b]) (U2 _ l 0)
theorem AiX(l:List Int)(hb:l.length≤6)(hx : ∀ x∈l,1≤x∧x≤2048):Sp 170 [dI l] [.int (Bd l 1)]:=by
 refine Af (l.length+1) (XI _ _) ?_
 have key:=B1 l (fun m k (p:Int)=>Rt (l.length+1) m p (dI l) (l.length:Int) (k:Int)) (fun rest p=>[.int (Bd rest p)]) (fun _ p=>1≤p∧p≤2048)
  (fun m k p hk hI=>by
   simp only[Yw]
   exact Aq (Ac rfl))
  (fun m k p x rest hd hI ih=>by
   obtain ⟨h1,h2,h3⟩:=Bv hd
   have hxx:=hx x (Alm h2)
   have hp:=FM hI.1 hI.2 hxx.1 hxx.2
   simp only[Yw,B0,Ali,Aln,Ar h2,Ak,Bb k,As (x:=p*x) (by omega) (by omega)]
   repeat (refine Ad ?_)
   simp only[Bd]
   refine Ae (fun h=>Ac ?_) (fun h=> ?_)
   · rw[if_pos h]
   · rw[if_neg h];exact ih _ ⟨hp.1,by omega⟩)
  (l.length+1) 0 1 (by omega) (by omega) (by decide)
 simpa using key
theorem Mn(l:List Int):Sp 81 [dI l] [.int (A0 l).1,.int (A0 l).2]:=by
 refine Af 0 (AiU _ _) ?_
 simp only[B0,Ali]
 unfold A0
 refine Ae (fun h=>Ac ?_) (fun h=> ?_)
 · rw[if_pos (by omega)]
 · rw[if_neg (by omega)]
   refine Aa (Aae l (by omega)) ?_
   simp only[Ag,Az]
   refine Ch (fun h1=>Ac (by rw[if_pos h1])) (fun h1=> ?_)
   rw[if_neg (by simp[h1])]
   refine Aa (Aaf l (by omega)) ?_
   simp only[Ag,Az]
   refine Ch (fun h2=>Ac (by rw[if_pos h2])) (fun h2=> ?_)
   rw[if_neg (by simp[h2])]
   refine Aa (HN l 0 (by omega)) ?_
   simp only[Ag,Az]
   refine Ch (fun h3=>Ac (by rw[if_pos h3])) (fun h3=> ?_)
   rw[if_neg (by simp[h3])]
   refine Aa (AiX l (by omega) (Te (by simp[h1]) (by simp[h2]) (by simp[h3]))) ?_
   simp only[Ag,Ak,Cc]
   refine Ae (fun h4=>Ac (by rw[if_pos h4])) (fun h4=>Ac (by rw[if_neg h4]))
theorem AhA(a b:List Int)(ha:a.length≤9223372036854775807):Sp 54 [dI a,dI b] [.bool (decide (a=b))]:=by
 refine Af (a.length+1) (AhB _ _ _) ?_
 simp only[B0,Ali,Cu]
 refine Ae (fun h=>Ac ?_) (fun h=> ?_)
 · rw[decide_eq_false];rintro rfl;exact h rfl
 · exact Ty D.int LP a b (by omega) ha (fun m i=>Xv (a.length+1) m (dI a) (dI b) i) (fun m i=>Ah_ _ _ _ _ _)
def Vn(c:Int):Bool:=decide (0≤c∧c≤1114111∧(c<55296∨57343<c))
theorem Ad_(c:Int):Tw (.br (decide (0≤c)) (.br (decide (c≤1114111)) (.br (decide (c<55296)) (.ret [D.bool true]) (.ret [D.bool (decide (57343<c))])) (.ret [D.bool false])) (.ret [D.bool false])) [.bool (Vn c)]:=by
 unfold Vn
 refine Ae (fun h1=>Ae (fun h2=>Ae (fun h3=>Ac ?_) (fun h3=>Ac ?_)) (fun h2=>Ac ?_)) (fun h1=>Ac ?_)
 · rw[decide_eq_true (by omega)]
 · congr 2;rw[decide_eq_decide];omega
 · rw[decide_eq_false (by omega)]
 · rw[decide_eq_false (by omega)]
theorem Ah5(c:Int):Sp 135 [.int c] [.bool (Vn c)]:=Af 0 (Ah6 _ _) (Ad_ c)
open Go.ChangeShapes Go.WideShapes Go.ChangeAt Go.RowKit
section
variable {P:Program} {md:Nat→FMode}
theorem Adj{F:Nat}{fn:Func}{xs:List D}{vs:List Value}{W:World}{tb:Nat}(hs:Dn P md F [] xs [.bool true])(hfn:P.funcs[F]? = some fn)(hm:md F = {})(hrt:fn.resultTypes = #[tb])(htb:P.underlying tb=some .bool)
   (hlx:xs.length=fn.params.size) (hlv:vs.length=fn.params.size) (hrd : ∀ (i t:Nat) (x:D) (v:Value),fn.params.toList[i]? = some t→xs[i]? = some x→vs[i]? = some v→Rd P md W (fun _=>False) (.ty t) x v) :
   Calls P F vs.toArray W (fun e w'=>e = .returned (.bool true)∧Ext W w'):=by
 obtain ⟨fn',h1,_,_,h⟩:=hs
 rw[hfn]at h1
 injection h1 with h1
 subst h1
 refine (h W (fun _=>False) vs 0 1 (fun k hk=>by rw[hm]at hk;cases hk) ⟨by simp[hlx],by simp[hlv],fun b hb=>hb.elim,?_,fun p hp=>by rw[hm]at hp;cases hp⟩).mono ?_
 · intro i ct x v hc hx hv _
   simp only[Al2,Aly,Alv]at hc
   obtain ⟨t,ht,rfl⟩:=hc
   have:=hrd i t x v ht hx hv
   exact ⟨this.rd.mono (Als _) (fun _ _ _=>rfl) (fun b hb _=>by
    rcases hb with hb | ⟨p,u,hp,_⟩
    · exact hb
    · rw[hm]at hp;cases hp),this.size,this.agg⟩
 · rintro e w' ⟨us,β',hp⟩
   have hl:=hp.len
   rw[hrt]at hl
   have : ∃ u,us = [u]:=by
    match us,hl with
    | [u],_=>exact ⟨u,rfl⟩
   obtain ⟨u,rfl⟩:=this
   have hv:=hp.vl [.b true] (by rw[hrt,hm];simp[D4,Fk,Bt,htb,D.toBool,List.getD]) 0 (.b true) u rfl rfl
   have hu:=Kd hv
   subst hu
   refine ⟨hp.ending,?_⟩
   have:=hp.stp
   refine Stp.ext (this.weak fun b ⟨p,v,h1,_⟩=> ?_)
   rw[hm]at h1;cases h1
theorem Ok{t:Nat}{k:IntKind}{w:World}{M:Nat→Prop}{y:D}{c:Nat→Option Value}(h:RdC P md w M (.ty t) y c)(ht:P.underlying t=some (.int k)) : ∃ n,y = .int n∧k.min≤n∧n≤k.max:=by
 cases h <;> simp_all [CT.desc]
 all_goals (rename_i hf _;obtain ⟨⟨a,ha,_⟩,_⟩:=Ck hf;rw[ht]at ha;cases ha)
theorem AgC{t:Nat}{w:World}{M:Nat→Prop}{y:D}{c:Nat→Option Value}(h:RdC P md w M (.ty t) y c)(ht:P.underlying t=some .bool) : ∃ b,y = .bool b:=by
 cases h <;> simp_all [CT.desc]
 all_goals (rename_i hf _;obtain ⟨⟨a,ha,_⟩,_⟩:=Ck hf;rw[ht]at ha;cases ha)
theorem W9{t e:Nat}{w:World}{M:Nat→Prop}{y:D}{c:Nat→Option Value}(h:RdC P md w M (.ty t) y c)(ht:P.underlying t=some (.slice e)) : ∃ es,y = .sl es∧es.length≤maxLen∧∀ x∈es,∃ c',RdC P md w M (.ty e) x c':=by
 cases h with
 | sl ht' hc h1 h2 hA hh =>
  have:P.underlying t=some (.slice _):=ht'
  rw[ht]at this
  injection this with this
  injection this with this
  subst this
  refine ⟨_,rfl,Nat.le_trans h1 h2,fun x hx=> ?_⟩
  obtain ⟨i,hi,rfl⟩:=List.getElem_of_mem hx
  exact ⟨_,hh i _ (Alg hi)⟩
 | struct hf _ _=>obtain ⟨⟨a,ha,_⟩,_⟩:=Ck hf;rw[ht]at ha;cases ha
 | int ht'=>have:P.underlying t=_:=ht';rw[ht]at this;cases this
 | bool ht'=>have:P.underlying t=_:=ht';rw[ht]at this;cases this
 | str ht'=>have:P.underlying t=_:=ht';rw[ht]at this;cases this
 | fn ht'=>have:P.underlying t=_:=ht';rw[ht]at this;cases this
 | mp ht'=>have:P.underlying t=_:=ht';rw[ht]at this;cases this
 | ref ht'=>have:P.underlying t=_:=ht';rw[ht]at this;cases this
theorem FV{t:Nat}{fs:List Field}{w:World}{M:Nat→Prop}{y:D}{c:Nat→Option Value}(h:RdC P md w M (.ty t) y c)(ht:Cx P t=some fs) : ∃ ds,y = .agg ds∧ds.length=fs.length∧∀ (i:Nat) (f:Field) (d:D),fs[i]? = some f→ds[i]? = some d→∃ c',RdC P md w M (.ty f.type) d c':=by
 obtain ⟨⟨a,ha,_⟩,_⟩:=Ck ht
 cases h with
 | struct hf hl hh =>
  rw[ht]at hf
  injection hf with hf
  subst hf
  exact ⟨_,rfl,hl,fun i f d h1 h2=>⟨_,hh i f d h1 h2⟩⟩
 | sl ht'=>have:P.underlying t=_:=ht';rw[ha]at this;cases this
 | int ht'=>have:P.underlying t=_:=ht';rw[ha]at this;cases this
 | bool ht'=>have:P.underlying t=_:=ht';rw[ha]at this;cases this
 | str ht'=>have:P.underlying t=_:=ht';rw[ha]at this;cases this
 | fn ht'=>have:P.underlying t=_:=ht';rw[ha]at this;cases this
 | mp ht'=>have:P.underlying t=_:=ht';rw[ha]at this;cases this
 | ref ht'=>have:P.underlying t=_:=ht';rw[ha]at this;cases this
theorem AgD{t e:Nat}{w:World}{M:Nat→Prop}{y:D}{c:Nat→Option Value}(h:RdC P md w M (.ty t) y c)(ht:P.underlying t=some (.slice e))(he:P.underlying e=some (.int .i64)) : ∃ l,y=dI l∧l.length≤maxLen∧∀ x∈l,-9223372036854775808≤x∧x≤9223372036854775807:=by
 obtain ⟨es,rfl,hl,hh⟩:=W9 h ht
 have : ∃ l:List Int,es=l.map .int∧∀ x∈l,-9223372036854775808≤x∧x≤9223372036854775807:=by
  clear hl h
  induction es with
  | nil=>exact ⟨[],rfl,fun _ h=>by cases h⟩
  | cons x es ih =>
   obtain ⟨l,rfl,hl⟩:=ih (fun y hy=>hh y (by simp[hy]))
   obtain ⟨c',hc⟩:=hh x (by simp)
   obtain ⟨n,rfl,h1,h2⟩:=Ok hc he
   exact ⟨n::l,rfl,fun y hy=>by rcases Alx.1 hy with rfl | hy;exact ⟨h1,h2⟩;exact hl y hy⟩
 obtain ⟨l,rfl,h2⟩:=this
 exact ⟨l,rfl,by simpa using hl,h2⟩
theorem TJ{t e:Nat}{w:World}{M:Nat→Prop}{y:D}{c:Nat→Option Value}(h:RdC P md w M (.ty t) y c)(ht:P.underlying t=some (.slice e))(he:P.underlying e=some (.int .u32)) : ∃ l:List Ao,y=dL l∧l.length≤maxLen:=by
 obtain ⟨es,rfl,hl,hh⟩:=W9 h ht
 have : ∃ l:List Ao,es=l.map dB:=by
  clear hl h
  induction es with
  | nil=>exact ⟨[],rfl⟩
  | cons x es ih =>
   obtain ⟨l,rfl⟩:=ih (fun y hy=>hh y (by simp[hy]))
   obtain ⟨c',hc⟩:=hh x (by simp)
   obtain ⟨n,rfl,h1,h2⟩:=Ok hc he
   have h1:0≤n:=h1
   have h2:n≤4294967295:=h2
   refine ⟨Al0 32 n.toNat::l,?_⟩
   simp only[Aml,dB,BitVec.toNat_ofNat]
   rw[Al_ (by omega),Int.toNat_of_nonneg h1]
 obtain ⟨l,rfl⟩:=this
 exact ⟨l,rfl,by simpa using hl⟩
theorem TI{t:Nat}{w:World}{M:Nat→Prop}{y:D}{c:Nat→Option Value}(h:RdC P md w M (.ty t) y c)(ht:P.underlying t=some (.int .u64)) : ∃ l:A8,y=dB l:=by
 obtain ⟨n,rfl,h1,h2⟩:=Ok h ht
 have h1:0≤n:=h1
 have h2:n≤18446744073709551615:=h2
 refine ⟨Al0 64 n.toNat,?_⟩
 simp only[dB,BitVec.toNat_ofNat]
 rw[Al_ (by omega),Int.toNat_of_nonneg h1]
end
end Go.Proofs.YtokkbgpgaheakaaGreat
namespace Go.Proofs.YtokkbgpgaheakaaGreat
open Go.ChangeShapes Go.WideShapes Go.ChangeAt Go.RowKit
theorem OL{α:Type}{l:List α}(h:l.length=3) : ∃ a b c,l = [a,b,c]:=by
 match l,h with
 | [a,b,c],_=>exact ⟨a,b,c,rfl⟩
theorem Ado{α:Type}{l:List α}(h:l.length=5) : ∃ a b c d e,l = [a,b,c,d,e]:=by
 match l,h with
 | [a,b,c,d,e],_=>exact ⟨a,b,c,d,e,rfl⟩
inductive Fits:Arr→Prop where
 | mk {s:A8} {sh:List Int} {cs:List Cell} (h1:sh.length≤maxLen) (h2:cs.length≤maxLen) (h3 : ∀ c∈cs,c.n.top.length≤maxLen∧c.n.bot.length≤maxLen∧c.inn.length≤maxLen) (h5 : ∀ x∈sh,-9223372036854775808≤x∧x≤9223372036854775807)
  (h4 : ∀ c∈cs,∀ x∈c.inn,Fits x):Fits (.mk s sh cs)
theorem Acb:(Cx Tryz.prog 64).map (fun fs=>fs.map (·.type))=some [4,62,62]:=by kernel_rfl
theorem Aca:(Cx Tryz.prog 67).map (fun fs=>fs.map (·.type))=some [22,3,64,3,65]:=by kernel_rfl
theorem AbZ:(Cx Tryz.prog 26).map (fun fs=>fs.map (·.type))=some [22,23,24]:=by kernel_rfl
theorem Ik{fs:List Field}{ts:List Nat}(h:fs.map (·.type)=ts){i t:Nat}(ht:ts[i]? = some t) : ∃ f,fs[i]? = some f∧f.type=t:=by
 subst h
 simpa [Aly,Alv]using ht
theorem AgE{w:World}{M:Nat→Prop}{y:D}{c:Nat→Option Value}(h:RdC Tryz.prog md w M (.ty 64) y c) : ∃ n,y=dN n∧n.top.length≤maxLen∧n.bot.length≤maxLen:=by
 obtain ⟨fs,hf,ht⟩:=Alv.1 Acb
 obtain ⟨ds,rfl,hl,hh⟩:=FV h hf
 have:fs.length=3:=by rw[← Ali (f:=(·.type)),ht];rfl
 obtain ⟨a,b,c,rfl⟩:=OL (by rw[hl,this])
 obtain ⟨f0,hf0,e0⟩:=Ik ht (i:=0) rfl
 obtain ⟨f1,hf1,e1⟩:=Ik ht (i:=1) rfl
 obtain ⟨f2,hf2,e2⟩:=Ik ht (i:=2) rfl
 obtain ⟨_,h0⟩:=hh 0 f0 a hf0 rfl
 obtain ⟨_,h1⟩:=hh 1 f1 b hf1 rfl
 obtain ⟨_,h2⟩:=hh 2 f2 c hf2 rfl
 rw[e0]at h0;rw[e1]at h1;rw[e2]at h2
 obtain ⟨n,rfl⟩:=AgC h0 (by kernel_rfl)
 obtain ⟨t,rfl,l1⟩:=TJ h1 (e:=180) (by kernel_rfl) (by kernel_rfl)
 obtain ⟨t',rfl,l2⟩:=TJ h2 (e:=180) (by kernel_rfl) (by kernel_rfl)
 exact ⟨⟨n,t,t'⟩,rfl,l1,l2⟩
mutual
def D.sz:D→Nat
 | .agg fs=>1+D.szL fs | .sl es=>1+D.szL es | _=>0
def D.szL:List D→Nat
 | []=>0 | x::xs=>1+x.sz+D.szL xs
end
theorem TG : ∀ (k:Nat) {w:World} {M:Nat→Prop} {y:D} {c:Nat→Option Value},y.sz<k→RdC Tryz.prog md w M (.ty 26) y c→∃ a,y=dA a∧Fits a
 | 0,_,_,_,_,hk,_=>by omega
 | k+1,w,M,y,c,hk,h=>by
  obtain ⟨fs,hf,ht⟩:=Alv.1 AbZ
  obtain ⟨ds,rfl,hl,hh⟩:=FV h hf
  have:fs.length=3:=by rw[← Ali (f:=(·.type)),ht];rfl
  obtain ⟨a,b,c,rfl⟩:=OL (by rw[hl,this])
  obtain ⟨f0,hf0,e0⟩:=Ik ht (i:=0) rfl
  obtain ⟨f1,hf1,e1⟩:=Ik ht (i:=1) rfl
  obtain ⟨f2,hf2,e2⟩:=Ik ht (i:=2) rfl
  obtain ⟨_,h0⟩:=hh 0 f0 a hf0 rfl
  obtain ⟨_,h1⟩:=hh 1 f1 b hf1 rfl
  obtain ⟨_,h2⟩:=hh 2 f2 c hf2 rfl
  rw[e0]at h0;rw[e1]at h1;rw[e2]at h2
  obtain ⟨s,rfl⟩:=TI h0 (by kernel_rfl)
  obtain ⟨sh,rfl,l1,l1'⟩:=AgD h1 (e:=3) (by kernel_rfl) (by kernel_rfl)
  obtain ⟨es,rfl,l2,hes⟩:=W9 h2 (e:=67) (by kernel_rfl)
  have hsz:D.szL es<k:=by simp only[D.sz,D.szL]at hk;omega
  have key : ∃ cs:List Cell,es=cs.map dC∧(∀ c∈cs,c.n.top.length≤maxLen∧c.n.bot.length≤maxLen∧c.inn.length≤maxLen)∧∀ c∈cs,∀ x∈c.inn,Fits x:=by
   clear l2 h2 h hh h0 h1 hf0 hf1 hf2 e0 e1 e2 hl hk
   induction es with
   | nil=>exact ⟨[],rfl,(fun _ h=>by cases h),(fun _ h=>by cases h)⟩
   | cons x es ih =>
    simp only[D.szL]at hsz
    obtain ⟨cs,rfl,g1,g2⟩:=ih (fun y hy=>hes y (by simp[hy])) (by omega)
    obtain ⟨_,hx⟩:=hes x (by simp)
    obtain ⟨fs,hf,ht⟩:=Alv.1 Aca
    obtain ⟨ds,rfl,hl,hh⟩:=FV hx hf
    have:fs.length=5:=by rw[← Ali (f:=(·.type)),ht];rfl
    obtain ⟨a,b,c,d,e,rfl⟩:=Ado (by rw[hl,this])
    obtain ⟨f0,hf0,e0⟩:=Ik ht (i:=0) rfl
    obtain ⟨f1,hf1,e1⟩:=Ik ht (i:=1) rfl
    obtain ⟨f2,hf2,e2⟩:=Ik ht (i:=2) rfl
    obtain ⟨f3,hf3,e3⟩:=Ik ht (i:=3) rfl
    obtain ⟨f4,hf4,e4⟩:=Ik ht (i:=4) rfl
    obtain ⟨_,h0⟩:=hh 0 f0 a hf0 rfl
    obtain ⟨_,h1⟩:=hh 1 f1 b hf1 rfl
    obtain ⟨_,h2⟩:=hh 2 f2 c hf2 rfl
    obtain ⟨_,h3⟩:=hh 3 f3 d hf3 rfl
    obtain ⟨_,h4⟩:=hh 4 f4 e hf4 rfl
    rw[e0]at h0;rw[e1]at h1;rw[e2]at h2;rw[e3]at h3;rw[e4]at h4
    obtain ⟨l,rfl⟩:=TI h0 (by kernel_rfl)
    obtain ⟨kd,rfl,_⟩:=Ok h1 (k:= .i64) (by kernel_rfl)
    obtain ⟨n,rfl,n1,n2⟩:=AgE h2
    obtain ⟨ch,rfl,_⟩:=Ok h3 (k:= .i64) (by kernel_rfl)
    obtain ⟨as_,rfl,l4,has⟩:=W9 h4 (e:=26) (by kernel_rfl)
    have hsz4:D.szL as_<k:=by simp only[D.sz,D.szL]at hsz;omega
    have key2 : ∃ bs:List Arr,as_=bs.map dA∧∀ x∈bs,Fits x:=by
      clear h4 hh hx hes ih l4 hsz hl
      induction as_ with
      | nil=>exact ⟨[],rfl,fun _ h=>by cases h⟩
      | cons z zs ihz =>
       simp only[D.szL]at hsz4
       obtain ⟨bs,rfl,hb⟩:=ihz (fun y hy=>has y (by simp[hy])) (by omega)
       obtain ⟨_,hz⟩:=has z (by simp)
       obtain ⟨a,rfl,ha⟩:=TG k (by omega) hz
       exact ⟨a::bs,rfl,fun y hy=>by rcases Alx.1 hy with rfl | hy;exact ha;exact hb y hy⟩
    obtain ⟨bs,rfl,hb⟩:=key2
    refine ⟨⟨l,kd,n,ch,bs⟩::cs,by simp[Do],fun c hc=> ?_,fun c hc=> ?_⟩
    · rcases Alx.1 hc with rfl | hc
      · exact ⟨n1,n2,by simpa using l4⟩
      · exact g1 c hc
    · rcases Alx.1 hc with rfl | hc
      · exact hb
      · exact g2 c hc
  obtain ⟨cs,rfl,g1,g2⟩:=key
  exact ⟨.mk s sh cs,(Ab6 s sh cs),.mk l1 (by simpa using l2) g1 l1' g2⟩
def Adi:List Nat:=[4,3,22,180,62,23,64,67,26,65,24]
theorem OH:FE Tryz.prog Adi=true:=by kernel_rfl
section
variable {H:Type} {enc:TypeId×Value→H} {W:World} {sp:Nat→Bool} {held:Bool} {r:Reach} {b0:Nat} {v:Value} {d:DataW H} {ps:List MemPlace}
theorem JM(hval:Value.okWide Tryz.prog W r b0 26 v)(h:DataW.Trod enc Tryz.prog W 0 sp held 26 v d ps) : ∃ a,Fits a∧Rd Tryz.prog md W (fun _=>False) (.ty 26) (dA a) v:=by
 obtain ⟨y,hy,hyw⟩:=JN (md:=md) La OH (by decide) hval h
 obtain ⟨a,rfl,ha⟩:=TG _ (Nat.lt_succ_self _) hy.rd
 exact ⟨a,ha,hy⟩
theorem Aax(hval:Value.okWide Tryz.prog W r b0 3 v)(h:DataW.Trod enc Tryz.prog W 0 sp held 3 v d ps) : ∃ a:Int,(-9223372036854775808≤a∧a≤9223372036854775807)∧Rd Tryz.prog md W (fun _=>False) (.ty 3) (.int a) v:=by
 obtain ⟨y,hy,hyw⟩:=JN (md:=md) La OH (by decide) hval h
 obtain ⟨a,rfl,h1,h2⟩:=Ok hy.rd (k:= .i64) (by kernel_rfl)
 exact ⟨a,⟨h1,h2⟩,hy⟩
end
end Go.Proofs.YtokkbgpgaheakaaGreat
namespace Go.Proofs.YtokkbgpgaheakaaGreat
theorem Fits.len {a:Arr} (h:Fits a):a.cells.length≤9223372036854775807:=by cases h;assumption
theorem Fits.sh {a:Arr} (h:Fits a):a.shape.length≤9223372036854775807:=by cases h;assumption
def Jr(c:Cell):Prop:=c.n.top.length≤9223372036854775807∧c.n.bot.length≤9223372036854775807∧c.inn.length≤9223372036854775807∧∀ x∈c.inn,Fits x
theorem Fits.cell {a:Arr} (h:Fits a) : ∀ c∈a.cells,Jr c:=by
 cases h with
 | mk h1 h2 h3 h5 h4=>exact fun c hc=>⟨(h3 c hc).1,(h3 c hc).2.1,(h3 c hc).2.2,h4 c hc⟩
theorem Fits.of {s:A8} {sh:List Int} {cs:List Cell} (h1:sh.length≤9223372036854775807) (h2:cs.length≤9223372036854775807) (h3 : ∀ x∈sh,Bc x) (h4 : ∀ c∈cs,Jr c):Fits (.mk s sh cs) :=
 .mk h1 h2 (fun c hc=>⟨(h4 c hc).1,(h4 c hc).2.1,(h4 c hc).2.2.1⟩) h3 (fun c hc=>(h4 c hc).2.2.2)
mutual
def A5:Arr→A8
 | .mk s _ cs=>R5 s cs
def R5:A8→List (CellF Arr)→A8
 | l,[]=>l
 | l,c::cs=>R5 (Mp l c) cs
def Mp:A8→CellF Arr→A8
 | l,⟨cl,_,_,_,inn⟩=>R4 (l|||cl) inn
def R4:A8→List Arr→A8
 | l,[]=>l
 | l,a::as_=>R4 (l|||A5 a) as_
end
theorem YX : ∀ (as_:List Arr) (l:A8),R4 l as_=as_.foldl (fun l x=>l|||A5 x) l
 | [],l=>by simp[R4]
 | a::as_,l=>by simp[R4,YX as_]
theorem YY(l:A8)(c:Cell):Mp l c=c.inn.foldl (fun l x=>l|||A5 x) (l|||c.l):=by cases c;rw[Mp,YX]
theorem YZ : ∀ (cs:List Cell) (l:A8),R5 l cs=cs.foldl Mp l
 | [],l=>by simp[R5]
 | c::cs,l=>by simp[R5,YZ cs]
theorem YW(a:Arr):A5 a=a.cells.foldl Mp a.s:=by cases a;rw[A5,YZ];rfl
def Ge(a:Arr):Bool:=match a.shape,a.cells with
 | [],[c]=>decide (¬ c.kind=2)
 | _,_=>false
def Kl(c:Cell)(r:Arr→Bool):Bool:=match c.inn with
 | [x]=> !Ge x&&r x
 | _=>false
def D0(k:Bool)(r:Arr→Bool)(c:Cell):Bool :=
 if c.kind=0 then decide (c.c=0∧c.inn.length=0)&&Ej c.n
 else if c.kind=1 then decide (c.n = .zero∧c.inn.length=0)&&Vn c.c
 else decide (c.kind=2∧c.n = .zero∧c.c=0)&&(k&&Kl c r)
def Ba:Nat→Arr→Bool
 | 0,a=>decide (A0 a.shape=((a.cells.length:Int),0))&&a.cells.all (D0 false (fun _=>false))
 | d+1,a=>decide (A0 a.shape=((a.cells.length:Int),0))&&a.cells.all (D0 true (Ba d))
def B7:Nat→Cell→Bool
 | 0=>D0 false (fun _=>false)
 | d+1=>D0 true (Ba d)
theorem GN(d:Nat)(a:Arr):Ba d a=(decide (A0 a.shape=((a.cells.length:Int),0))&&a.cells.all (B7 d)):=by cases d <;> rfl
theorem Aja{Q:List D→Prop}(a:Arr)(hq:Q [.bool (Ge a)]):(Tree.br (decide ((a.shape.length:Int)=0)) (.br (decide ((a.cells.length:Int)=1)) (.br (decide (0≤(0:Int))) (.br (decide (0<(a.cells.length:Int))) (.ret [D.bool (decide (¬ (((((a.cells.map dC).getD (Alf 0) D.nil).fld 1).toInt)=2)))]) .fail) .fail) (.ret [D.bool false])) (.ret [D.bool false])).wp Tryz.prog md Q:=by
 unfold Ge at hq
 refine Ae (fun h1=>Ae (fun h2=> ?_) (fun h2=>Ac ?_)) (fun h1=>Ac ?_)
 · match hs:a.shape,hc:a.cells with
   | [],[c] =>
    rw[hs,hc]at hq
    exact Ad (Av (by simp) (Ac (by simpa [Alf]using hq)))
   | x::xs,_=>rw[hs]at h1;simp at h1;omega
   | _,[]=>rw[hc]at h2;simp at h2
   | _,x::y::xs=>rw[hc]at h2;simp at h2;omega
 · match hs:a.shape,hc:a.cells with
   | [],[c]=>rw[hc]at h2;simp at h2
   | x::xs,_=>rw[hs]at hq;exact hq
   | [],[]=>rw[hs,hc]at hq;exact hq
   | [],x::y::xs=>rw[hs,hc]at hq;exact hq
 · match hs:a.shape,hc:a.cells with
   | [],_=>rw[hs]at h1;simp at h1
   | x::xs,_=>rw[hs]at hq;exact hq
theorem AhN(a:Arr):Sp 136 [dA a] [.bool (Ge a)]:=by
 refine Af 0 (AhO _ _) ?_
 simp only[Ah]
 exact Aja a rfl
theorem UZ(n:Num):Sp 134 [dN n] [.bool (decide (n = .zero))]:=by
 refine Af 0 (AhR _ _) ?_
 simp only[Lk,Nc,Ll,Bx,Ali,Az,Cc]
 have e:(n=Num.zero)↔(n.neg=false∧n.top.length=0∧n.bot.length=0):=by
  rw[EK,Al7,Al7];rfl
 refine Ch (fun h1=>Ae (fun h2=>Ac ?_) (fun h2=>Ac ?_)) (fun h1=>Ac ?_)
 · congr 2;rw[decide_eq_decide,e];exact ⟨fun h=>⟨by simpa using h1,by omega,by omega⟩,fun h=>by omega⟩
 · rw[decide_eq_false];rw[e];omega
 · rw[decide_eq_false];rw[e];simp at h1;simp[h1]
theorem UK(d:Nat)(c:Cell)(hc:Jr c)(hd:d≤100)(ih : ∀ e,e+1=d→∀ a,Fits a→Sp 13 [dA a,.int (e:Int)] [.bool (Ba e a)]):Sp 53 [dC c,.int (d:Int)] [.bool (B7 d c)]:=by
 suffices key : ∀ (k:Bool) (r:Arr→Bool),(k=true↔0<d)→(∀ a,k=true→Fits a→Sp 13 [dA a,.int ((d:Int)-1)] [.bool (r a)])→Sp 53 [dC c,.int (d:Int)] [.bool (D0 k r c)] by
   cases d with
   | zero=>exact key false (fun _=>false) (by simp) (by simp)
   | succ e=>exact key true (Ba e) (by simp) (fun a _ ha=>by have:=ih e rfl a ha;simpa using this)
 intro k r hk hr
 refine Af 0 (AhC _ _ _) ?_
 simp only[Ah]
 unfold D0
 refine Ae (fun h0=> ?_) (fun h0=> ?_)
 · rw[if_pos h0]
   refine Ae (fun h1=>Ae (fun h2=>Aa (Ahw c.n) (Ac ?_)) (fun h2=>Ac ?_)) (fun h1=>Ac ?_)
   · rw[decide_eq_true ⟨h1,by omega⟩];rfl
   · rw[decide_eq_false (by omega)];rfl
   · rw[decide_eq_false (by omega)];rfl
 rw[if_neg h0]
 refine Ae (fun h0=>Aa (UZ c.n) ?_) (fun h0=> ?_)
 · rw[if_pos h0]
   simp only[Ag,Az]
   refine Ae (fun h1=>Ae (fun h2=>Aa (Ah5 c.c) (Ac ?_)) (fun h2=>Ac ?_)) (fun h1=>Ac ?_)
   · rw[decide_eq_true ⟨h1,by omega⟩];rfl
   · rw[decide_eq_false (fun hh=>h2 (by omega))];rfl
   · rw[decide_eq_false (fun hh=>h1 hh.1)];rfl
 rw[if_neg h0]
 refine Ae (fun h0=>Aa (UZ c.n) ?_) (fun h0=>Ac (by rw[decide_eq_false (fun hh=>h0 hh.1)];rfl))
 simp only[Ag,Az]
 refine Ae (fun h1=>Ae (fun h2=>Ae (fun h3=>Ae (fun h4=> ?_) (fun h4=>Ac ?_)) (fun h3=>Ac ?_)) (fun h2=>Ac ?_)) (fun h1=>Ac ?_)
 · have hkt:=hk.2 (by omega)
   rw[show decide (c.kind=2∧c.n = .zero∧c.c=0)=true from decide_eq_true ⟨h0,h1,h2⟩,hkt,Bool.true_and,Bool.true_and]
   unfold Kl
   match hi:c.inn with
   | []=>rw[hi]at h3;simp at h3
   | x::y::xs=>rw[hi]at h3;simp at h3;omega
   | [x] =>
    simp only[Aml,List.map_nil,Int.toNat_zero,Ag,All,Alz]
    refine Ad (Ad (Aa (AhN x) ?_))
    simp only[Ag,Az]
    refine Ch (fun h5=>Ad (Ad ?_)) (fun h5=>Ac (by rw[h5];rfl))
    rw[As (by omega) (by omega)]
    refine Aa (hr x hkt (hc.2.2.2 x (by rw[hi];simp))) (Ac ?_)
    rw[h5];rfl
 · have:k=false:=by cases k with
    | false=>rfl
    | true=>exact absurd (hk.1 rfl) (by omega)
   rw[this,Bool.false_and,Bool.and_false]
 · have:Kl c r=false:=by
    unfold Kl
    match hi:c.inn with
    | []=>rfl
    | x::y::xs=>rfl
    | [x]=>rw[hi]at h3;simp at h3
   rw[this,Bool.and_false,Bool.and_false]
 · rw[decide_eq_false (fun hh=>h2 hh.2.2)];rfl
 · rw[decide_eq_false (fun hh=>h1 hh.2.1)];rfl
theorem UP(d:Nat)(a:Arr)(ha:Fits a)(ih : ∀ c,Jr c→Sp 53 [dC c,.int (d:Int)] [.bool (B7 d c)]):Sp 13 [dA a,.int (d:Int)] [.bool (Ba d a)]:=by
 have hl:=ha.len
 refine Af (a.cells.length+1) (AhI _ _ _) ?_
 simp only[Ah]
 refine Aa (Ah8 a.shape) ?_
 rw[GN]
 simp only[Ag,Cl,Ak]
 refine Ae (fun h=>Ac ?_) (fun h=>Ae (fun h'=>Ac ?_) (fun h'=> ?_))
 · rw[decide_eq_false];rfl
   intro hh;rw[hh]at h;exact h rfl
 · rw[decide_eq_false];rfl
   intro hh;rw[hh]at h';exact h' rfl
 · have hc:A0 a.shape=((a.cells.length:Int),0):=Prod.ext (by simpa using h') (by simpa using h)
   rw[hc,decide_eq_true rfl,Bool.true_and]
   have key:=B1 a.cells (fun m k (_:Unit)=>Xx (a.cells.length+1) m (d:Int) (a.cells.length:Int) (k:Int) (dA a)) (fun rest _=>[.bool (rest.all (B7 d))]) (fun _ _=>True)
    (fun m k s hk _=>by
     simp only[UO]
     exact Aq (Ac rfl))
    (fun m k s x rest hd _ ih'=>by
     obtain ⟨h1,h2,h3⟩:=Bv hd
     simp only[UO,Ah,Ar h2,Bb k]
     repeat (refine Ad ?_)
     refine Aa (ih x (ha.cell x (Alm h2))) ?_
     simp only[Ag,Az,List.all_cons]
     refine Ch (fun h4=>Ac ?_) (fun h4=> ?_)
     · simp at h4;rw[h4];rfl
     · simp at h4;rw[h4,Bool.true_and];exact ih' () trivial)
    (a.cells.length+1) 0 () (by omega) (by omega) trivial
   exact key
theorem UN : ∀ d:Nat,d≤100→(∀ c,Jr c→Sp 53 [dC c,.int (d:Int)] [.bool (B7 d c)])∧∀ a,Fits a→Sp 13 [dA a,.int (d:Int)] [.bool (Ba d a)]
 | 0,hd=>by
  have hc : ∀ c,Jr c→Sp 53 [dC c,.int ((0:Nat):Int)] [.bool (B7 0 c)]:=fun c hc=>UK 0 c hc hd (fun e he=>by omega)
  exact ⟨hc,fun a ha=>UP 0 a ha hc⟩
 | d+1,hd=>by
  have ih:=UN d (by omega)
  have hc : ∀ c,Jr c→Sp 53 [dC c,.int ((d+1:Nat):Int)] [.bool (B7 (d+1) c)]:=fun c hc=>UK (d+1) c hc hd (fun e he=>by
   have:e=d:=by omega
   subst this;exact ih.2)
  exact ⟨hc,fun a ha=>UP (d+1) a ha hc⟩
theorem AhH(a:Arr)(ha:Fits a):Sp 13 [dA a,.int 8] [.bool (Ba 8 a)]:=(UN 8 (by decide)).2 a ha
def In(x:Int):Int:=Ale .i64 x
def Qg(r:Arr→Int→Int):List Arr→Int→Int
 | [],n=>n
 | a::as_,n=>if 0≤n then Qg r as_ (r a n) else n
def Qh(r:Arr→Int→Int):List Cell→Int→Int
 | [],n=>n
 | c::cs,n=>if 0≤n then Qh r cs (Qg r c.inn (In (In (In (n-1)-(c.n.top.length:Int))-(c.n.bot.length:Int)))) else n
def Ny:Nat→Arr→Int→Int
 | 0,_,_=> -1
 | d+1,a,n=>Qh (Ny d) a.cells (In (In (n-1)-(a.shape.length:Int)))
def MA(a:Arr):Bool:=decide (0≤Ny 12 a 4000)
theorem UU : ∀ (d:Nat),d≤100→∀ (a:Arr),Fits a→∀ n:Int,Sp 161 [dA a,.int (d:Int),.int n] [.int (Ny d a n)]
 | 0,_,a,ha,n=>Af 0 (UV _ _ _ _) (Ax rfl (Ac rfl))
 | d+1,hd,a,ha,n=>by
  obtain ⟨N,hN⟩:=AU
  have hl:=ha.len
  refine Af N (UV _ _ _ _) ?_
  simp only[Ah]
  refine Aq ?_
  have key:=B1 a.cells (fun m k (n:Int)=>Rh N m ((d+1:Nat):Int) n (k:Int) (dA a)) (fun rest n=>[.int (Qh (Ny d) rest n)]) (fun _ _=>True)
   (fun m k n hk _=>by
    simp only[US,Ah]
    exact Aq (Ac rfl))
   (fun m k n c rest hdr _ ih=>by
    obtain ⟨h1,h2,h3⟩:=Bv hdr
    have hc:=ha.cell c (Alm h2)
    have hlc:=hc.2.2.1
    simp only[US,Ah,Ar h2,Qh]
    refine Ad (Ae (fun hn=> ?_) (fun hn=>Ac (by rw[if_neg hn])))
    rw[if_pos hn]
    repeat (refine Ad ?_)
    have key:=B1 c.inn (fun m' j (n:Int)=>X5 N m m' ((d+1:Nat):Int) n (k:Int) (j:Int) (dA a)) (fun rest' n=>[.int (Qh (Ny d) rest (Qg (Ny d) rest' n))]) (fun _ _=>True)
     (fun m' j n hj _=>by
      simp only[UT,Ah,Ar h2,Bb k,Qg]
      repeat (refine Ad ?_)
      exact Aq (ih _ trivial))
     (fun m' j n x rest' hdr' _ ih'=>by
      obtain ⟨g1,g2,g3⟩:=Bv hdr'
      simp only[UT,Ah,Ar h2,Ar g2,Bb k,Bb j,Qg]
      refine Ad (Ad (Ad (Ae (fun hn=> ?_) (fun hn=>by rw[if_neg hn];exact ih _ trivial))))
      rw[if_pos hn]
      repeat (refine Ad ?_)
      rw[As (by omega) (by omega),show ((d+1:Nat):Int)-1=(d:Int) by omega]
      exact Aa (UU d (by omega) x (hc.2.2.2 x (Alm g2)) n) (ih' _ trivial))
     N 0 (In (In (In (n-1)-(c.n.top.length:Int))-(c.n.bot.length:Int))) (by omega) (by omega) trivial
    exact key)
   N 0 (In (In (n-1)-(a.shape.length:Int))) (by omega) (by omega) trivial
  exact key
theorem AhD(a:Arr)(ha:Fits a):Sp 75 [dA a] [.bool (MA a)]:=Af 0 (AhE _ _) (Aa (UU 12 (by decide) a ha 4000) (Ac rfl))
def R2:List Int→Int→Int
 | [],n=>n
 | x::xs,n=>if n≤100000 then R2 xs (if 0<x then In (n*x) else n) else n
def Qx(n:Int):Bool:=decide (¬ 100000<n)
mutual
def O4:Arr→Bool
 | .mk _ sh cs=>Qx (R2 sh 1)&&Jm cs
def Jm:List (CellF Arr)→Bool
 | []=>true
 | c::cs=>IG c&&Jm cs
def IG:CellF Arr→Bool
 | ⟨_,_,_,_,inn⟩=>O5 inn
def O5:List Arr→Bool
 | []=>true
 | a::as_=>O4 a&&O5 as_
end
theorem AjS(a:Arr):O4 a=(Qx (R2 a.shape 1)&&Jm a.cells):=by cases a;rw[O4];rfl
theorem AjT(c:Cell):IG c=O5 c.inn:=by cases c;rw[IG]
theorem AhP(a:Arr):Fits a→Sp 76 [dA a] [.bool (O4 a)]:=by
 induction a using Arr.ind with
 | h s sh cs IH =>
  intro ha
  have hl:=ha.len
  have hs:=ha.sh
  have IH' : ∀ c∈(Arr.mk s sh cs).cells,∀ x∈c.inn,Fits x→Sp 76 [dA x] [.bool (O4 x)]:=IH
  generalize Arr.mk s sh cs=a at *
  obtain ⟨N,hN⟩:=AU
  refine Af N (AhQ _ _) ?_
  rw[AjS]
  have inner:Tw (Mi N N 0 (dA a)) [.bool (Jm a.cells)]:=by
   have key:=B1 a.cells (fun m k (_:Unit)=>Mi N m (k:Int) (dA a)) (fun rest _=>[.bool (Jm rest)]) (fun _ _=>True)
    (fun m k n hk _=>by
     simp only[UW,Ah]
     exact Aq (Ac (by rw[Jm])))
    (fun m k n c rest hdr _ ih=>by
     obtain ⟨h1,h2,h3⟩:=Bv hdr
     have hc:=ha.cell c (Alm h2)
     have hlc:=hc.2.2.1
     simp only[UW,Ah,Ar h2]
     repeat (refine Ad ?_)
     rw[Jm,AjT]
     have key:=B1 c.inn (fun m' j (_:Unit)=>X6 N m m' (k:Int) (j:Int) (dA a)) (fun rest' _=>[.bool (O5 rest'&&Jm rest)]) (fun _ _=>True)
      (fun m' j n hj _=>by
       simp only[UX,Ah,Ar h2,Bb k]
       repeat (refine Ad ?_)
       rw[O5,Bool.true_and]
       exact Aq (ih () trivial))
      (fun m' j n x rest' hdr' _ ih'=>by
       obtain ⟨g1,g2,g3⟩:=Bv hdr'
       simp only[UX,Ah,Ar h2,Ar g2,Bb j]
       repeat (refine Ad ?_)
       refine Aa (IH' c (Alm h2) x (Alm g2) (hc.2.2.2 x (Alm g2))) ?_
       simp only[Ag,Az]
       rw[O5]
       refine Ch (fun e=>Ac ?_) (fun e=> ?_)
       · simp at e;rw[e];rfl
       · simp at e;rw[e,Bool.true_and];exact ih' () trivial)
      N 0 () (by omega) (by omega) trivial
     exact key)
    N 0 () (by omega) (by omega) trivial
   exact key
  have fin : ∀ n:Int,Tw (.br (decide (100000<n)) (.ret [D.bool false]) (Mi N N 0 (dA a))) [.bool (Qx n&&Jm a.cells)]:=fun n=>by
   unfold Qx
   refine Ae (fun h=>Ac ?_) (fun h=> ?_)
   · rw[decide_eq_false (fun hh=>hh h)];rfl
   · rw[decide_eq_true h,Bool.true_and];exact inner
  have key:=B1 a.shape (fun m k (n:Int)=>Ri N m n (k:Int) (dA a)) (fun rest n=>[.bool (Qx (R2 rest n)&&Jm a.cells)]) (fun _ _=>True)
   (fun m k n hk _=>by
    simp only[UY,Ah]
    exact Aq (fin n))
   (fun m k n x rest hdr _ ih=>by
    obtain ⟨h1,h2,h3⟩:=Bv hdr
    simp only[UY,Ah,Ar h2,Bb k,R2]
    refine Ad (Ae (fun hn=>Ad (Ad (Ae (fun hx=>Ad (Ad ?_)) (fun hx=> ?_)))) (fun hn=> ?_))
    · rw[if_pos hn,if_pos hx];exact ih _ trivial
    · rw[if_pos hn,if_neg hx];exact ih _ trivial
    · rw[if_neg hn];exact fin n)
   N 0 1 (by omega) (by omega) trivial
  exact key
def Uv(a:Arr):Bool:=MA a&&Ba 8 a&&O4 a
theorem UL(a:Arr)(ha:Fits a):Sp 30 [dA a] [.bool (Uv a)]:=by
 refine Af 0 (AhF _ _) (Aa (AhD a ha) ?_)
 unfold Uv
 simp only[Ag,Az]
 refine Ch (fun e1=>Aa (AhH a ha) ?_) (fun e1=>Ac (by rw[e1];rfl))
 simp only[Ag,Az]
 refine Ch (fun e2=>Aa (AhP a ha) (Ac ?_)) (fun e2=>Ac (by rw[e2,Bool.and_false];rfl))
 rw[e1,e2];rfl
noncomputable def H4(a b:Arr):Bool:= @decide (a=b) (Classical.propDecidable _)
noncomputable def Iy(a b:Cell):Bool:= @decide (a=b) (Classical.propDecidable _)
theorem Lo{a b:Arr} : H4 a b=true↔a=b:=by unfold H4;exact @decide_eq_true_iff _ (Classical.propDecidable _)
theorem CF{a b:Arr}(h:a≠b):H4 a b=false:=by cases e:H4 a b with
 | false=>rfl
 | true=>exact absurd (Lo.1 e) h
theorem Nf{a b:Cell} : Iy a b=true↔a=b:=by unfold Iy;exact @decide_eq_true_iff _ (Classical.propDecidable _)
theorem Px{a b:Cell}(h:a≠b):Iy a b=false:=by cases e:Iy a b with
 | false=>rfl
 | true=>exact absurd (Nf.1 e) h
theorem AbP(a:Cell):Iy a a=true:=Nf.2 rfl
theorem KM(a b:Cell):(a=b)↔(a.l=b.l∧a.kind=b.kind∧a.c=b.c∧a.n=b.n∧a.inn=b.inn):=by
 cases a;cases b
 constructor
 · rintro ⟨⟩;exact ⟨rfl,rfl,rfl,rfl,rfl⟩
 · rintro ⟨h1,h2,h3,h4,h5⟩;dsimp only at h1 h2 h3 h4 h5;subst h1;subst h2;subst h3;subst h4;subst h5;rfl
theorem AO(a b:Arr):(a=b)↔(a.s=b.s∧a.shape=b.shape∧a.cells=b.cells):=by
 cases a;cases b;simp
theorem WK{α:Type}{P:Program}{md:Nat→FMode}(a b:List α)(e:α→α→Bool)(he : ∀ x∈a,∀ y,e x y=true↔x=y)(hlen:a.length=b.length)(r:Bool)(hr:r=true↔a=b)(L:Nat→Nat→Tree)
  (hend : ∀ m,∀ Q:List D→Prop,Q [.bool true]→(L (m+1) a.length).wp P md Q)
  (hstep : ∀ m k x y,∀ Q:List D→Prop,a[k]? = some x→b[k]? = some y→(e x y=false→Q [.bool false])→(e x y=true→(L m (k+1)).wp P md Q)→(L (m+1) k).wp P md Q) (N:Nat) (hN:a.length<N):(L N 0).wp P md (fun zs=>zs = [.bool r]):=by
 have key:=Vj (P:=P) (md:=md) a.length (fun m k (_:Unit)=>L m k) (fun _ _=>[.bool r]) (fun k _=>a.take k=b.take k)
  (fun m s h=>by
   refine hend m _ ?_
   rw[Amb (Als _),Amb (by omega)]at h
   rw[hr.2 h])
  (fun m k s hk h ih=>by
   have ha:a[k]? = some a[k]:=Alg _
   have hb:b[k]? = some (b[k]'(by omega)):=Alg _
   refine hstep m k _ _ _ ha hb (fun hf=> ?_) (fun ht=>ih () ?_)
   · have:r=false:=by
      cases hrr:r with
      | false=>rfl
      | true =>
       have:=hr.1 hrr
       subst this
       rw[(he a[k] (Amj _) a[k]).2 rfl]at hf;cases hf
     rw[this]
   · have:a[k]=b[k]:=(he a[k] (Amj _) _).1 ht
     rw[List.take_succ_eq_append_getElem hk,List.take_succ_eq_append_getElem (by omega),h,this])
  N 0 () (by omega) (by omega) (by simp)
 exact key
theorem AhJ(a:Cell)(hf:Jr a)(ih : ∀ x∈a.inn,Fits x→∀ y,Sp 34 [dA x,dA y] [.bool (H4 x y)])(b:Cell):Sp 79 [dC a,dC b] [.bool (Iy a b)]:=by
 refine Af (a.inn.length+1) (AhK _ _ _) ?_
 have hl:=hf.2.2.1
 simp only[Ah]
 refine Ae (fun h=>Ac ?_) (fun h1=>Ae (fun h=>Ac ?_) (fun h2=>Ae (fun h=>Ac ?_) (fun h3=>Aa (UF a.n b.n hf.1 hf.2.1) ?_)))
 · rw[Px];rintro rfl;exact h rfl
 · rw[Px];rintro rfl;exact h rfl
 · rw[Px];rintro rfl;exact h rfl
 simp only[Ag,Az,Eu]
 refine Ae (fun h=>Ac ?_) (fun h4=>Ae (fun h=>Ac ?_) (fun h5=> ?_))
 · rw[Px];rintro rfl;exact h rfl
 · rw[Px];rintro rfl;exact h rfl
 have e1:a.l=b.l:=BitVec.eq_of_toNat_eq (by omega)
 refine WK (P:=Tryz.prog) (md:=md) a.inn b.inn H4 (fun x _ y=>Lo) (by omega) (Iy a b) ?_ (fun m k=>Xz (a.inn.length+1) m (k:Int) (dC a) (dC b)) ?_ ?_ (a.inn.length+1) (by omega)
 · rw[Nf,KM]
   have h2':=Alt.1 h2
   have h3':=Alt.1 h3
   have h4':=Alt.1 h4
   simp[e1,h2',h3',h4']
 · intro m Q hQ
   simp only[UQ,Ah]
   exact Aq (Ac hQ)
 · intro m k x y Q hx hy hF hT
   have hk:k<a.inn.length:=(Alj.1 hx).1
   simp only[UQ,Ah,Ar hx,Ar hy,Bb k]
   repeat (refine Ad ?_)
   refine Aa (ih x (Alm hx) (hf.2.2.2 x (Alm hx)) y) ?_
   simp only[Ag,Az]
   refine Ch (fun h=>Ac (hF (by simpa using h))) (fun h=>hT (by simpa using h))
theorem AhL(a:Arr):Fits a→∀ b,Sp 34 [dA a,dA b] [.bool (H4 a b)]:=by
 induction a using Arr.ind with
 | h s sh cs IH =>
  intro ha b
  have hl:=ha.len
  have IH' : ∀ c∈(Arr.mk s sh cs).cells,∀ x∈c.inn,Fits x→∀ y,Sp 34 [dA x,dA y] [.bool (H4 x y)]:=IH
  generalize Arr.mk s sh cs=a at *
  refine Af (a.cells.length+1) (AhM _ _ _) ?_
  simp only[Ah]
  refine Ae (fun h=>Ac ?_) (fun h1=>Aa (AhA a.shape b.shape ha.sh) ?_)
  · rw[CF];rintro rfl;exact h rfl
  simp only[Ag,Az,Eu]
  refine Ae (fun h=>Ac ?_) (fun h4=>Ae (fun h=>Ac ?_) (fun h5=> ?_))
  · rw[CF];rintro rfl;exact h rfl
  · rw[CF];rintro rfl;exact h rfl
  have e1:a.s=b.s:=BitVec.eq_of_toNat_eq (by omega)
  refine WK (P:=Tryz.prog) (md:=md) a.cells b.cells Iy (fun x _ y=>Nf) (by omega) (H4 a b) ?_ (fun m k=>X3 (a.cells.length+1) m (k:Int) (dA a) (dA b)) ?_ ?_ (a.cells.length+1) (by omega)
  · rw[Lo,AO]
    have h4':=Alt.1 h4
    simp[e1,h4']
  · intro m Q hQ
    simp only[UR,Ah]
    exact Aq (Ac hQ)
  · intro m k x y Q hx hy hF hT
    have hk:k<a.cells.length:=(Alj.1 hx).1
    simp only[UR,Ah,Ar hx,Ar hy,Bb k]
    repeat (refine Ad ?_)
    refine Aa (AhJ x (ha.cell x (Alm hx)) (IH' x (Alm hx)) y) ?_
    simp only[Ag,Az]
    refine Ch (fun h=>Ac (hF (by simpa using h))) (fun h=>hT (by simpa using h))
def F7:List Cell→Option (List Int)
 | []=>some []
 | c::cs=>if c.kind=0 then (Db c.n).bind (fun z=>(F7 cs).map (z:: ·)) else none
def A7(a:Arr):List Int×Int:=if 1<a.shape.length then ([],5) else match F7 a.cells with
 | some l=>(l,0)
 | none=>([],3)
def Be(z:Int):Cell:=⟨0,0,Cm z,0,[]⟩
def Ct(a:Arr):Cell:=match a.cells with
 | []=>Be 0
 | c::_=>if c.kind=1 then ⟨c.l,1,.zero,32,[]⟩ else ⟨c.l,0,Cm 0,0,[]⟩
theorem Aj_{n:Num}{z:Int}(h:Db n=some z):Bc z:=by
 unfold Db K8 at h
 split at h
 · split at h
   · injection h with h;subst h;assumption
   · cases h
 · cases h
theorem U7 : ∀ {cs:List Cell} {l:List Int},F7 cs=some l→l.length=cs.length∧∀ x∈l,Bc x
 | [],l,h=>by simp[F7]at h;subst h;simp
 | c::cs,l,h=>by
  simp only[F7]at h
  split at h
  · cases hn:Db c.n with
    | none=>rw[hn]at h;cases h
    | some z =>
     rw[hn]at h
     cases hc:F7 cs with
     | none=>rw[hc]at h;cases h
     | some l' =>
      rw[hc]at h
      injection h with h;subst h
      have:=U7 hc
      exact ⟨by simp[this.1],fun x hx=>by rcases Alx.1 hx with rfl | hx;exact Aj_ hn;exact this.2 x hx⟩
  · cases h
def U6(out:List Int):Option (List Int)→List D
 | some l=>[dI (out++l),.int 0]
 | none=>[.sl [],.int 3]
theorem AcH{a:Arr}(h : ¬ 1<a.shape.length):U6 [] (F7 a.cells) = [dI (A7 a).1,.int (A7 a).2]:=by
 unfold A7;rw[if_neg h];cases F7 a.cells <;> rfl
theorem UM(z:Int)(hz:Bc z):Sp 78 [.int z] [dC (Be z)]:=by
 refine Af 0 (AhG _ _) (Aa (Ahu z hz) (Ac ?_))
 rw[Do];rfl
end Go.Proofs.YtokkbgpgaheakaaGreat
