/- Proved: lemmas for the law of this folder, part 6. No condition. -/
import Derived.Test.YtokkbgpgaheakaaGreatRows
import Derived.WalkKit
import Derived.WalkSpells
import Derived.WalkLawsBesides
import Derived.Lib.Hide
import Derived.Laws.CopyOwn
import Derived.Deep.QuietTactic
import Derived.BigQuiet
import Derived.Orders
import Derived.Defers
import Derived.Recover
import Derived.Test.YtokkbgpgaheakaaGreatProg
import Derived.KernelRfl
import Derived.ProofKit
import Derived.OpenShut
import Derived.Maps.OwnRows
import Derived.Maps.Views
import Derived.Deep.RegionHeld3
import Derived.Deep.AppendLies
import Derived.Test.YtokkbgpgaheakaaGreatZac2b2e42
set_option linter.unusedSimpArgs false
set_option linter.unusedVariables false
set_option maxRecDepth 100000
open Array renaming getElem?_eq_getElem → Al3, getElem?_eq_some_iff → Amc, getD_eq_getD_getElem? → Amf
open BitVec renaming ofNat → Al0
open Bool renaming and_eq_true → Alp
open Classical renaming not_not → Alt
open Int renaming toNat → Alf, toNat_natCast → Aln, fdiv → Al8
open Go.IntKind renaming wrap → Ale, bits → Alq
open List renaming getElem?_eq_getElem → Alg, replicate → Alh, length_map → Ali, getElem?_eq_some_iff → Alj, getD_eq_getElem?_getD → Alk, length_cons → All, mem_of_getElem? → Alm, length_append → Alr, length_drop → Alu, length_take → Alw, mem_cons → Alx, getElem?_map → Aly, length_nil → Alz, append_nil → Al2, append_assoc → Al4, getElem?_append_left → Al5, drop_eq_getElem_cons → Al6, length_eq_zero_iff → Al7, take_append_drop → Ama, take_of_length_le → Amb, range → Amd, length_replicate → Amg, getElem_mem → Amj, map_cons → Aml, nil_append → Amo
open Nat renaming le_refl → Als, mul_le_mul_right → Al1, mod_lt → Al9, mod_eq_of_lt → Al_, lt_of_lt_of_le → Ame, mul_comm → Ami, pow_succ → Amk, div_lt_iff_lt_mul → Amm, zero_add → Amn
open Option renaming map_eq_some_iff → Alv, bind_eq_some_iff → Amh
open Option.some renaming injEq → Alo
namespace Go.Proofs.YtokkbgpgaheakaaGreat
def Ue:List (Nat×Orc):=[(12,⟨[(1,none),(2,none),(6,none),(39,none),(40,none)],[(1,true),(2,false)],[(.slot 6,1120,67)]⟩)]
noncomputable def Ud(n m12:Nat)(cells6:List D)(t39 t40:Int)(nn1:D)(t2_0:Int):Tree :=
 lA (eA Ue n 65 [1,1,1,1,1,0,1,0,0]) (Al Ue 12) m12 ⟨(.undef:: .ptr 1 []:: .ptr 2 []::uA 3++(.row 1120::uA 32++(.i .i64 t39:: .i .i64 t40::uA 14))),[(1,.var 26 (.d 26 nn1) true),(2,.var 26 (.agg 26 [.i .u64 t2_0,.mt,.mt]) true),(1120,.row 67 cells6 true)],[1,2,1120],[],[]⟩
  (Ai 1 (An (jA Ue n 65 [1,1,1,1,1,1]) (rA 65 [26] [.cell 2 26,.tmp 3] [26,29])))
theorem MD(n m12:Nat)(cells6:List D)(t39 t40:Int)(nn1:D)(t2_0:Int):Ud n (m12+1) cells6 t39 t40 nn1 t2_0 =
 bK (t40<t39) (cK 138 [D.int (Ale .i64 (t40+1))] fun Y2 =>
 kK (0≤t40) (kK (t40<(cells6.length:Int)) (Ud n m12 (cells6.set (Alf t40) (qA Y2)) t39 (Ale .i64 (t40+1)) nn1 t2_0)))
 (cK 149 [D.sl cells6] fun Y3 =>
 cK 84 [nn1] fun Y4 =>
 cK 90 [qA Y3,D.int ((qA Y4).toInt)] fun Y5 =>
 .ret [qA Y5,D.int 0]):=by kernel_rfl
theorem Acg(n:Nat)(nn0:D):fA Ue n 65 [] [nn0] =
 cK 80 [nn0] fun Y1 =>
 .br (((qB Y1).toInt)!=0) (.ret [D.agg [D.int 0,D.sl [],D.sl []],D.int ((qB Y1).toInt)])
 (.br ((((qA Y1).els).length:Int)!=1) (.ret [D.agg [D.int 0,D.sl [],D.sl []],D.int 4])
 (kK (0≤0) (kK (0<(((qA Y1).els).length:Int)) (bK (((((qA Y1).els).getD (Alf 0) D.nil).toInt)<0) (.ret [D.agg [D.int 0,D.sl [],D.sl []],D.int 3])
 (kK (0≤0) (kK (0<(((qA Y1).els).length:Int)) (bK (2048<((((qA Y1).els).getD (Alf 0) D.nil).toInt)) (.ret [D.agg [D.int 0,D.sl [],D.sl []],D.int 7])
 (kK (0≤0) (kK (0<(((qA Y1).els).length:Int)) (kK (0≤(((qA Y1).els).getD (Alf 0) D.nil).toInt) (kK ((((qA Y1).els).getD (Alf 0) D.nil).toInt≤(((qA Y1).els).getD (Alf 0) D.nil).toInt) (kK ((((qA Y1).els).getD (Alf 0) D.nil).toInt≤Aj) (Ud n n (Alh (Alf ((((qA Y1).els).getD (Alf 0) D.nil).toInt)) (D.agg [D.int 0,D.int 0,D.agg [D.bool false,D.sl [],D.sl []],D.int 0,D.sl []])) ((Alh (Alf ((((qA Y1).els).getD (Alf 0) D.nil).toInt)) (D.agg [D.int 0,D.int 0,D.agg [D.bool false,D.sl [],D.sl []],D.int 0,D.sl []])).length:Int) 0 nn0 0))))))))))))):=by kernel_rfl
def Ug:List (Nat×Orc):=[(7,⟨[(1,none),(2,none),(3,none),(4,some 128),(5,none),(19,some 24),(20,none),(21,none)],[(1,true),(2,false),(3,false)],[(.slot 5,1070,67)]⟩)]
noncomputable def P1(n m7:Nat)(place4:D)(cells5:List D)(t19:D)(t20 t21:Int)(a1:D)(r2_0 e3:Int):Tree :=
 lA (eA Ug n 67 [1,1,1,1,1,0,1,0,0]) (Al Ug 7) m7 ⟨(.undef:: .ptr 1 []:: .ptr 2 []:: .ptr 3 []:: .d 128 place4:: .row 1070::uA 13++(.d 24 t19:: .i .i64 t20:: .i .i64 t21::uA 19)),[(1,.var 26 (.d 26 a1) true),(2,.var 26 (.agg 26 [.i .u64 r2_0,.mt,.mt]) true),(3,.var 29 (.i .i64 e3) true),(1070,.row 67 cells5 true)],[1,2,3,1070],[(151,[.ptr 2 [],.ptr 3 []])],[]⟩
  (Ai 0 (An (jA Ug n 67 [1,1,1,1,1,1]) (rA 67 [26] [.cell 2 26,.cell 3 29] [26,29])))
theorem MG(n m7:Nat)(place4_c0 place4_c1:D)(cells5:List D)(t19:D)(t20 t21:Int)(a1:D)(r2_0 e3:Int):P1 n (m7+1) (D.fn 216 [.ref 173,.ref 24] [place4_c0,place4_c1]) cells5 t19 t20 t21 a1 r2_0 e3 =
 bK (t21<t20) (kK (0≤t21) (kK (t21<(t19.els.length:Int)) (.call (D.fn 216 [.ref 173,.ref 24] [place4_c0,place4_c1]).fnId (D.fn 216 [.ref 173,.ref 24] [place4_c0,place4_c1]).fnCts ([t19.els.getD (Alf t21) D.nil]++(D.fn 216 [.ref 173,.ref 24] [place4_c0,place4_c1]).fnDs) fun Y2 =>
 .br (((qA Y2).toInt)==t21) (kK (cells5.length + [t19.els.getD (Alf t21) D.nil].length≤Aj) (P1 n m7 (D.fn 216 [.ref 173,.ref 24] [place4_c0,place4_c1]) (cells5++[t19.els.getD (Alf t21) D.nil]) t19 t20 (Ale .i64 (t21+1)) a1 r2_0 e3))
 (P1 n m7 (D.fn 216 [.ref 173,.ref 24] [place4_c0,place4_c1]) cells5 t19 t20 (Ale .i64 (t21+1)) a1 r2_0 e3))))
 (cK 149 [D.sl cells5] fun Y3 =>
 cK 84 [a1] fun Y4 =>
 cK 90 [qA Y3,D.int ((qA Y4).toInt)] fun Y5 =>
 .ret [qA Y5,D.int 0]):=by kernel_rfl
theorem Acn(n:Nat)(a0:D):fA Ug n 67 [] [a0] =
 bK (1<(((a0.fld 1).els).length:Int)) (.ret [D.agg [D.int 0,D.sl [],D.sl []],D.int 5])
 (cK 152 [a0.fld 2] fun Y1 =>
 P1 n n (qA Y1) [] (a0.fld 2) (((a0.fld 2).els).length:Int) 0 a0 0 0):=by kernel_rfl
def Uc:List (Nat×Orc):=[(7,⟨[(2,none),(3,none),(4,none),(5,none),(6,some 128),(7,none),(25,some 24),(26,none),(27,none)],[(2,true),(3,true),(4,false),(5,false)],[(.slot 7,1070,67)]⟩)]
noncomputable def Nj(n m7:Nat)(place6:D)(cells7:List D)(t25:D)(t26 t27:Int)(a2 b3:D)(r4_0 e5:Int):Tree :=
 lA (eA Uc n 106 [1,1,1,1,1,0,1,0,0]) (Al Uc 7) m7 ⟨(.undef:: .undef:: .ptr 2 []:: .ptr 3 []:: .ptr 4 []:: .ptr 5 []:: .d 128 place6:: .row 1070::uA 17++(.d 24 t25:: .i .i64 t26:: .i .i64 t27::uA 26)),[(2,.var 26 (.d 26 a2) true),(3,.var 26 (.d 26 b3) true),(4,.var 26 (.agg 26 [.i .u64 r4_0,.mt,.mt]) true),(5,.var 29 (.i .i64 e5) true),(1070,.row 67 cells7 true)],[2,3,4,5,1070],[(180,[.ptr 4 [],.ptr 5 []])],[]⟩
  (Ai 0 (An (jA Uc n 106 [1,1,1,1,1,1]) (rA 106 [26,26] [.cell 4 26,.cell 5 29] [26,29])))
theorem MC(n m7:Nat)(place6_c0 place6_c1:D)(cells7:List D)(t25:D)(t26 t27:Int)(a2 b3:D)(r4_0 e5:Int):Nj n (m7+1) (D.fn 216 [.ref 173,.ref 24] [place6_c0,place6_c1]) cells7 t25 t26 t27 a2 b3 r4_0 e5 =
 bK (t27<t26) (kK (0≤t27) (kK (t27<(t25.els.length:Int)) (.call (D.fn 216 [.ref 173,.ref 24] [place6_c0,place6_c1]).fnId (D.fn 216 [.ref 173,.ref 24] [place6_c0,place6_c1]).fnCts ([t25.els.getD (Alf t27) D.nil]++(D.fn 216 [.ref 173,.ref 24] [place6_c0,place6_c1]).fnDs) fun Y2 =>
 bK (((qA Y2).toInt)<0) (cK 138 [D.int (Ale .i64 ((((a2.fld 2).els).length:Int)+1))] fun Y3 =>
 kK (0≤t27) (kK (t27<(cells7.length:Int)) (Nj n m7 (D.fn 216 [.ref 173,.ref 24] [place6_c0,place6_c1]) (cells7.set (Alf t27) (qA Y3)) t25 t26 (Ale .i64 (t27+1)) a2 b3 r4_0 e5)))
 (cK 138 [D.int (Ale .i64 (((qA Y2).toInt)+1))] fun Y4 =>
 kK (0≤t27) (kK (t27<(cells7.length:Int)) (Nj n m7 (D.fn 216 [.ref 173,.ref 24] [place6_c0,place6_c1]) (cells7.set (Alf t27) (qA Y4)) t25 t26 (Ale .i64 (t27+1)) a2 b3 r4_0 e5))))))
 (cK 182 [a2,b3] fun Y5 =>
 cK 181 [D.int ((qA Y5).toInt),b3.fld 1,D.sl cells7] fun Y6 =>
 .ret [qA Y6,D.int 0]):=by kernel_rfl
theorem Ace(n:Nat)(a0 b1:D):fA Uc n 106 [] [a0,b1] =
 .br ((((a0.fld 1).els).length:Int)!=1) (.ret [D.agg [D.int 0,D.sl [],D.sl []],D.int 5])
 (cK 152 [a0.fld 2] fun Y1 =>
 kK (0≤(((b1.fld 2).els).length:Int)) (kK ((((b1.fld 2).els).length:Int)≤(((b1.fld 2).els).length:Int)) (kK ((((b1.fld 2).els).length:Int)≤Aj) (Nj n n (qA Y1) (Alh (Alf (((b1.fld 2).els).length:Int)) (D.agg [D.int 0,D.int 0,D.agg [D.bool false,D.sl [],D.sl []],D.int 0,D.sl []])) (b1.fld 2) (((b1.fld 2).els).length:Int) 0 a0 b1 0 0)))):=by kernel_rfl
def Uf:List (Nat×Orc):=[(5,⟨[(2,none),(3,none),(4,none),(5,some 128),(6,none),(19,some 24),(20,none),(21,none)],[(2,true),(3,true),(4,false)],[(.slot 6,1050,67)]⟩)]
noncomputable def Nk(n m5:Nat)(place5:D)(cells6:List D)(t19:D)(t20 t21:Int)(a2 b3:D)(r4_0:Int):Tree :=
 lA (eA Uf n 107 [1,1,1,1,0,1,0,0]) (Al Uf 5) m5 ⟨(.undef:: .undef:: .ptr 2 []:: .ptr 3 []:: .ptr 4 []:: .d 128 place5:: .row 1050::uA 12++(.d 24 t19:: .i .i64 t20:: .i .i64 t21::uA 21)),[(2,.var 26 (.d 26 a2) true),(3,.var 26 (.d 26 b3) true),(4,.var 26 (.agg 26 [.i .u64 r4_0,.mt,.mt]) true),(1050,.row 67 cells6 true)],[2,3,4,1050],[(183,[.ptr 4 []])],[]⟩
  (Ai 0 (An (jA Uf n 107 [1,1,1,1,1]) (rA 107 [26,26] [.cell 4 26] [26])))
theorem ME(n m5:Nat)(place5_c0 place5_c1:D)(cells6:List D)(t19:D)(t20 t21:Int)(a2 b3:D)(r4_0:Int):Nk n (m5+1) (D.fn 216 [.ref 173,.ref 24] [place5_c0,place5_c1]) cells6 t19 t20 t21 a2 b3 r4_0 =
 bK (t21<t20) (kK (0≤t21) (kK (t21<(t19.els.length:Int)) (.call (D.fn 216 [.ref 173,.ref 24] [place5_c0,place5_c1]).fnId (D.fn 216 [.ref 173,.ref 24] [place5_c0,place5_c1]).fnCts ([t19.els.getD (Alf t21) D.nil]++(D.fn 216 [.ref 173,.ref 24] [place5_c0,place5_c1]).fnDs) fun Y2 =>
 bK (0≤((qA Y2).toInt)) (cK 138 [D.int 1] fun Y3 =>
 kK (0≤t21) (kK (t21<(cells6.length:Int)) (Nk n m5 (D.fn 216 [.ref 173,.ref 24] [place5_c0,place5_c1]) (cells6.set (Alf t21) (qA Y3)) t19 t20 (Ale .i64 (t21+1)) a2 b3 r4_0)))
 (cK 138 [D.int 0] fun Y4 =>
 kK (0≤t21) (kK (t21<(cells6.length:Int)) (Nk n m5 (D.fn 216 [.ref 173,.ref 24] [place5_c0,place5_c1]) (cells6.set (Alf t21) (qA Y4)) t19 t20 (Ale .i64 (t21+1)) a2 b3 r4_0))))))
 (cK 182 [a2,b3] fun Y5 =>
 cK 181 [D.int ((qA Y5).toInt),a2.fld 1,D.sl cells6] fun Y6 =>
 .ret [qA Y6]):=by kernel_rfl
theorem Aci(n:Nat)(a0 b1:D):fA Uf n 107 [] [a0,b1] =
 cK 152 [b1.fld 2] fun Y1 =>
 kK (0≤(((a0.fld 2).els).length:Int)) (kK ((((a0.fld 2).els).length:Int)≤(((a0.fld 2).els).length:Int)) (kK ((((a0.fld 2).els).length:Int)≤Aj) (Nk n n (qA Y1) (Alh (Alf (((a0.fld 2).els).length:Int)) (D.agg [D.int 0,D.int 0,D.agg [D.bool false,D.sl [],D.sl []],D.int 0,D.sl []])) (a0.fld 2) (((a0.fld 2).els).length:Int) 0 a0 b1 0))):=by kernel_rfl
theorem Acl(n:Nat)(a0 b1:D):fA [] n 108 [] [a0,b1] =
 bK (1<(((a0.fld 1).els).length:Int)) (.ret [D.agg [D.int 0,D.sl [],D.sl []],D.int 5])
 (bK (1<(((b1.fld 1).els).length:Int)) (.ret [D.agg [D.int 0,D.sl [],D.sl []],D.int 5])
 (cK 185 [b1.fld 2,a0.fld 2,D.bool false] fun Y1 =>
 bK (2048<(Ale .i64 ((((a0.fld 2).els).length:Int)+(((qA Y1).els).length:Int)))) (.ret [D.agg [D.int 0,D.sl [],D.sl []],D.int 7])
 (kK (0≤0) (kK (0≤Ale .i64 ((((a0.fld 2).els).length:Int)+(((qA Y1).els).length:Int))) (kK (Ale .i64 ((((a0.fld 2).els).length:Int)+(((qA Y1).els).length:Int))≤Aj) (kK ((Alh (Alf 0) (D.agg [D.int 0,D.int 0,D.agg [D.bool false,D.sl [],D.sl []],D.int 0,D.sl []])).length+((a0.fld 2).els).length≤Aj) (kK (((Alh (Alf 0) (D.agg [D.int 0,D.int 0,D.agg [D.bool false,D.sl [],D.sl []],D.int 0,D.sl []]))++((a0.fld 2).els)).length+((qA Y1).els).length≤Aj) (cK 149 [D.sl (((Alh (Alf 0) (D.agg [D.int 0,D.int 0,D.agg [D.bool false,D.sl [],D.sl []],D.int 0,D.sl []]))++((a0.fld 2).els))++((qA Y1).els))] fun Y2 =>
 cK 182 [a0,b1] fun Y3 =>
 cK 90 [qA Y2,D.int ((qA Y3).toInt)] fun Y4 =>
 .ret [qA Y4,D.int 0])))))))):=by kernel_rfl
theorem Acj(n:Nat)(a0 b1 in2:D):fA [] n 109 [] [a0,b1,in2] =
 bK (1<(((a0.fld 1).els).length:Int)) (.ret [D.agg [D.int 0,D.sl [],D.sl []],D.int 5])
 (cK 185 [a0.fld 2,b1.fld 2,D.bool in2.toBool] fun Y1 =>
 cK 149 [qA Y1] fun Y2 =>
 cK 182 [a0,b1] fun Y3 =>
 cK 90 [qA Y2,D.int ((qA Y3).toInt)] fun Y4 =>
 .ret [qA Y4,D.int 0]):=by kernel_rfl
theorem Acs(n:Nat)(l0 s1 cells2:D):fA [] n 181 [] [l0,s1,cells2] =
 kK (s1.els.length≤Aj) (.ret [D.agg [D.int l0.toInt,D.sl s1.els,cells2]]):=by kernel_rfl
theorem Aco(n:Nat)(a0 b1:D):fA [] n 182 [] [a0,b1] =
 cK 84 [a0] fun Y1 =>
 cK 84 [b1] fun Y2 =>
 cK 83 [D.int ((qA Y1).toInt),D.int ((qA Y2).toInt)] fun Y3 =>
 .ret [D.int ((qA Y3).toInt)]:=by kernel_rfl
def Um:List (Nat×Orc):=[(4,⟨[(2,none),(7,some 128),(8,none),(14,some 24),(15,none),(16,none)],[],[(.slot 8,1040,67)]⟩)]
noncomputable def P4(n m4:Nat)(in2:Bool)(place7:D)(r8:List D)(t14:D)(t15 t16:Int):Tree :=
 lA (eA Um n 185 [1,1,1,0,1,0,0]) (Al Um 4) m4 ⟨(.undef:: .undef:: .b in2::uA 4++(.d 128 place7:: .row 1040::uA 5++(.d 24 t14:: .i .i64 t15:: .i .i64 t16::uA 15))),[(1040,.row 67 r8 true)],[1040],[],[]⟩
  (Ai 0 (An (jA Um n 185 [1,1,1,1]) (rA 185 [24,24,4] [.tmp 6] [24])))
theorem MO(n m4:Nat)(in2:Bool)(place7_c0 place7_c1:D)(r8:List D)(t14:D)(t15 t16:Int):P4 n (m4+1) in2 (D.fn 216 [.ref 173,.ref 24] [place7_c0,place7_c1]) r8 t14 t15 t16 =
 bK (t16<t15) (kK (0≤t16) (kK (t16<(t14.els.length:Int)) (.call (D.fn 216 [.ref 173,.ref 24] [place7_c0,place7_c1]).fnId (D.fn 216 [.ref 173,.ref 24] [place7_c0,place7_c1]).fnCts ([t14.els.getD (Alf t16) D.nil]++(D.fn 216 [.ref 173,.ref 24] [place7_c0,place7_c1]).fnDs) fun Y2 =>
 .br ((decide (0≤((qA Y2).toInt)))==in2) (kK (r8.length + [t14.els.getD (Alf t16) D.nil].length≤Aj) (P4 n m4 in2 (D.fn 216 [.ref 173,.ref 24] [place7_c0,place7_c1]) (r8++[t14.els.getD (Alf t16) D.nil]) t14 t15 (Ale .i64 (t16+1))))
 (P4 n m4 in2 (D.fn 216 [.ref 173,.ref 24] [place7_c0,place7_c1]) r8 t14 t15 (Ale .i64 (t16+1))))))
 (.ret [D.sl r8]):=by kernel_rfl
theorem Acu(n:Nat)(l0 others1 in2:D):fA Um n 185 [] [l0,others1,in2] =
 cK 152 [others1] fun Y1 =>
 P4 n n in2.toBool (qA Y1) [] l0 (l0.els.length:Int) 0:=by kernel_rfl
def C3:List (Nat×Orc):=[(5,⟨[(0,none),(3,none),(31,some 62),(32,none),(33,none)],[(3,true)],[]⟩),(10,⟨[(0,none),(3,none),(44,some 62),(45,none),(46,none)],[(3,true)],[]⟩),(15,⟨[(0,none),(56,some 65),(57,none),(58,none)],[],[]⟩),(18,⟨[(0,none),(10,none),(56,some 65),(57,none),(58,none),(63,some 23),(64,none),(65,none)],[(10,true)],[]⟩),(23,⟨[(0,none),(56,some 65),(57,none),(58,none),(75,some 24),(76,none),(77,none)],[],[]⟩)]
def Lq:List Nat:=[22,67]
def Lr:List ResultVar:=[.tmp 4]
noncomputable def Ul(n m15 m23:Nat)(k0:Int)(t56:D)(t57 t58:Int)(t75:D)(t76 t77:Int):Tree :=
 lA (eA C3 n 215 [1,1,1,1,1,0,1,0,0,1,1,0,0,1,1,1,0,0]) (Al C3 23) m23 ⟨(.i .u64 k0::uA 55++(.d 65 t56:: .i .i64 t57:: .i .i64 t58::uA 16++(.d 24 t75:: .i .i64 t76:: .i .i64 t77::uA 9))),[],[],[],[]⟩
  (Ai 8 (Ai 5 (An (jA C3 n 215 [1,1,1,1,1,0,1,0,0,1,1,1]) (Fg Tryz.prog md (Al C3 15) (fun s1=>lA (eA C3 n 215 [1,1,1,1,1,0,1,0,0]) (Al C3 15) m15 s1 (Ai 4 (An (jA C3 n 215 [1,1,1,1,1,1]) (rA 215 Lq Lr [22])))) (Ai 4 (An (jA C3 n 215 [1,1,1,1,1,1]) (rA 215 Lq Lr [22])))))))
noncomputable def Uk(n m15 m18:Nat)(k0:Int)(t56:D)(t57 t58:Int)(t63:D)(t64 t65:Int)(a10:D):Tree :=
 lA (eA C3 n 215 [1,1,1,1,1,0,1,0,0,1,1,0,0,1,0,1,0,0]) (Al C3 18) m18 ⟨(.i .u64 k0::uA 9++(.ptr 10 []::uA 45++(.d 65 t56:: .i .i64 t57:: .i .i64 t58::uA 4++(.d 23 t63:: .i .i64 t64:: .i .i64 t65::uA 21)))),[(10,.var 26 (.d 26 a10) true)],[10],[],[]⟩
  (Ai 6 (An (jA C3 n 215 [1,1,1,1,1,0,1,0,0,1,1,0,0,1,1]) (Ai 5 (An (jA C3 n 215 [1,1,1,1,1,0,1,0,0,1,1,1]) (Fg Tryz.prog md (Al C3 15) (fun s1=>lA (eA C3 n 215 [1,1,1,1,1,0,1,0,0]) (Al C3 15) m15 s1 (Ai 4 (An (jA C3 n 215 [1,1,1,1,1,1]) (rA 215 Lq Lr [22])))) (Ai 4 (An (jA C3 n 215 [1,1,1,1,1,1]) (rA 215 Lq Lr [22]))))))))
noncomputable def P3(n m15:Nat)(k0:Int)(t56:D)(t57 t58:Int):Tree :=
 lA (eA C3 n 215 [1,1,1,1,1,0,1,0,0]) (Al C3 15) m15 ⟨(.i .u64 k0::uA 55++(.d 65 t56:: .i .i64 t57:: .i .i64 t58::uA 28)),[],[],[],[]⟩
  (Ai 4 (An (jA C3 n 215 [1,1,1,1,1,1]) (rA 215 Lq Lr [22])))
noncomputable def P2(n m10:Nat)(k0:Int)(t44:D)(t45 t46:Int)(c3:D):Tree :=
 lA (eA C3 n 215 [1,1,1,1,0,1,0,0]) (Al C3 10) m10 ⟨(.i .u64 k0:: .undef:: .undef:: .ptr 3 []::uA 40++(.d 62 t44:: .i .i64 t45:: .i .i64 t46::uA 40)),[(3,.var 67 (.d 67 c3) true)],[3],[],[]⟩
  (Ai 2 (An (jA C3 n 215 [1,1,1,1,1]) (rA 215 Lq Lr [22])))
noncomputable def Nl(n m5:Nat)(k0:Int)(t31:D)(t32 t33:Int)(c3:D):Tree :=
 lA (eA C3 n 215 [1,1,1,0,1,0,0]) (Al C3 5) m5 ⟨(.i .u64 k0:: .undef:: .undef:: .ptr 3 []::uA 27++(.d 62 t31:: .i .i64 t32:: .i .i64 t33::uA 53)),[(3,.var 67 (.d 67 c3) true)],[3],[],[]⟩
  (Ai 0 (An (jA C3 n 215 [1,1,1,1]) (rA 215 Lq Lr [22])))
theorem ML(n m15 m23:Nat)(k0:Int)(t56:D)(t57 t58:Int)(t75:D)(t76 t77:Int):Ul n m15 (m23+1) k0 t56 t57 t58 t75 t76 t77 =
 bK (t77<t76) (kK (0≤t77) (kK (t77<(t75.els.length:Int)) (cK 215 [D.int k0,t75.els.getD (Alf t77) D.nil] fun Y7 =>
 Ul n m15 m23 ((qA Y7).toInt) t56 t57 t58 t75 t76 (Ale .i64 (t77+1)))))
 (P3 n m15 k0 t56 t57 (Ale .i64 (t58+1))):=by kernel_rfl
theorem MK(n m15 m18:Nat)(k0:Int)(t56:D)(t57 t58:Int)(t63:D)(t64 t65:Int)(a10:D):Uk n m15 (m18+1) k0 t56 t57 t58 t63 t64 t65 a10 =
 bK (t65<t64) (kK (0≤t65) (kK (t65<(t63.els.length:Int)) (cK 249 [D.int k0,D.int (Ale .u64 ((t63.els.getD (Alf t65) D.nil).toInt))] fun Y6 =>
 Uk n m15 m18 ((qA Y6).toInt) t56 t57 t58 t63 t64 (Ale .i64 (t65+1)) a10)))
 (Ul n m15 n k0 t56 t57 t58 (a10.fld 2) (((a10.fld 2).els).length:Int) 0):=by kernel_rfl
theorem MJ(n m15:Nat)(k0:Int)(t56:D)(t57 t58:Int):P3 n (m15+1) k0 t56 t57 t58 =
 bK (t58<t57) (kK (0≤t58) (kK (t58<(t56.els.length:Int)) (Uk n m15 n k0 t56 t57 t58 ((t56.els.getD (Alf t58) D.nil).fld 1) ((((t56.els.getD (Alf t58) D.nil).fld 1).els).length:Int) 0 (t56.els.getD (Alf t58) D.nil))))
 (.ret [D.int k0]):=by kernel_rfl
theorem MI(n m10:Nat)(k0:Int)(t44:D)(t45 t46:Int)(c3:D):P2 n (m10+1) k0 t44 t45 t46 c3 =
 bK (t46<t45) (kK (0≤t46) (kK (t46<(t44.els.length:Int)) (cK 249 [D.int k0,D.int (Ale .u64 ((t44.els.getD (Alf t46) D.nil).toInt))] fun Y5 =>
 P2 n m10 ((qA Y5).toInt) t44 t45 (Ale .i64 (t46+1)) c3)))
 (P3 n n k0 (c3.fld 4) (((c3.fld 4).els).length:Int) 0):=by kernel_rfl
theorem MM(n m5:Nat)(k0:Int)(t31:D)(t32 t33:Int)(c3:D):Nl n (m5+1) k0 t31 t32 t33 c3 =
 bK (t33<t32) (kK (0≤t33) (kK (t33<(t31.els.length:Int)) (cK 249 [D.int k0,D.int (Ale .u64 ((t31.els.getD (Alf t33) D.nil).toInt))] fun Y4 =>
 Nl n m5 ((qA Y4).toInt) t31 t32 (Ale .i64 (t33+1)) c3)))
 (P2 n n k0 ((c3.fld 2).fld 2) ((((c3.fld 2).fld 2).els).length:Int) 0 c3):=by kernel_rfl
theorem Acq(n:Nat)(k0 c1:D):fA C3 n 215 [] [k0,c1] =
 cK 249 [D.int k0.toInt,D.int (Ale .u64 ((c1.fld 1).toInt))] fun Y1 =>
 cK 249 [D.int ((qA Y1).toInt),D.int (Ale .u64 ((c1.fld 3).toInt))] fun Y2 =>
 .br (((c1.fld 2).fld 0).toBool) (cK 249 [D.int ((qA Y2).toInt),D.int 1] fun Y3 =>
 Nl n n ((qA Y3).toInt) ((c1.fld 2).fld 1) ((((c1.fld 2).fld 1).els).length:Int) 0 c1)
 (Nl n n ((qA Y2).toInt) ((c1.fld 2).fld 1) ((((c1.fld 2).fld 1).els).length:Int) 0 c1):=by kernel_rfl
def Uj:List (Nat×Orc):=[(3,⟨[(2,none),(5,none),(13,some 23),(14,none),(15,none)],[(5,true)],[]⟩)]
noncomputable def Ui(n m3:Nat)(t2 t13:D)(t14 t15:Int)(alone5:D):Tree :=
 lA (eA Uj n 216 [1,1,0,1,0,0]) (Al Uj 3) m3 ⟨(.undef:: .undef:: .at_ 24 t2:: .undef:: .undef:: .ptr 5 []::uA 7++(.d 23 t13:: .i .i64 t14:: .i .i64 t15::uA 12)),[(5,.var 26 (.d 26 alone5) true)],[5],[],[]⟩
  (Ai 0 (An (jA Uj n 216 [1,1,1]) (rA 216 [67] [.tmp 4] [3])))
theorem MH(n m3:Nat)(t2 t13:D)(t14 t15:Int)(alone5:D):Ui n (m3+1) t2 t13 t14 t15 alone5 =
 bK (t15<t14) (kK (0≤t15) (kK (t15<(t13.els.length:Int)) (kK (0≤(t13.els.getD (Alf t15) D.nil).toInt) (kK ((t13.els.getD (Alf t15) D.nil).toInt<(t2.els.length:Int)) (cK 178 [t2.els.getD (Alf ((t13.els.getD (Alf t15) D.nil).toInt)) D.nil] fun Y3 =>
 cK 179 [alone5,qA Y3] fun Y4 =>
 .br ((qA Y4).toBool) (.ret [D.int ((t13.els.getD (Alf t15) D.nil).toInt)])
 (Ui n m3 t2 t13 t14 (Ale .i64 (t15+1)) alone5))))))
 (.ret [D.int (-1)]):=by kernel_rfl
theorem Acp(n:Nat)(c0 c1 c2:D):fA Uj n 216 [.ref 173,.ref 24] [c0,c1,c2] =
 cK 178 [c0] fun Y1 =>
 cK 215 [D.int 0,c0] fun Y2 =>
 Ui n n c2.unref (D.sl ((c1.unref.grpI ((qA Y2).toInt)).map D.int)) (((c1.unref.grpI ((qA Y2).toInt)).map D.int).length:Int) 0 (qA Y1):=by kernel_rfl
theorem Acr(n:Nat)(k0 nn1:D):fA [] n 249 [] [k0,nn1] =
 kK (0≤29) (.ret [D.int (Bj .xor .u64 (Ale .u64 ((Bj .xor .u64 k0.toInt nn1.toInt)*11400714819323198485)) (Al8 (Ale .u64 ((Bj .xor .u64 k0.toInt nn1.toInt)*11400714819323198485)) (2 ^ (min (Alf 29) (Alq .u64)))))]):=by kernel_rfl
def wU(x:Int):Int:=Ale .u64 x
def E8(k n:Int):Int:=Bj .xor .u64 (Ale .u64 ((Bj .xor .u64 k n)*11400714819323198485)) (Al8 (Ale .u64 ((Bj .xor .u64 k n)*11400714819323198485)) (2 ^ (min (Alf 29) (Alq .u64))))
theorem N5(k n:Int):Sp 249 [.int k,.int n] [.int (E8 k n)]:=Af 0 (Acr _ _ _) (Av (by decide) (Ac rfl))
def Ia(k:Int)(l:List Ao):Int:=l.foldl (fun k x=>E8 k (wU (x.toNat:Int))) k
def DX(k:Int)(l:List Int):Int:=l.foldl (fun k x=>E8 k (wU x)) k
mutual
def B4:Int→CellF Arr→Int
 | k,⟨_,kd,n,c,inn⟩=>Qk (Ia (Ia (if n.neg then E8 (E8 (E8 k (wU kd)) (wU c)) 1 else E8 (E8 k (wU kd)) (wU c)) n.top) n.bot) inn
def Qk:Int→List Arr→Int
 | k,[]=>k
 | k,a::as_=>Qk (E7 k a) as_
def E7:Int→Arr→Int
 | k,.mk _ sh cs=>Ql (DX k sh) cs
def Ql:Int→List (CellF Arr)→Int
 | k,[]=>k
 | k,c::cs=>Ql (B4 k c) cs
end
theorem OX : ∀ (as_:List Arr) (k:Int),Qk k as_=as_.foldl E7 k
 | [],k=>by rw[Qk];rfl
 | a::as_,k=>by rw[Qk,OX as_];rfl
theorem PA : ∀ (cs:List Cell) (k:Int),Ql k cs=cs.foldl B4 k
 | [],k=>by rw[Ql];rfl
 | c::cs,k=>by rw[Ql,PA cs];rfl
theorem Vl(k:Int)(a:Arr):E7 k a=a.cells.foldl B4 (DX k a.shape):=by cases a;rw[E7,PA];rfl
theorem N2(k:Int)(c:Cell):B4 k c=c.inn.foldl E7 (Ia (Ia (if c.n.neg then E8 (E8 (E8 k (wU c.kind)) (wU c.c)) 1 else E8 (E8 k (wU c.kind)) (wU c.c)) c.n.top) c.n.bot):=by cases c;rw[B4,OX]
theorem Uq{α:Type}{f:Int→α→Int}{r:α→α} : ∀ {l:List α} {k:Int},(∀ x∈l,∀ k,f k (r x)=f k x)→(l.map r).foldl f k=l.foldl f k
 | [],_,_=>rfl
 | x::xs,k,h=>by
  simp only[Aml,List.foldl_cons,h x (by simp)]
  exact Uq (fun y hy=>h y (List.mem_cons_of_mem _ hy))
theorem Ad5(g:A8→A8)(a:Arr) : ∀ k,E7 k (Fj g a)=E7 k a:=by
 induction a using Arr.ind with
 | h s sh cs IH =>
  intro k
  rw[Vl,Vl,Mj]
  simp only[Arr.cells_mk,Arr.shape_mk]
  refine Uq (fun c hc k=> ?_)
  rw[N2,N2,X9]
  exact Uq (fun x hx k=>IH c hc x hx k)
theorem OZ(g:A8→A8)(c:Cell)(k:Int):B4 k (Eh g c)=B4 k c:=by
 rw[N2,N2,X9]
 exact Uq (fun x _ k=>Ad5 g x k)
noncomputable def Ih(x y:Cell):Bool:=Iy (Eh (fun _=>0) x) (Eh (fun _=>0) y)
theorem Mm{x y:Cell} : Ih x y=true↔Eh (fun _=>0) x=Eh (fun _=>0) y:=Nf
theorem Aiz(x:Cell):Ih x x=true:=AbP _
theorem Aix(x y:Cell):Ih x y=Ih y x:=by
 cases h:Ih y x with
 | true=>exact Mm.2 (Mm.1 h).symm
 | false =>
  cases h2:Ih x y with
  | false=>rfl
  | true=>rw[Mm.2 (Mm.1 h2).symm]at h;cases h
theorem Aiy{x y:Cell}(h:Ih x y=true)(k:Int):B4 k x=B4 k y:=by
 rw[← OZ (fun _=>0) x,← OZ (fun _=>0) y,Mm.1 h]
theorem Ad8(x y:Cell):Vm (Ef x) (Ef y)=Ih x y:=by
 cases h:Ih x y with
 | true=>exact Lo.2 (by unfold Tz Ef;rw[Mj,Mj];simp only[Arr.cells_mk,Arr.s_mk,Arr.shape_mk,Aml,List.map_nil,Mm.1 h])
 | false =>
  cases h2:Vm (Ef x) (Ef y) with
  | false=>rfl
  | true =>
   have:=Lo.1 h2
   unfold Tz Ef at this
   rw[Mj,Mj,AO]at this
   have h3:=this.2.2
   simp only[Arr.cells_mk,Aml,List.map_nil,List.cons.injEq,and_true]at h3
   rw[Mm.2 h3]at h;cases h
noncomputable def Dm:List Cell→Cell→Nat→Int
 | [],_,_=> -1
 | x::xs,c,k=>if Ih x c then (k:Int) else Dm xs c (k+1)
theorem SD : ∀ (l:List Cell) (c:Cell) (k:Nat),Dm l c k = -1∨((k:Int)≤Dm l c k∧Dm l c k<(k+l.length:Nat))
 | [],c,k=> .inl rfl
 | x::xs,c,k=>by
  simp only[Dm]
  split
  · right;simp only[All];omega
  · rcases SD xs c (k+1) with h | h
    · exact .inl h
    · right;simp only[All];omega
def Df:List Cell→Int→Nat→List Int
 | [],_,_=>[]
 | x::xs,n,k=>if B4 0 x=n then (k:Int)::Df xs n (k+1) else Df xs n (k+1)
theorem NI : ∀ (l:List Cell) (n:Int) (k:Nat),(∀ j∈Df l n k,(k:Int)≤j∧j<(k+l.length:Nat))∧(Df l n k).length≤l.length
 | [],n,k=>by simp[Df]
 | x::xs,n,k=>by
  obtain ⟨h1,h2⟩:=NI xs n (k+1)
  simp only[Df]
  split
  · refine ⟨fun j hj=> ?_,by simp only[All];omega⟩
    simp only[All]
    rcases Alx.1 hj with rfl | hj
    · omega
    · have:=h1 j hj;omega
  · refine ⟨fun j hj=> ?_,by simp only[All];omega⟩
    simp only[All]
    have:=h1 j hj;omega
noncomputable def P8(l:List Cell)(c:Cell):List Int→Int
 | []=> -1
 | j::js=>if Ih c (l.getD j.toNat Cell.none) then j else P8 l c js
theorem MU(l:List Cell)(c:Cell) : ∀ (xs:List Cell) (k:Nat),l.drop k=xs→P8 l c (Df xs (B4 0 c) k)=Dm xs c k
 | [],k,_=>rfl
 | x::xs,k,h=>by
  obtain ⟨h1,h2,h3⟩:=Bv h
  have ih:=MU l c xs (k+1) h3
  have hg:l.getD k Cell.none=x:=by rw[Alk,h2];rfl
  simp only[Df,Dm]
  by_cases hm:B4 0 x=B4 0 c
  · rw[if_pos hm]
    simp only[P8,Aln,hg]
    rw[Aix c x,ih]
  · rw[if_neg hm,if_neg (fun hs=>hm (Aiy hs 0)),ih]
theorem PB : ∀ (d:Nat) (c:Cell) (k:Int),SmlC d c→Sp 215 [.int k,dC c] [.int (B4 k c)]:=by
 suffices key : ∀ (d:Nat),(∀ e,d=e+1→∀ (c:Cell) (k:Int),SmlC e c→Sp 215 [.int k,dC c] [.int (B4 k c)])→∀ (c:Cell) (k:Int),SmlC d c→Sp 215 [.int k,dC c] [.int (B4 k c)] by
   intro d
   induction d with
   | zero=>exact key 0 (fun e he=>by omega)
   | succ d ih=>exact key (d+1) (fun e he=>by
          have:e=d:=by omega
          subst this;exact ih)
 intro d IH c k hc
 obtain ⟨c1,c2,c3,c4⟩:=hc
 rw[N2]
 have inn : ∀ k0:Int,Tw (P3 1048577 1048577 k0 (.sl (c.inn.map dA)) (c.inn.length:Int) 0) [.int (c.inn.foldl E7 k0)]:=by
   intro k0
   have key:=B1 c.inn (fun m k (s:Int)=>P3 1048577 m s (.sl (c.inn.map dA)) (c.inn.length:Int) (k:Int)) (fun rest s=>[.int (rest.foldl E7 s)]) (fun _ _=>True)
    (fun m k s hk _=>by
     simp only[MJ]
     exact Aq (Ac rfl))
    (fun m k s x rest hdr _ ih=>by
     obtain ⟨h1,h2,h3⟩:=Bv hdr
     have hx:=c4 x (Alm h2)
     obtain ⟨e,rfl⟩:=hx.succ
     have hxs:=hx.1
     have hxc:=hx.2.1
     simp only[MJ,Ah,Ar h2]
     refine Ad (Ad (Ad ?_))
     have key2:=B1 x.shape (fun m' j (s:Int)=>Uk 1048577 m m' s (.sl (c.inn.map dA)) (c.inn.length:Int) (k:Int) (dI x.shape) (x.shape.length:Int) (j:Int) (dA x)) (fun rest' s=>[.int (rest.foldl E7 (x.cells.foldl B4 (DX s rest')))]) (fun _ _=>True)
      (fun m' j s hj _=>by
       simp only[MK,Ah]
       refine Aq ?_
       have key3:=B1 x.cells (fun m'' i (s:Int)=>Ul 1048577 m m'' s (.sl (c.inn.map dA)) (c.inn.length:Int) (k:Int) (.sl (x.cells.map dC)) (x.cells.length:Int) (i:Int)) (fun rest'' s=>[.int (rest.foldl E7 (rest''.foldl B4 s))]) (fun _ _=>True)
        (fun m'' i s hi _=>by
         simp only[ML,Bb k]
         exact Aq (ih s trivial))
        (fun m'' i s y rest'' hdr'' _ ih''=>by
         obtain ⟨g1,g2,g3⟩:=Bv hdr''
         simp only[ML,Ah,Ar g2,Bb i]
         exact Ad (Ad (Ad (Aa (IH e rfl y s (hx.cell y (Alm g2))) (ih'' _ trivial)))))
        1048577 0 s (by omega) (by omega) trivial
       exact key3)
      (fun m' j s y rest' hdr' _ ih'=>by
       obtain ⟨g1,g2,g3⟩:=Bv hdr'
       simp only[MK,Ah,Ar g2,Bb j]
       exact Ad (Ad (Ad (Aa (N5 s (wU y)) (ih' _ trivial)))))
      1048577 0 s (by omega) (by omega) trivial
     rw[List.foldl_cons,Vl]
     exact key2)
    1048577 0 k0 (by omega) (by omega) trivial
   exact key
 have bot : ∀ k0:Int,Tw (P2 1048577 1048577 k0 (dL c.n.bot) (c.n.bot.length:Int) 0 (dC c)) [.int (c.inn.foldl E7 (Ia k0 c.n.bot))]:=by
   intro k0
   have key:=B1 c.n.bot (fun m k (s:Int)=>P2 1048577 m s (dL c.n.bot) (c.n.bot.length:Int) (k:Int) (dC c)) (fun rest s=>[.int (c.inn.foldl E7 (Ia s rest))]) (fun _ _=>True)
    (fun m k s hk _=>by
     simp only[MI,Ah]
     exact Aq (inn s))
    (fun m k s x rest hdr _ ih=>by
     obtain ⟨h1,h2,h3⟩:=Bv hdr
     simp only[MI,Bx,Ali,Aln,Ar h2,D5,Bb k]
     exact Ad (Ad (Ad (Aa (N5 s (wU (x.toNat:Int))) (ih _ trivial)))))
    1048577 0 k0 (by omega) (by omega) trivial
   exact key
 have top : ∀ k0:Int,Tw (Nl 1048577 1048577 k0 (dL c.n.top) (c.n.top.length:Int) 0 (dC c)) [.int (c.inn.foldl E7 (Ia (Ia k0 c.n.top) c.n.bot))]:=by
   intro k0
   have key:=B1 c.n.top (fun m k (s:Int)=>Nl 1048577 m s (dL c.n.top) (c.n.top.length:Int) (k:Int) (dC c)) (fun rest s=>[.int (c.inn.foldl E7 (Ia (Ia s rest) c.n.bot))]) (fun _ _=>True)
    (fun m k s hk _=>by
     simp only[MM,Ah]
     exact Aq (bot s))
    (fun m k s x rest hdr _ ih=>by
     obtain ⟨h1,h2,h3⟩:=Bv hdr
     simp only[MM,Bx,Ali,Aln,Ar h2,D5,Bb k]
     exact Ad (Ad (Ad (Aa (N5 s (wU (x.toNat:Int))) (ih _ trivial)))))
    1048577 0 k0 (by omega) (by omega) trivial
   exact key
 refine Af 1048577 (Acq _ _ _) ?_
 simp only[Ah]
 refine Aa (N5 k (wU c.kind)) ?_
 simp only[Ag,Ak]
 refine Aa (N5 (E8 k (wU c.kind)) (wU c.c)) ?_
 simp only[Ag,Ak]
 refine Ch (fun h=> ?_) (fun h=> ?_)
 · have hn:c.n.neg=true:=by simpa using h
   rw[if_pos hn]
   exact Aa (N5 _ 1) (top _)
 · have hn : ¬ c.n.neg=true:=by simpa using h
   rw[if_neg hn]
   exact top _
abbrev Lt(g:List (Int×List Int))(l:List Cell):D:=D.fn 216 [.ref 173,.ref 24] [.ref (.mp g),.ref (.sl (l.map dC))]
theorem Un{d e:Nat}(g:List (Int×List Int))(l:List Cell)(c:Cell)(hg : ∀ n,Gv g n=Df l n 0)(hc:SmlC d c)(hl : ∀ x∈l,SmlC e x)(hlen:l.length≤1048576):Dn Tryz.prog md 216 [.ref 173,.ref 24] [dC c,.ref (.mp g),.ref (.sl (l.map dC))] [.int (Dm l c 0)]:=by
 refine Af 1048577 (Acp _ _ _ _) (Aa (Pi c hc) (Aa (PB d c 0 hc) ?_))
 have hgm:(D.mp g).grpI (B4 0 c)=Df l (B4 0 c) 0:=hg _
 simp only[Z3,Ag,Ak,hgm]
 have hr:=NI l (B4 0 c) 0
 have hp:=MU l c l 0 rfl
 generalize Df l (B4 0 c) 0=js at *
 have key:=B1 js (fun m k (_:Unit)=>Ui 1048577 m (.sl (l.map dC)) (.sl (js.map D.int)) (((js.map D.int).length:Nat):Int) (k:Int) (dA (Ef c))) (fun rest _=>[.int (P8 l c rest)]) (fun _ _=>True)
  (fun m k s hk _=>by
   simp only[MH,Ali]
   exact Aq (Ac rfl))
  (fun m k s j rest hdr _ ih=>by
   obtain ⟨h1,h2,h3⟩:=Bv hdr
   have hj:=hr.1 j (Alm h2)
   obtain ⟨J,rfl⟩ : ∃ J:Nat,j=(J:Int):=⟨j.toNat,by omega⟩
   have hJ:J<l.length:=by omega
   have hcell:(l.map dC).getD J D.nil=dC (l.getD J Cell.none):=by
    rw[Ar (Alg hJ),Alk,Alg hJ];rfl
   have hmem:l.getD J Cell.none∈l:=by
    rw[Alk,Alg hJ];exact Amj hJ
   simp only[MH,Ah,Ar h2,hcell,Bb k]
   have hm:=JT (d:=d+1) (Ef c) (Ef (l.getD J Cell.none)) (Sml.of (by simp[Ef]) (by simp[Ef]) (by simp[Ef]) (fun x hx=>by simp[Ef]at hx;subst hx;exact hc))
   rw[Ad8]at hm
   refine Ad (Ad (Ad (Ad (Ad (Aa (Pi _ (hl _ hmem)) (Aa hm ?_))))))
   simp only[Ag,Az,P8,Aln]
   refine Ch (fun h=>Ac (by rw[if_pos h])) (fun h=> ?_)
   rw[if_neg (by rw[h];decide)]
   have:=ih () trivial
   simp only[Ali]at this
   exact this)
  1048577 0 () (by omega) (by omega) trivial
 rw[List.drop_zero,hp]at key
 exact key
theorem AhX(n:Nat)(f0:D):fA [] n 22 [] [f0] =
 cK 23 [D.sl [D.int 43,D.int 45,D.int 124,D.int 8744,D.int 60,D.int 62,D.int 8800],D.int f0.toInt] fun Y1 =>
 .br ((qA Y1).toBool) (.ret [D.int 0])
 (cK 23 [D.sl [D.int 215,D.int 247,D.int 42,D.int 8743,D.int 8804,D.int 61,D.int 8805,D.int 33],D.int f0.toInt] fun Y2 =>
 .br ((qA Y2).toBool) (.ret [D.int 1])
 (.ret [D.int (-1)])):=by kernel_rfl
theorem AhV(n:Nat):fA [] n 24 [] [] =
 .ret [D.sl [D.int 43,D.int 45,D.int 215,D.int 247,D.int 8968,D.int 8970,D.int 124,D.int 126,D.int 33,D.int 9076,D.int 44,D.int 9066,D.int 9021,D.int 8854,D.int 9033,D.int 8834,D.int 8835,D.int 8801,D.int 8802,D.int 9075,D.int 8714,D.int 8746,D.int 9080,D.int 9035,D.int 9042,D.int 8866,D.int 8867]]:=by kernel_rfl
theorem AhY(n:Nat):fA [] n 25 [] [] =
 .ret [D.sl [D.int 43,D.int 45,D.int 215,D.int 247,D.int 8968,D.int 8970,D.int 124,D.int 42,D.int 60,D.int 8804,D.int 61,D.int 8805,D.int 62,D.int 8800,D.int 8743,D.int 8744,D.int 9076,D.int 44,D.int 9066,D.int 9021,D.int 8854,D.int 9033,D.int 8593,D.int 8595,D.int 8835,D.int 8801,D.int 8802,D.int 9075,D.int 8714,D.int 8746,D.int 8745,D.int 126,D.int 8866,D.int 8867,D.int 47,D.int 9023,D.int 92,D.int 9024]]:=by kernel_rfl
def Lc:Prop:=∀ (e:Nat) (l:List Cell),(∀ x∈l,SmlC e x)→l.length≤2048→∃ g,(∀ n,Gv g n=Df l n 0)∧Sp 152 [.sl (l.map dC)] [Lt g l]
def H0(a b:Arr):A8:=A5 a|||A5 b
theorem AfI{l:List Cell}{c:Cell}(h:l.length≤2048) : -1≤Dm l c 0∧Dm l c 0<(l.length:Int):=by
 have:=SD l c 0
 omega
noncomputable def Hi(l:List Cell)(c:Cell):Cell:=Be (if Dm l c 0<0 then (l.length:Int)+1 else Dm l c 0+1)
noncomputable def U5(a b:Arr):Arr×Int:=if a.shape.length=1 then (.mk (H0 a b) b.shape (b.cells.map (Hi a.cells)),0) else (.none,5)
noncomputable def I7(l:List Cell)(c:Cell):Cell:=Be (if 0≤Dm l c 0 then 1 else 0)
noncomputable def Qo(a b:Arr):Arr:= .mk (H0 a b) a.shape (a.cells.map (I7 b.cells))
noncomputable def O7(l:List Cell):List Cell→Nat→List Cell
 | [],_=>[]
 | c::cs,k=>if Dm (l.take k) c 0<0 then c::O7 l cs (k+1) else O7 l cs (k+1)
def N1(s:A8)(l:List Cell):Arr:= .mk s [(l.length:Int)] l
noncomputable def Z2(a:Arr):Arr×Int:=if 1<a.shape.length then (.none,5) else (N1 (A5 a) (O7 a.cells a.cells 0),0)
noncomputable def Gf(l others:List Cell)(in_:Bool):List Cell:=l.filter (fun c=>decide (0≤Dm others c 0)==in_)
noncomputable def R3(a b:Arr)(in_:Bool):Arr×Int:=if 1<a.shape.length then (.none,5) else (N1 (H0 a b) (Gf a.cells b.cells in_),0)
noncomputable def Z1(a b:Arr):Arr×Int:=if 1<a.shape.length then (.none,5) else if 1<b.shape.length then (.none,5) else if 2048<a.cells.length+(Gf b.cells a.cells false).length then (.none,7) else (N1 (H0 a b) (a.cells++Gf b.cells a.cells false),0)
def Hx(k:Nat):List Int:=(Amd k).map (fun (i:Nat)=>(i:Int)+1)
def Ly(n:Arr):Arr×Int:=if (A7 n).2=0 then (match (A7 n).1 with
 | [k]=>if k<0 then (.none,3) else if 2048<k then (.none,7) else (Dh (Hx k.toNat) (A5 n),0)
 | _=>(.none,4)) else (.none,(A7 n).2)
theorem FQ(l:List Cell)(s:A8):C8 (Jp l) s=N1 s l:=by simp[C8,Jp,N1]
theorem GY{α:Type}{f:α→D}{z:D}(pre:List α)(x:α)(k:Nat){i:Nat}(hi:i=pre.length):((pre.map f)++Alh (k+1) z).set i (f x)=((pre++[x]).map f)++Alh k z:=by
 subst hi;exact K5 pre x k
theorem Uh(a b:Arr)(ha:Fits a)(hb:Fits b):Sp 182 [dA a,dA b] [dB (H0 a b)]:=by
 refine Af 0 (Aco _ _ _) (Aa (Em a ha) (Aa (Em b hb) ?_))
 simp only[Ah]
 exact Aa (F9 _ _) (Ac rfl)
theorem MN(s:A8)(sh:List Int)(cs:List Cell)(h:sh.length≤1048576):Sp 181 [dB s,dI sh,.sl (cs.map dC)] [dA (.mk s sh cs)]:=by
 refine Af 0 (Acs _ _ _ _) (Av (by simp only[B0,Ali,Aj];omega) (Ac ?_))
 rw[Dk];rfl
theorem Acd(hF:Lc){d:Nat}(a b:Arr)(ha:Sml (d+1) a)(hb:Sml (d+1) b)(la:a.cells.length≤2048)(lb:b.cells.length≤2048):Sp 106 [dA a,dA b] [dA (U5 a b).1,.int (U5 a b).2]:=by
 refine Af 4096 (Ace _ _ _) ?_
 unfold U5
 simp only[Ah,Cq,Gp]
 refine Ae (fun h=>Ac (by rw[if_neg (by omega)])) (fun h=> ?_)
 rw[if_pos (by omega)]
 obtain ⟨g,hg,hsp⟩:=hF d a.cells ha.cell la
 refine Aa hsp (Ad (Ad (Av (by simp only[Aj];omega) ?_)))
 have key:=B1 b.cells (fun m k (cs:List D)=>Nj 4096 m (Lt g a.cells) cs (.sl (b.cells.map dC)) (b.cells.length:Int) (k:Int) (dA a) (dA b) 0 0) (fun _ _=>[dA (.mk (H0 a b) b.shape (b.cells.map (Hi a.cells))),.int 0])
  (fun rest cs=>∃ pre:List Cell,b.cells=pre++rest∧cs=(pre.map (Hi a.cells)).map dC++Alh rest.length (dC Cell.none))
  (fun m k cs hk hI=>by
   obtain ⟨pre,h1,rfl⟩:=hI
   rw[Al2]at h1
   simp only[MC,Ah]
   refine Aq (Aa (Uh a b ha.fits hb.fits) ?_)
   simp only[Ah,Alz,List.replicate_zero,Al2]
   exact Aa (MN (H0 a b) b.shape _ hb.1) (Ac (by rw[h1];rfl)))
  (fun m k cs c rest hdr hI ih=>by
   obtain ⟨h1,h2,h3⟩:=Bv hdr
   obtain ⟨pre,hp,rfl⟩:=hI
   have hk:k=(pre.map (Hi a.cells)).length:=by
     have:=congrArg List.length hdr
     rw[hp]at this h1
     simp at this h1 ⊢; omega
   have hcl:((pre.map (Hi a.cells)).map dC++Alh (rest.length+1) (dC Cell.none)).length=b.cells.length:=by rw[hp];simp
   have hpl:=AfI (c:=c) la
   have nxt:Tw (Nj 4096 m (Lt g a.cells) (((pre.map (Hi a.cells)).map dC++Alh (rest.length+1) (dC Cell.none)).set k (dC (Hi a.cells c))) (.sl (b.cells.map dC)) (b.cells.length:Int) ((k+1:Nat):Int) (dA a) (dA b) 0 0) [dA (.mk (H0 a b) b.shape (b.cells.map (Hi a.cells))),.int 0]:=by
     rw[GY (f:=dC) (z:=dC Cell.none) _ _ _ hk]
     exact ih _ ⟨pre++[c],by rw[hp];simp,by simp⟩
   simp only[MC,Ah,Ar h2,Bb k,Gs,Gq,Gr,List.singleton_append,All,hcl]
   refine Ad (Ad (Ad (Aa (Un g a.cells c hg (hb.cell c (Alm h2)) ha.cell (by omega)) ?_)))
   simp only[Ag,Ak]
   refine Ae (fun hlt=> ?_) (fun hlt=> ?_)
   · have w1:Ale .i64 ((a.cells.length:Int)+1)=(a.cells.length:Int)+1:=As (by omega) (by omega)
     have e1:Hi a.cells c=Be ((a.cells.length:Int)+1):=by unfold Hi;rw[if_pos hlt]
     rw[w1]
     rw[e1]at nxt
     refine Aa (Hz _ (Et (by omega) (by omega))) (Ad (Ad nxt))
   · have w1:Ale .i64 (Dm a.cells c 0+1)=Dm a.cells c 0+1:=As (by omega) (by omega)
     have e1:Hi a.cells c=Be (Dm a.cells c 0+1):=by unfold Hi;rw[if_neg hlt]
     rw[w1]
     rw[e1]at nxt
     exact Aa (Hz _ (Et (by omega) (by omega))) (Ad (Ad nxt)))
  4096 0 (Alh b.cells.length (dC Cell.none)) (by omega) (by omega) ⟨[],by simp,by simp⟩
 exact key
theorem Ach(hF:Lc){d:Nat}(a b:Arr)(ha:Sml (d+1) a)(hb:Sml (d+1) b)(la:a.cells.length≤2048)(lb:b.cells.length≤2048):Sp 107 [dA a,dA b] [dA (Qo a b)]:=by
 refine Af 4096 (Aci _ _ _) ?_
 simp only[Ah,Cq,Gp]
 obtain ⟨g,hg,hsp⟩:=hF d b.cells hb.cell lb
 refine Aa hsp (Ad (Ad (Av (by simp only[Aj];omega) ?_)))
 have key:=B1 a.cells (fun m k (cs:List D)=>Nk 4096 m (Lt g b.cells) cs (.sl (a.cells.map dC)) (a.cells.length:Int) (k:Int) (dA a) (dA b) 0) (fun _ _=>[dA (Qo a b)])
  (fun rest cs=>∃ pre:List Cell,a.cells=pre++rest∧cs=(pre.map (I7 b.cells)).map dC++Alh rest.length (dC Cell.none))
  (fun m k cs hk hI=>by
   obtain ⟨pre,h1,rfl⟩:=hI
   rw[Al2]at h1
   simp only[ME,Ah]
   refine Aq (Aa (Uh a b ha.fits hb.fits) ?_)
   simp only[Ah,Alz,List.replicate_zero,Al2]
   exact Aa (MN (H0 a b) a.shape _ ha.1) (Ac (by unfold Qo;rw[h1];rfl)))
  (fun m k cs c rest hdr hI ih=>by
   obtain ⟨h1,h2,h3⟩:=Bv hdr
   obtain ⟨pre,hp,rfl⟩:=hI
   have hk:k=(pre.map (I7 b.cells)).length:=by
     have:=congrArg List.length hdr
     rw[hp]at this h1
     simp at this h1 ⊢; omega
   have hcl:((pre.map (I7 b.cells)).map dC++Alh (rest.length+1) (dC Cell.none)).length=a.cells.length:=by rw[hp];simp
   have nxt:Tw (Nk 4096 m (Lt g b.cells) (((pre.map (I7 b.cells)).map dC++Alh (rest.length+1) (dC Cell.none)).set k (dC (I7 b.cells c))) (.sl (a.cells.map dC)) (a.cells.length:Int) ((k+1:Nat):Int) (dA a) (dA b) 0) [dA (Qo a b)]:=by
     rw[GY (f:=dC) (z:=dC Cell.none) _ _ _ hk]
     exact ih _ ⟨pre++[c],by rw[hp];simp,by simp⟩
   simp only[ME,Ah,Ar h2,Bb k,Gs,Gq,Gr,List.singleton_append,All,hcl]
   refine Ad (Ad (Ad (Aa (Un g b.cells c hg (ha.cell c (Alm h2)) hb.cell (by omega)) ?_)))
   simp only[Ag,Ak]
   refine Ae (fun hlt=> ?_) (fun hlt=> ?_)
   · have e1:I7 b.cells c=Be 1:=by unfold I7;rw[if_pos hlt]
     rw[e1]at nxt
     exact Aa (Hz _ (Et (by omega) (by omega))) (Ad (Ad nxt))
   · have e1:I7 b.cells c=Be 0:=by unfold I7;rw[if_neg hlt]
     rw[e1]at nxt
     exact Aa (Hz _ (Et (by omega) (by omega))) (Ad (Ad nxt)))
  4096 0 (Alh a.cells.length (dC Cell.none)) (by omega) (by omega) ⟨[],by simp,by simp⟩
 exact key
theorem SE : ∀ (l:List Cell) (c:Cell) (k i:Nat),l[i]? = some c→(Dm l c k=((k+i:Nat):Int)↔Dm (l.take i) c k<0)
 | [],c,k,i,h=>by simp at h
 | x::xs,c,k,0,h=>by
  simp at h
  subst h
  simp[Dm,Aiz]
 | x::xs,c,k,i+1,h=>by
  simp only[List.take_succ_cons,Dm]
  have ih:=SE xs c (k+1) i (by simpa using h)
  split
  · constructor <;> intro hh <;> omega
  · rw[← ih,show k+1+i=k+(i+1) by omega]
theorem Acm(hF:Lc){d:Nat}(a:Arr)(ha:Sml (d+1) a)(la:a.cells.length≤2048):Sp 67 [dA a] [dA (Z2 a).1,.int (Z2 a).2]:=by
 refine Af 4096 (Acn _ _) ?_
 unfold Z2
 simp only[Ah,Cq,Gp]
 refine Ae (fun h=>Ac (by rw[if_pos (by omega)])) (fun h=> ?_)
 rw[if_neg (by omega)]
 obtain ⟨g,hg,hsp⟩:=hF d a.cells ha.cell la
 refine Aa hsp ?_
 have key:=B1 a.cells (fun m k (out:List Cell)=>P1 4096 m (Lt g a.cells) (out.map dC) (.sl (a.cells.map dC)) (a.cells.length:Int) (k:Int) (dA a) 0 0) (fun rest out=>[dA (N1 (A5 a) (out++O7 a.cells rest (a.cells.length-rest.length))),.int 0])
  (fun rest out=>out.length+rest.length≤2048∧∀ c∈out,SmlC d c)
  (fun m k out hk hI=>by
   simp only[MG,Ah]
   refine Aq (Aa (Mz out hI.2 (by have:=hI.1;omega)) (Aa (Em a ha.fits) ?_))
   simp only[Ah]
   refine Aa (Fz (Jp out) (A5 a)) (Ac ?_)
   simp only[O7,Al2,Ag]
   rw[FQ])
  (fun m k out c rest hdr hI ih=>by
   obtain ⟨h1,h2,h3⟩:=Bv hdr
   have hle:=congrArg List.length hdr
   rw[Alu,All]at hle
   have hk:a.cells.length-(c::rest).length=k:=by rw[All];omega
   have hk':a.cells.length-rest.length=k+1:=by omega
   have hcm:=Alm h2
   have hpt:=SE a.cells c 0 k h2
   rw[Amn]at hpt
   have hI1:=hI.1
   rw[All]at hI1
   simp only[MG,Ah,Ar h2,Bb k,Gs,Gq,Gr,List.singleton_append]
   refine Ad (Ad (Ad (Aa (Un g a.cells c hg (ha.cell c hcm) ha.cell (by omega)) ?_)))
   simp only[Ag,Ak,hk,O7]
   refine Ae (fun he=>Av (by simp only[All,Alz,Aj];omega) ?_) (fun he=> ?_)
   · have:=ih (out++[c]) ⟨by simp;omega,fun x hx=>by rcases List.mem_append.1 hx with hx | hx;exact hI.2 x hx;simp at hx;subst hx;exact ha.cell _ hcm⟩
     rw[List.map_append,hk']at this
     rw[if_pos (hpt.1 he)]
     refine Tree.wp_mono this (fun ys hy=>hy.trans ?_)
     simp
   · have:=ih out ⟨by omega,hI.2⟩
     rw[hk']at this
     rw[if_neg (fun hh=>he (hpt.2 hh))]
     exact this)
  4096 0 [] (by omega) (by omega) ⟨by simpa using la,by simp⟩
 simpa using key
theorem YU{l o:List Cell}{i:Bool} : ∀ c∈Gf l o i,c∈l:=fun c h=>(List.mem_filter.1 h).1
theorem YT{l o:List Cell}{i:Bool} : (Gf l o i).length≤l.length:=List.length_filter_le _ _
theorem AjV{l o:List Cell}{c:Cell}{i:Bool}(h:(decide (0≤Dm o c 0)==i)=true):Gf (c::l) o i=c::Gf l o i:=List.filter_cons_of_pos h
theorem AjU{l o:List Cell}{c:Cell}{i:Bool}(h:(decide (0≤Dm o c 0)==i)=false):Gf (c::l) o i=Gf l o i:=List.filter_cons_of_neg (by rw[h];decide)
theorem MP(hF:Lc){d e:Nat}(l o:List Cell)(in_:Bool)(hl : ∀ x∈l,SmlC d x)(ho : ∀ x∈o,SmlC e x)(ll:l.length≤2048)(lo:o.length≤2048):Sp 185 [.sl (l.map dC),.sl (o.map dC),.bool in_] [.sl ((Gf l o in_).map dC)]:=by
 refine Af 4096 (Acu _ _ _ _) ?_
 simp only[Ah]
 obtain ⟨g,hg,hsp⟩:=hF e o ho lo
 refine Aa hsp ?_
 have key:=B1 l (fun m k (out:List Cell)=>P4 4096 m in_ (Lt g o) (out.map dC) (.sl (l.map dC)) (l.length:Int) (k:Int)) (fun rest out=>[.sl ((out++Gf rest o in_).map dC)]) (fun rest out=>out.length+rest.length≤2048)
  (fun m k out hk hI=>by
   simp only[MO]
   exact Aq (Ac (by simp[Gf])))
  (fun m k out c rest hdr hI ih=>by
   obtain ⟨h1,h2,h3⟩:=Bv hdr
   rw[All]at hI
   simp only[MO,Ah,Ar h2,Bb k,Gs,Gq,Gr,List.singleton_append]
   refine Ad (Ad (Ad (Aa (Un g o c hg (hl c (Alm h2)) ho (by omega)) ?_)))
   simp only[Ag,Ak]
   refine Ch (fun hb=>Av (by simp only[All,Alz,Aj];omega) ?_) (fun hb=> ?_)
   · have:=ih (out++[c]) (by simp;omega)
     rw[List.map_append]at this
     refine Tree.wp_mono this (fun ys hy=>hy.trans ?_)
     rw[AjV hb]
     simp
   · have:=ih out (by omega)
     refine Tree.wp_mono this (fun ys hy=>hy.trans ?_)
     rw[AjU hb])
  4096 0 [] (by omega) (by omega) (by simpa using ll)
 simpa using key
theorem MF(hF:Lc){d e:Nat}(a b:Arr)(in_:Bool)(ha:Sml (d+1) a)(hb:Sml (e+1) b)(la:a.cells.length≤2048)(lb:b.cells.length≤2048):Sp 109 [dA a,dA b,.bool in_] [dA (R3 a b in_).1,.int (R3 a b in_).2]:=by
 refine Af 0 (Acj _ _ _ _) ?_
 unfold R3
 simp only[Ah,Cq]
 refine Ae (fun h=>Ac (by rw[if_pos (by omega)])) (fun h=> ?_)
 rw[if_neg (by omega)]
 have hs:=YT (l:=a.cells) (o:=b.cells) (i:=in_)
 refine Aa (MP hF a.cells b.cells in_ ha.cell hb.cell la lb) (Aa (Mz _ (fun c hc=>ha.cell c (YU c hc)) (by omega)) (Aa (Uh a b ha.fits hb.fits) ?_))
 simp only[Ah]
 refine Aa (Fz _ (H0 a b)) (Ac ?_)
 rw[Ag,FQ]
theorem Ack(hF:Lc){d:Nat}(a b:Arr)(ha:Sml (d+1) a)(hb:Sml (d+1) b)(la:a.cells.length≤2048)(lb:b.cells.length≤2048):Sp 108 [dA a,dA b] [dA (Z1 a b).1,.int (Z1 a b).2]:=by
 refine Af 0 (Acl _ _ _) ?_
 unfold Z1
 simp only[Ah,Cq,Gp,List.replicate_zero,Amo,Alz]
 refine Ae (fun h=>Ac (by rw[if_pos (by omega)])) (fun h=> ?_)
 rw[if_neg (by omega)]
 refine Ae (fun h=>Ac (by rw[if_pos (by omega)])) (fun h=> ?_)
 rw[if_neg (by omega)]
 have hs:=YT (l:=b.cells) (o:=a.cells) (i:=false)
 refine Aa (MP hF b.cells a.cells false hb.cell ha.cell lb la) ?_
 simp only[Ah]
 have w1:Ale .i64 ((a.cells.length:Int)+((Gf b.cells a.cells false).length:Int))=(a.cells.length:Int)+((Gf b.cells a.cells false).length:Int):=As (by omega) (by omega)
 simp only[w1]
 refine Ae (fun h=>Ac (by rw[if_pos (by omega)])) (fun h=> ?_)
 rw[if_neg (by omega)]
 refine Ad (Ad (Av (by simp only[Aj];omega) (Av (by simp only[Aj];omega) (Av (by simp only[Ali,Aj];omega) ?_))))
 rw[← List.map_append]
 refine Aa (Mz _ (fun c hc=>by
  rcases List.mem_append.1 hc with hc | hc
  · exact ha.cell c hc
  · exact hb.cell c (YU c hc)) (by rw[Alr];omega)) (Aa (Uh a b ha.fits hb.fits) ?_)
 simp only[Ah]
 refine Aa (Fz _ (H0 a b)) (Ac ?_)
 rw[Ag,FQ]
theorem Ak7(k:Nat):Hx (k+1)=Hx k++[(k:Int)+1]:=by simp[Hx,List.range_succ]
theorem IP(k:Nat):(Hx k).length=k:=by simp[Hx]
theorem Ak6{k:Nat}(h:k≤2048) : ∀ x∈Hx k,Bc x:=fun x hx=>by
 simp only[Hx,List.mem_map,List.mem_range]at hx
 obtain ⟨i,hi,rfl⟩:=hx
 exact Et (by omega) (by omega)
theorem Agh(l:List Int)(s:A8):C8 (Jp (l.map Be)) s=Dh l s:=by simp[C8,Jp,Dh]
theorem AcK{n:Arr}(h : ¬ (A7 n).1.length=1)(h0:(A7 n).2=0):Ly n=(.none,4):=by
 unfold Ly
 rw[if_pos h0]
 split
 · rename_i k hk;rw[hk]at h;exact absurd rfl h
 · rfl
theorem Acf(n:Arr)(hn:Fits n)(hnl:n.cells.length≤2048)(hnt : ∀ c∈n.cells,c.n.top.length≤32):Sp 65 [dA n] [dA (Ly n).1,.int (Ly n).2]:=by
 refine Af 4096 (Acg _ _) (Aa (Ju n hnl hnt) ?_)
 simp only[Ah,Cq,Gp]
 refine Ae (fun h=>Ac (by unfold Ly;rw[if_neg h])) (fun h=> ?_)
 have h0:(A7 n).2=0:=Alt.1 h
 refine Ae (fun h1=>Ac (by rw[AcK (by omega) h0])) (fun h1=> ?_)
 obtain ⟨k,hk⟩:=L6 (l:=(A7 n).1) (by omega)
 unfold Ly
 rw[if_pos h0,hk]
 simp only[Aml,List.map_nil,All,Alz,Ag,Ak]
 refine Ad (Ad (Ae (fun h2=>Ac (by rw[if_pos h2])) (fun h2=> ?_)))
 rw[if_neg h2]
 refine Ad (Ad (Ae (fun h3=>Ac (by rw[if_pos h3])) (fun h3=> ?_)))
 rw[if_neg h3]
 refine Ad (Ad (Ad (Ad (Av (by simp only[Aj];omega) ?_))))
 obtain ⟨K,rfl⟩ : ∃ K:Nat,k=(K:Int):=⟨k.toNat,by omega⟩
 simp only[Aln,Amg]
 have key:=Da K (fun m k (cs:List D)=>Ud 4096 m cs (K:Int) (k:Int) (dA n) 0) (fun _ _=>[dA (Dh (Hx K) (A5 n)),.int 0])
  (fun k cs=>cs=((Hx k).map Be).map dC++Alh (K-k) (dC Cell.none))
  (fun m cs hI=>by
   simp only[MD]
   rw[hI,Nat.sub_self,List.replicate_zero,Al2]
   refine Aq (Aa (Mz (d:=0) _ (fun c hc=>by
    obtain ⟨z,hz,rfl⟩:=List.mem_map.1 hc
    exact Ry (Ak6 (by omega) z hz) 0) (by rw[Ali,IP];omega)) (Aa (Em n hn) ?_))
   simp only[Ah]
   refine Aa (Fz _ (A5 n)) (Ac ?_)
   rw[Ag,Agh])
  (fun m k cs hkK hI ih=>by
   have hcl:cs.length=K:=by rw[hI];simp[IP];omega
   have w1:=Bb k
   simp only[MD,hcl,w1,Aln]
   refine Ad (Aa (Hz _ (Et (by omega) (by omega))) (Ad (Ad ?_)))
   refine ih _ ?_
   rw[hI,show K-k=(K-(k+1))+1 by omega,Ag,GY (f:=dC) (z:=dC Cell.none) ((Hx k).map Be) (Be ((k+1:Nat):Int)) (K-(k+1)) (by simp[IP]),Ak7]
   simp)
  4096 0 (Alh K (dC Cell.none)) (by omega) (by omega) (by simp[Hx])
 exact key
open Go.RowKit Go.WideMaps Go.Maps Go.ChangeShapes
theorem NJ : ∀ (l:List Cell) (c:Cell) (n:Int) (k:Nat),Df (l++[c]) n k=Df l n k++(if B4 0 c=n then [((k+l.length:Nat):Int)] else [])
 | [],c,n,k=>by simp only[Amo,Df,Alz,Nat.add_zero]
 | x::xs,c,n,k=>by
  simp only[List.cons_append,Df,All]
  rw[NJ xs c n (k+1),show k+1+xs.length=k+(xs.length+1) by omega]
  split <;> simp
theorem DC : ∀ (l:List Cell) (n:Int) (k:Nat),(∀ c∈l,B4 0 c≠n)→Df l n k = []
 | [],_,_,_=>rfl
 | x::xs,n,k,h=>by
  simp only[Df]
  rw[if_neg (h x (by simp)),DC xs n (k+1) (fun c hc=>h c (by simp[hc]))]
def g0(l:List Cell):List (Int×List Int):=l.map (fun c=>(B4 0 c,Df l (B4 0 c) 0))
theorem CX(l:List Cell)(n:Int):Gv (g0 l) n=Df l n 0:=by
 have key : ∀ ms:List Cell,Gv (ms.map (fun c=>(B4 0 c,Df l (B4 0 c) 0))) n=if (∃ c∈ms,B4 0 c=n) then Df l n 0 else []:=by
   intro ms
   induction ms with
   | nil=>simp[Gv]
   | cons x xs ih =>
    simp only[Aml,Gv]
    by_cases h:B4 0 x=n
    · rw[if_pos h,if_pos ⟨x,by simp,h⟩,h]
    · rw[if_neg h,ih]
      by_cases h2 : ∃ c∈xs,B4 0 c=n
      · obtain ⟨c,hc,h3⟩:=h2
        rw[if_pos ⟨c,hc,h3⟩,if_pos ⟨c,by simp[hc],h3⟩]
      · rw[if_neg h2,if_neg (fun ⟨c,hc,h3⟩=>by
         rcases Alx.1 hc with rfl | hc
         · exact h h3
         · exact h2 ⟨c,hc,h3⟩)]
 have:=key l
 unfold g0
 rw[this]
 split
 · rfl
 · rename_i h
   exact (DC l n 0 (fun c hc he=>h ⟨c,hc,he⟩)).symm
def NU:DataW Unit→List (DataW Unit) | .slice es _=>es | _=>[]
theorem DU{q:IntKind}{a b:List Int}(h:(lits q a:List (DataW Unit))=lits q b):a=b:=by
 unfold lits at h
 exact (List.map_inj_right (fun x y hxy=>by simpa using hxy)).1 h
theorem Jo:Tryz.prog.underlying 22=some (.int .u64):=by kernel_rfl
theorem O6:Tryz.prog.underlying 173=some (.map 22 23):=by kernel_rfl
theorem Z0:Tryz.prog.underlying 23=some (.slice 3):=by kernel_rfl
theorem Qf:Keyed Tryz.prog 22:=int_keyed Jo
theorem AD(w:World):(zeroValue 23).run Tryz.prog w = .ok (.slice none 0 0) w:=by kernel_rfl
theorem DJ{n:Int}(h0:0≤n)(h1:n≤18446744073709551615):keyOf Tryz.prog 22 (.int .u64 n)=some (.int .u64 n):=by
 have hb:(Lit.int .u64 n).wf=true:=by
  unfold Lit.wf
  simp only[Alp,decide_eq_true_eq]
  exact ⟨h0,h1⟩
 unfold keyOf
 rw[Jo]
 simp only[mapKey,Jo]
 simp[hb]
theorem OD{v:Value}{kl:Lit}(h:keyOf Tryz.prog 22 v=some kl) : ∃ n:Int,v = .int .u64 n∧0≤n∧n≤18446744073709551615∧kl = .int .u64 n:=by
 unfold keyOf at h
 rw[Jo]at h
 simp only[mapKey,Jo]at h
 cases v <;> simp only[reduceCtorEq]at h
 rename_i q n
 split at h
 · rename_i hc
   obtain ⟨rfl,hw⟩:=hc
   unfold Lit.wf at hw
   simp only[Alp,decide_eq_true_eq]at hw
   injection h with h
   exact ⟨n,rfl,hw.1,hw.2,h.symm⟩
 · cases h
theorem Kp{w:World}{o:Obj}{b:Nat}{z:Obj}(h:w.heap[b]? = some z):(w.alloc o).heap[b]? = some z:=(heap_alloc_old w o (Amc.1 h).1).trans h
structure FI (w:World) (l:List Cell) (A:Option Addr) (c k:Nat) (wr:World):Prop where
 groups : ∃ D,wr.ownsGroups (H:=Unit) Tryz.prog 22 (w.heap.size+3) 3 .i64 (w.heap.size+1) k D∧∀ n:Int,0≤n→n<18446744073709551616→NU (D.atKey (.int .u64 n) .nil)=lits .i64 (Df (l.take k) n 0)
 below:Below w.heap.size w wr
 lbox:wr.heap[w.heap.size]? = some (.cells #[.slice A l.length c] 24 (0,0))
 mbox:wr.heap[w.heap.size+2]? = some (.cells #[.map (some (w.heap.size+1))] 173 (0,0))
 size:w.heap.size+3≤wr.heap.size
theorem DH{w:World}{base:Nat}{e:TypeId}{v:Value}{zs:List Int}(h:w.ownsInts base e .i64 v zs):NU (rowDatum .i64 v zs)=lits .i64 zs:=by
 rcases h.datum (H:=Unit) with ⟨h1,h2⟩ | h1
 · rw[h1,h2];rfl
 · rw[h1];rfl
theorem Ac_{w w':World}{base b n:Nat}{D:DataW Unit}(h:w.ownsGroups Tryz.prog 22 base 3 .i64 b n D)(hx:Ext w w'):w'.ownsGroups Tryz.prog 22 base 3 .i64 b n D:=by
 obtain ⟨es,clock,hb,F,hs,rfl,hbb,hlen,hap⟩:=h
 have hg:w.grownBy w' none:=⟨hx.os,hx.tape,hx.output,hx.size,fun k hk _=>hx.block k hk⟩
 have hk : ∀ {v:Value} {zs:List Int},w.ownsInts base 3 .i64 v zs→w'.ownsInts base 3 .i64 v zs:=fun ho=>ho.kept hg (by cases hv:Value.ownBlock _ with | none=>exact .inl rfl | some g=>exact .inr (by simp))
 obtain ⟨F2,hmap,_⟩:=F.stay (R':=rowElem w' base 3 .i64) (fun x _ z hz=>by
  obtain ⟨zs,ho,rfl⟩:=rowElem_inv hz
  exact rowElem_mk (hk ho))
 refine ⟨es,clock,(hx.block b (Amc.1 hb).1).trans hb,F2,hs,by rw[hmap],hbb,fun x hx' zs ho=> ?_,hap⟩
 obtain ⟨y,hy⟩:=F.reads x hx'
 obtain ⟨z,hz,_⟩:=Go.WideElems.rd_val hy
 obtain ⟨zs',ho',_⟩:=rowElem_inv hz
 rw[ho.unique (hk ho')]
 exact hlen x hx' zs' ho'
theorem FI.ext {w wr w':World} {l:List Cell} {A:Option Addr} {c k:Nat} (h:FI w l A c k wr) (hx:Ext wr w'):FI w l A c k w':=by
 obtain ⟨⟨D,h1,h2⟩,h3,h4,h5,h6⟩:=h
 have hs:=hx.size
 exact ⟨⟨D,Ac_ h1 hx,h2⟩,Below.trans h3 (Below.mono hx (by omega)),(hx.block _ (by omega)).trans h4,(hx.block _ (by omega)).trans h5,by omega⟩
theorem FI.look {w wr:World} {l:List Cell} {A:Option Addr} {c k:Nat} (h:FI w l A c k wr) (hk:k<l.length) (hlen:l.length≤2048) (h0:0≤B4 0 l[k]) (h1:B4 0 l[k]≤18446744073709551615) :
   ∃ (es:Array MapEntry) (clk:Nat) (v:Value) (zs:List Int),wr.heap[w.heap.size+1]? = some (.map es clk)∧(∀ y:World,y.heap[w.heap.size+1]? = some (.map es clk)→(Instr.lookup 173 (.map (some (w.heap.size+1))) (.int .u64 (B4 0 l[k])) false).run Tryz.prog y = .ok v y)∧wr.ownsInts (w.heap.size+3) 3 .i64 v zs∧zs.length≤k ∧
     ∀ (wc:World) (v':Value),wr.grownBy wc v.ownBlock→wc.ownsInts (w.heap.size+3) 3 .i64 v' (zs++[(k:Int)])→(v'.ownBlock=v.ownBlock∨∃ g,v'.ownBlock=some g∧wr.heap.size≤g)→∃ w2,(Instr.mapUpdate 173 (.map (some (w.heap.size+1))) (.int .u64 (B4 0 l[k])) v').run Tryz.prog wc = .ok () w2∧FI w l A c (k+1) w2:=by
 obtain ⟨⟨D,hg,hD⟩,hbel,hbox,mbox,hsz⟩:=h
 have hkey:=DJ h0 h1
 obtain ⟨v,zs,hrun,hat,ho,hzl,hback⟩:=hg.at Qf O6 (AD wr) (by unfold maxLen;omega) hkey
 have hg':=hg
 obtain ⟨es,clk,hb,F,_,hDm,_,_,_⟩:=hg
 have hzs:zs=Df (l.take k) (B4 0 l[k]) 0:=by
   have:=hD (B4 0 l[k]) h0 (by omega)
   rw[hat,DH ho]at this
   exact DU this
 have hks : ∀ x∈es.toList,∃ m,x.key = .int .u64 m:=fun x hx=>by
   obtain ⟨y,hy⟩:=F.reads x hx
   obtain ⟨n,hn,_⟩:=OD (Go.WideElems.rd_key hy)
   exact ⟨n,hn⟩
 have lk : ∀ y:World,y.heap[w.heap.size+1]? = some (.map es clk)→∃ u,(∀ y':World,y'.heap[w.heap.size+1]? = some (.map es clk)→(Instr.lookup 173 (.map (some (w.heap.size+1))) (.int .u64 (B4 0 l[k])) false).run Tryz.prog y' = .ok u y'):=by
   intro y hy
   rcases CJ (q':= .u64) (n:=B4 0 l[k]) es.toList 0 hks with ⟨f1,f2⟩ | ⟨j,ex,f1,f2,f3⟩
   · refine ⟨.slice none 0 0,fun y' hy'=> ?_⟩
     unfold Instr.lookup
     have hck:=fun em=>Yh (P:=Tryz.prog) (w:=y') em 9999 (q':= .u64) (i:=B4 0 l[k]) Jo
     simp[run_underlying O6,run_underlying Jo,Yi hy',hck,Instr.findKey,f1,AD y']
   · refine ⟨ex.val,fun y' hy'=> ?_⟩
     unfold Instr.lookup
     have hck:=fun em=>Yh (P:=Tryz.prog) (w:=y') em 9999 (q':= .u64) (i:=B4 0 l[k]) Jo
     simp[run_underlying O6,run_underlying Jo,Yi hy',hck,Instr.findKey,f1]
 obtain ⟨u,hu⟩:=lk wr hb
 have huv:u=v:=by
   have:=hu wr hb
   rw[hrun]at this
   injection this with this
   exact this.symm
 subst huv
 refine ⟨es,clk,u,zs,hb,hu,ho,hzl,fun wc v' hgr hown' hloc=> ?_⟩
 obtain ⟨w2,hmu,hown2,hgr2⟩:=hback wc v' (zs++[(k:Int)]) hgr hown' (by simp;omega) hloc
 have hvb : ∀ j,u.ownBlock=some j→w.heap.size+3≤j:=fun j hj=>(ho.1.lt j hj).1
 have far : ∀ b,b<wr.heap.size→b<w.heap.size+3→b≠w.heap.size+1→w2.heap[b]? = wr.heap[b]? := fun b hb1 hb2 hb3=>by
   have hs:=hgr.size
   rw[hgr2.block b (by omega) (by simp;omega),hgr.block b hb1 (fun e=>by have:=hvb b e.symm;omega)]
 refine ⟨w2,hmu,⟨_,hown2,fun n hn0 hn1=> ?_⟩,?_,(far _ (by omega) (by omega) (by omega)).trans hbox,(far _ (by omega) (by omega) (by omega)).trans mbox,by have:=hgr.size;have:=hgr2.size;omega⟩
 · rw[List.take_add_one,Alg hk]
   show _=lits .i64 (Df (l.take k++[l[k]]) n 0)
   rw[NJ,Alw,Nat.min_eq_left (by omega),Amn]
   have hmk:WideAt.IsKeyLit (.int .u64 (B4 0 l[k])):=Qf.key hkey
   by_cases he:B4 0 l[k]=n
   · subst he
     rw[if_pos rfl,atKey_put_same ⟨_,hDm⟩ hmk,DH hown',hzs]
   · rw[if_neg he,Al2,atKey_put_other (fun e=>he (by injection e with _ e;exact e.symm))]
     exact hD n hn0 hn1
 · exact hbel.groups ho hgr hgr2 (by omega) (by omega) (by omega)
theorem Ad7{d:Nat}{x:Cell}{u:Value}{W:World}(hx:SmlC d x)(h:Rd Tryz.prog md W (fun _=>False) (.ty 67) (dC x) u):Calls Tryz.prog 215 #[.int .u64 0,u] W (fun e w'=>e = .returned (.int .u64 (B4 0 x))∧(0≤B4 0 x∧B4 0 x≤18446744073709551615)∧Ext W w'):=by
 have hps:Tryz.f215.params.toList = [22,67]:=by kernel_rfl
 have ht:Tryz.prog.underlying 22=some (.int .u64):=by kernel_rfl
 exact IA (vs:=[.int .u64 0,u]) (PB d x 0 hx) Tryz.func215 (by kernel_rfl) (fun b hb=>hb.elim) (by kernel_rfl) (by kernel_rfl) (Oj hps (Ol ht (by kernel_rfl) (by kernel_rfl) (by decide) (by decide)) h) (t:=22) (by kernel_rfl) ht
section
variable {w:World} {M:Nat→Prop} {t:Nat} {x:D} {c:Nat→Option Value}
theorem FW{k:IntKind}(h:RdC Tryz.prog md w M (.ty t) x c)(ht:Tryz.prog.underlying t=some (.int k)) : ∃ n,c 0=some (.int k n):=by
 cases h with
 | int ht' h1 h2 hc =>
  have:Tryz.prog.underlying t=_:=ht'
  rw[ht]at this
  injection this with this;injection this with this;subst this
  exact ⟨_,hc⟩
 | bool ht'=>have:Tryz.prog.underlying t=_:=ht';rw[ht]at this;cases this
 | str ht'=>have:Tryz.prog.underlying t=_:=ht';rw[ht]at this;cases this
 | sl ht'=>have:Tryz.prog.underlying t=_:=ht';rw[ht]at this;cases this
 | fn ht'=>have:Tryz.prog.underlying t=_:=ht';rw[ht]at this;cases this
 | ref ht'=>have:Tryz.prog.underlying t=_:=ht';rw[ht]at this;cases this
 | mp ht'=>have:Tryz.prog.underlying t=_:=ht';rw[ht]at this;cases this
 | struct hf=>obtain ⟨⟨a,ha,_⟩,_⟩:=Ck hf;rw[ht]at ha;cases ha
theorem AgI(h:RdC Tryz.prog md w M (.ty t) x c)(ht:Tryz.prog.underlying t=some .bool) : ∃ b,c 0=some (.bool b):=by
 cases h with
 | bool ht' hc=>exact ⟨_,hc⟩
 | int ht'=>have:Tryz.prog.underlying t=_:=ht';rw[ht]at this;cases this
 | str ht'=>have:Tryz.prog.underlying t=_:=ht';rw[ht]at this;cases this
 | sl ht'=>have:Tryz.prog.underlying t=_:=ht';rw[ht]at this;cases this
 | fn ht'=>have:Tryz.prog.underlying t=_:=ht';rw[ht]at this;cases this
 | ref ht'=>have:Tryz.prog.underlying t=_:=ht';rw[ht]at this;cases this
 | mp ht'=>have:Tryz.prog.underlying t=_:=ht';rw[ht]at this;cases this
 | struct hf=>obtain ⟨⟨a,ha,_⟩,_⟩:=Ck hf;rw[ht]at ha;cases ha
theorem FX{e:Nat}(h:RdC Tryz.prog md w M (.ty t) x c)(ht:Tryz.prog.underlying t=some (.slice e)) : ∃ A n m,c 0=some (.slice A n m):=by
 cases h with
 | sl ht' hc=>exact ⟨_,_,_,hc⟩
 | struct hf=>obtain ⟨⟨a,ha,_⟩,_⟩:=Ck hf;rw[ht]at ha;cases ha
 | int ht'=>have:Tryz.prog.underlying t=_:=ht';rw[ht]at this;cases this
 | bool ht'=>have:Tryz.prog.underlying t=_:=ht';rw[ht]at this;cases this
 | str ht'=>have:Tryz.prog.underlying t=_:=ht';rw[ht]at this;cases this
 | fn ht'=>have:Tryz.prog.underlying t=_:=ht';rw[ht]at this;cases this
 | ref ht'=>have:Tryz.prog.underlying t=_:=ht';rw[ht]at this;cases this
 | mp ht'=>have:Tryz.prog.underlying t=_:=ht';rw[ht]at this;cases this
end
theorem Ko{t:Nat}{l:List (Nat×Nat)}(h:(Cx Tryz.prog t).map (fun fs=>fs.map (fun f=>(f.type,f.offset)))=some l){i ft o:Nat}(hi:l[i]? = some (ft,o)){w:World}{M:Nat→Prop}{x:D}{c:Nat→Option Value}(hr:RdC Tryz.prog md w M (.ty t) x c):RdC Tryz.prog md w M (.ty ft) (x.fld i) (fun j=>c (o+j)):=by
 obtain ⟨fs,hf,rfl⟩:=Alv.1 h
 rw[Aly,Alv]at hi
 obtain ⟨f,h1,h2⟩:=hi
 injection h2 with h2 h3
 subst h2
 subst h3
 exact Q_ hr hf h1
theorem P5:(Cx Tryz.prog 67).map (fun fs=>fs.map (fun f=>(f.type,f.offset)))=some [(22,0),(3,1),(64,2),(3,5),(65,6)]:=by kernel_rfl
theorem CP:(Cx Tryz.prog 64).map (fun fs=>fs.map (fun f=>(f.type,f.offset)))=some [(4,0),(62,1),(62,2)]:=by kernel_rfl
theorem AaZ{w:World}{M:Nat→Prop}{x:D}{c:Nat→Option Value}(h:RdC Tryz.prog md w M (.ty 67) x c) : ∃ n0 n1 b A3 k3 m3 A4 k4 m4 n5 A6 k6 m6,c 0=some (.int .u64 n0)∧c 1=some (.int .i64 n1)∧c 2=some (.bool b)∧c 3=some (.slice A3 k3 m3)∧c 4=some (.slice A4 k4 m4)∧c 5=some (.int .i64 n5)∧c 6=some (.slice A6 k6 m6):=by
 obtain ⟨n0,h0⟩:=FW (Ko P5 (i:=0) rfl h) (k:= .u64) (by kernel_rfl)
 obtain ⟨n1,h1⟩:=FW (Ko P5 (i:=1) rfl h) (k:= .i64) (by kernel_rfl)
 have hn:=Ko P5 (i:=2) rfl h
 obtain ⟨b,h2⟩:=AgI (Ko CP (i:=0) rfl hn) (by kernel_rfl)
 obtain ⟨A3,k3,m3,h3⟩:=FX (Ko CP (i:=1) rfl hn) (e:=180) (by kernel_rfl)
 obtain ⟨A4,k4,m4,h4⟩:=FX (Ko CP (i:=2) rfl hn) (e:=180) (by kernel_rfl)
 obtain ⟨n5,h5⟩:=FW (Ko P5 (i:=3) rfl h) (k:= .i64) (by kernel_rfl)
 obtain ⟨A6,k6,m6,h6⟩:=FX (Ko P5 (i:=4) rfl h) (e:=26) (by kernel_rfl)
 exact ⟨n0,n1,b,A3,k3,m3,A4,k4,m4,n5,A6,k6,m6,h0,h1,h2,h3,h4,h5,h6⟩
structure CellAt (wr:World) (bk o:Nat) (x:Cell) (u0 u1 u2 u3 u4 u5 u6:Value):Prop where
 c0:wr.cell? ⟨bk,o,none⟩=some u0
 c1:wr.cell? ⟨bk,o+1,none⟩=some u1
 c2:wr.cell? ⟨bk,o+2,none⟩=some u2
 c3:wr.cell? ⟨bk,o+3,none⟩=some u3
 c4:wr.cell? ⟨bk,o+4,none⟩=some u4
 c5:wr.cell? ⟨bk,o+5,none⟩=some u5
 c6:wr.cell? ⟨bk,o+6,none⟩=some u6
 rd:Rd Tryz.prog md wr (fun _=>False) (.ty 67) (dC x) (.agg #[u0,u1,u2,u3,u4,u5,u6])
theorem Adt{M:Nat→Prop}{l:List Cell}{A:Option Addr}{c:Nat}{w:World}(h:Rd Tryz.prog md w M (.ty 24) (.sl (l.map dC)) (.slice A l.length c)){k:Nat}(hk:k<l.length) : ∃ bk off,A=some ⟨bk,off,none⟩∧bk<w.heap.size∧∀ wr,Below w.heap.size w wr→w.heap.size≤wr.heap.size →
  ∃ n0 n1 b A3 k3 m3 A4 k4 m4 n5 A6 k6 m6,CellAt wr bk (off+k*7) l[k] (.int .u64 n0) (.int .i64 n1) (.bool b) (.slice A3 k3 m3) (.slice A4 k4 m4) (.int .i64 n5) (.slice A6 k6 m6):=by
 have h7:Tryz.prog.cellsOf 67=7:=by kernel_rfl
 obtain ⟨h1,h2,h3⟩:=h
 cases h1 with
 | @sl _ e _ _ A' cap bk off ht hc h4 h5 hA hh =>
  have he:e=67:=by
   have:Tryz.prog.underlying 24=some (.slice e):=ht
   rw[show Tryz.prog.underlying 24=some (.slice 67) by kernel_rfl]at this
   injection this with this;injection this with this;exact this.symm
  subst he
  have hv:Value.slice A l.length c = .slice A' (l.map dC).length cap:=by simpa [Value.cells]using hc
  injection hv with e1 e2 e3
  subst e1
  obtain ⟨a1,a2,a3⟩:=hA (fun e=>by rw[List.map_eq_nil_iff.1 e]at hk;simp at hk)
  refine ⟨bk,off,a1,a3,fun wr hb hsz=> ?_⟩
  have hr:=hh k (dC l[k]) (by rw[Aly,Alg hk];rfl)
  rw[h7]at hr
  have hpos:0<(CT.ty 67).size Tryz.prog:=by show 0<Tryz.prog.cellsOf _;omega
  have hr':RdC Tryz.prog md wr (fun _=>False) (.ty 67) (dC l[k]) (fun j=>wr.cell? ⟨bk,off+k*7+j,none⟩):=by
   have:=hr.mono (w':=wr) (M':=fun _=>False) hsz (fun b _ hlt=>hb.block b hlt) (fun b hf _=>hf.elim)
   refine this.congr (fun j _=> ?_) hpos
   rw[Nat.add_assoc,S6 (hb.block bk a3)]
  obtain ⟨n0,n1,b,A3,k3,m3,A4,k4,m4,n5,A6,k6,m6,c0,c1,c2,c3,c4,c5,c6⟩:=AaZ hr'
  refine ⟨n0,n1,b,A3,k3,m3,A4,k4,m4,n5,A6,k6,m6,c0,c1,c2,c3,c4,c5,c6,?_,h7.symm,by kernel_rfl⟩
  refine hr'.congr (fun j hj=> ?_) hpos
  have hj:j<7:=by
   have:j<Tryz.prog.cellsOf 67:=hj
   omega
  match j,hj with
  | 0,_=>exact c0.symm
  | 1,_=>exact c1.symm
  | 2,_=>exact c2.symm
  | 3,_=>exact c3.symm
  | 4,_=>exact c4.symm
  | 5,_=>exact c5.symm
  | 6,_=>exact c6.symm
theorem AcE(bk off n c k:Nat)(hk:k<n)(w:World):(Instr.indexAt 24 (.slice (some ⟨bk,off,none⟩) n c) (.int .i64 k)).run Tryz.prog w = .ok (.pointer (some ⟨bk,off+k*7,none⟩)) w:=by
 have hu:Tryz.prog.underlying 24=some (.slice 67):=by kernel_rfl
 have h7:Tryz.prog.cellsOf 67=7:=by kernel_rfl
 have hcond:0≤(k:Int)∧(k:Int)<((n:Nat):Int):=by omega
 simp[Instr.indexAt,asIntOf,run_underlying hu,hcond,hk,Gd (P:=Tryz.prog) (t:=67) (by omega),h7,Addr.add_lit]
def Aam(w:World)(l:List Cell)(A:Option Addr)(c:Nat)(e:Ending)(w':World):Prop:=e = .returned (.func (.func 216) #[] #[.pointer (some ⟨w.heap.size+1+1,0,none⟩),.pointer (some ⟨w.heap.size,0,none⟩)])∧FI w l A c l.length w'
theorem FI.start (w:World) (l:List Cell) (A:Option Addr) (c:Nat):FI w l A c 0 (((w.alloc (.cells #[.slice A l.length c] 24)).alloc (.map #[] 0)).alloc (.cells #[.map (some (w.heap.size+1))] 173)):=by
 have h1:((w.alloc (.cells #[.slice A l.length c] 24)).alloc (.map #[] 0)).heap[w.heap.size+1]? = some (.map #[] 0):=by
  have:=heap_alloc_new (w.alloc (.cells #[.slice A l.length c] 24)) (.map #[] 0)
  simpa using this
 have h0:(w.alloc (.cells #[.slice A l.length c] 24)).heap[w.heap.size]? = some (.cells #[.slice A l.length c] 24 (0,0)):=heap_alloc_new w _
 refine ⟨⟨.map [],⟨#[],0,Kp h1,⟨by simp,Go.MapKept.stamped_empty 0,by simp⟩,Als _,rfl,by omega,by simp,by simp⟩,fun n _ _=>rfl⟩,((Below.refl _ _).alloc (Als _) _ |>.alloc (by simp) _ |>.alloc (by simp;omega) _),Kp (Kp h0),?_,by simp⟩
 have:=heap_alloc_new ((w.alloc (.cells #[.slice A l.length c] 24)).alloc (.map #[] 0)) (.cells #[.map (some (w.heap.size+1))] 173)
 simpa using this
set_option maxHeartbeats 1000000 in
theorem Acv{M:Nat→Prop}(l:List Cell)(hl : ∀ x∈l,∃ d,SmlC d x)(hlen:l.length≤2048)(A:Option Addr)(c:Nat)(w:World)(hrd:Rd Tryz.prog md w M (.ty 24) (.sl (l.map dC)) (.slice A l.length c)) :
  Calls Tryz.prog 152 #[.slice A l.length c] w (Aam w l A c):=by
 have hmm:= @run_makeMap Tryz.prog
 have HRD:=Lib.hid hrd
 clear hrd
 have HLL:=Lib.hid hl
 clear hl
 go_enter Tryz.func152,Tryz.ntmps152
 go_wp2_with fail
 go_loopw [10] (fun iv wr=>∃ k:Nat,k≤l.length∧iv = .int .i64 k∧FI w l A c k wr) (fun iv _=>l.length-(intOf iv).toNat)
 case atStart=>exact ⟨0,Nat.zero_le _,rfl,FI.start w l A c⟩
 case round =>
  obtain ⟨k,hk,rfl,HF⟩:=hrel
  by_cases hlt:k<l.length
  · obtain ⟨bk,off,rfl,hbk,hcell⟩:=Adt HRD.out hlt
    obtain ⟨n0,n1,b,A3,k3,m3,A4,k4,m4,n5,A6,k6,m6,hca⟩:=hcell wr HF.below (by have:=HF.size;omega)
    clear hcell
    have hc0:=hca.c0
    have hc1:=hca.c1
    have hc2:=hca.c2
    have hc3:=hca.c3
    have hc4:=hca.c4
    have hc5:=hca.c5
    have hc6:=hca.c6
    have HRU:=Lib.hid hca
    clear hca
    obtain ⟨d,hsx⟩:=HLL.out l[k] (Amj hlt)
    have HSX:=Lib.hid hsx
    clear hsx
    have HIX:=AcE bk off l.length c k hlt
    have HFH:=Lib.hid HF
    clear HF
    go_wp2_with (first
      | (go_at_call 215;refine (Ad7 HSX.out ?_).mono ?_;rotate_left;rintro e w1 ⟨rfl,hb1,hx1⟩))
    · have hfi:=HFH.out.ext (Ext.trans ((Ext.refl wr).alloc _) hx1)
      obtain ⟨es,clk,v,zs,hb,hu,ho,hzl,hnext⟩:=hfi.look hlt hlen hb1.1 hb1.2
      have hsz1:=hfi.size
      have hmb0:=hfi.mbox
      have hvb : ∀ j,v.ownBlock=some j→w.heap.size+3≤j:=fun j hj=>(ho.1.lt j hj).1
      have KS : ∀ y:World,y.heap[w.heap.size+2]? = some (.cells #[.map (some (w.heap.size+1))] 173 (0,0))→y.heap[w.heap.size+2]? = some (.cells #[.map (some (w.heap.size+1))] 173 (0,0))∧y.cell? ⟨w.heap.size+1+1,0,none⟩=some (.map (some (w.heap.size+1))):=by
       intro y h2
       refine ⟨h2,?_⟩
       unfold World.cell?
       simp[h2]
      have hlk1:=hu w1 hb
      have hlk2:=hu w1.drew hb
      have hlk3:=hu (w1.alloc (.cells #[.int .i64 k] 3)) (Kp hb)
      have hlk4:=hu (w1.alloc (.cells #[.int .i64 k] 3)).drew (Kp hb)
      have hlk5:=hu (w1.drew.alloc (.cells #[.int .i64 k] 3)) (Kp (w:=w1.drew) hb)
      have hinfo : ∃ i0,Tryz.prog.info? 3=some i0∧i0.zero=some (.int .i64 0)∧i0.size=1∧i0.bytes=8:=info_parts (P:=Tryz.prog) (e:=3) (z:= .int .i64 0) (size:=1) (bytes:=8) (by kernel_rfl)
      obtain ⟨i0,hi0,hz0,hz1,hz2⟩:=hinfo
      obtain ⟨_,hcell1⟩:=KS w1 hmb0
      have GD : ∀ {x y:World} {r:Option Nat},x.drew.grownBy y r→x.grownBy y r:=fun h=>⟨h.os,h.tape,h.output,h.size,h.block⟩
      have WFK:(Lit.int .i64 (k:Int)).wf=true:=WalkArith.wf_i64 (by omega)
      go_region_held3 (fun y=>y.heap[w.heap.size+2]? = some (.cells #[.map (some (w.heap.size+1))] 173 (0,0))∧y.cell? ⟨w.heap.size+1+1,0,none⟩=some (.map (some (w.heap.size+1))))
       ((go_split_ands;first | (refine ⟨?_,?_⟩ <;> assumption) | exact KS _ hfi5.mbox | exact KS _ (by assumption) | exact KS _ (Kp (by assumption)) | exact KS _ ((hgrow.block _ (by simp;omega) (by intro e;have:=hvb _ e.symm;omega)).trans (by first | assumption | exact Kp (by assumption)))))
       ((refine step_append_lies _ (by rfl) _ _ _ (by rfl) (w.heap.size+3) 3 i0 _ 1 8 Z0 hi0 hz0 hz1 hz2 rfl (by omega) v zs.length (zs.map (Value.int .i64)) (by rfl) ((ho.1.alloc _).drew) ⟨w1.heap.size,0,none⟩ 1 1 [.int .i64 k] (by rfl) (by rfl) (World.news_of_block (cs:= #[.int .i64 k]) (t:=3) (fr:=(0,0)) (heap_alloc_new w1 _)) (by simp[Value.oneCell']) (by omega) (by unfold maxLen;omega) (by omega) (by simp;omega) (w1.heap.size+1) (by simp) ?_;intro gg cap w4 hown4 hgrow hat hlt4;obtain ⟨w5,hmu,hfi5⟩:=hnext w4 _ ((World.grownBy_alloc w1 _ _).trans (GD hgrow)) (ho.appended hown4 WFK) (hat.imp (fun h=>h.symm) (fun h=>⟨gg,rfl,by omega⟩))))
      all_goals
       go_wp2_with fail
       go_roundw
       · exact ⟨k+1,by omega,by go_num,hfi5⟩
       · simp[intOf];omega
    · exact Jc HRU.out.rd ((Ext.refl wr).alloc _) (fun b hb _=>hb)
  · have hkn:k=l.length:=by omega
    subst hkn
    go_wp2_with fail
    go_ret
    exact ⟨rfl,HF⟩
theorem EA(k n:Int):0≤E8 k n∧E8 k n≤18446744073709551615:=by
 unfold E8 Bj
 simp only
 rw[IntKind.wrap_u64]
 omega
def Hq(k:Int):Prop:=0≤k∧k≤18446744073709551615
theorem P6{α:Type}{f:Int→α→Int} : ∀ {l:List α} {k:Int},Hq k→(∀ x∈l,∀ k,Hq k→Hq (f k x))→Hq (l.foldl f k)
 | [],_,h,_=>h
 | x::xs,k,h,hf=>by
  rw[List.foldl_cons]
  exact P6 (l:=xs) (hf x (by simp) k h) (fun y hy=>hf y (List.mem_cons_of_mem _ hy))
theorem OY{c:Cell}{k:Int}(h : ∀ x∈c.inn,∀ k,Hq k→Hq (E7 k x)):Hq (B4 k c):=by
 rw[N2]
 refine P6 ?_ h
 have h1 : ∀ (l:List Ao) {k:Int},Hq k→Hq (Ia k l):=fun l k hk=>P6 hk (fun x _ k _=>EA _ _)
 refine h1 _ (h1 _ ?_)
 split <;> exact EA _ _
theorem Ad4(a:Arr) : ∀ k,Hq k→Hq (E7 k a):=by
 induction a using Arr.ind with
 | h s sh cs IH =>
  intro k hk
  rw[Vl]
  exact P6 (P6 hk (fun x _ k _=>EA _ _)) (fun c hc k _=>OY (IH c hc))
theorem Ad6(c:Cell)(k:Int):Hq (B4 k c):=OY (fun x _=>Ad4 x)
theorem RI{α:Type}{f:α→Lit×DataW Unit} : ∀ {l:List α} {x y:α},(l.map f).Pairwise (fun p q=>p.1≠q.1)→x∈l→y∈l→(f x).1=(f y).1→x=y
 | [],x,y,_,hx,_,_=>by cases hx
 | a::l,x,y,h,hx,hy,he=>by
  rw[Aml,List.pairwise_cons]at h
  rcases Alx.1 hx with e1 | hx1 <;> rcases Alx.1 hy with e2 | hy1
  · rw[e1,e2]
  · rw[e1]at he;exact absurd he (h.1 _ (List.mem_map.2 ⟨y,hy1,rfl⟩))
  · rw[e2]at he;exact absurd he.symm (h.1 _ (List.mem_map.2 ⟨x,hx1,rfl⟩))
  · exact RI h.2 hx1 hy1 he
theorem AgF{w:World}{M:Nat→Prop}{base:Nat}{v:Value}{zs:List Int}(h:w.ownsInts base 3 .i64 v zs)(hM : ∀ b,M b→b<base):RdC Tryz.prog md w M (.ty 23) (.sl (zs.map .int)) (fun j=>v.cells[j]?)∧C6 v=false:=by
 have hc1:Tryz.prog.cellsOf 3=1:=by kernel_rfl
 have hti:Tryz.prog.underlying 3=some (.int .i64):=by kernel_rfl
 obtain ⟨hrow,hwf⟩:=h
 rcases hrow.2 with ⟨rfl,h0⟩ | ⟨g,cap,cur,rfl,hbg,hg,hnc,hcm,hcs,htake⟩
 · have:zs = []:=Al7.1 h0
   subst this
   exact ⟨.sl (t:= .ty _) (e:=3) (A:=none) (cap:=0) (bk:=0) (off:=0) Z0 rfl (by simp) (by simp) (fun hne=>absurd rfl hne) (fun i x hx=>by simp at hx),rfl⟩
 · have hcell:=hrow.cells (g:=g) rfl
   refine ⟨.sl (t:= .ty _) (e:=3) (A:=some ⟨g,0,none⟩) (cap:=cap) (bk:=g) (off:=0) Z0 (by simp[Value.cells]) (by simpa using hnc) hcm (fun _=>⟨rfl,fun hm=>by have:=hM g hm;omega,(Amc.1 hg).1⟩) (fun i x hx=> ?_),rfl⟩
   rw[Aly,Alv]at hx
   obtain ⟨z,hz,rfl⟩:=hx
   have hw:=hwf z (Alm hz)
   unfold Lit.wf at hw
   simp only[Alp,decide_eq_true_eq]at hw
   have:=hcell i (.int .i64 z) (by rw[Aly,hz];rfl)
   have ea:(⟨g,0,none⟩:Addr).add i=⟨g,0+i,none⟩:=by unfold Addr.add;split <;> simp_all
   rw[ea]at this
   exact .int (t:= .ty _) (k:= .i64) hti hw.1 hw.2 (by rw[hc1];simpa using this)
theorem FI.map_rd {w w':World} {M:Nat→Prop} {l:List Cell} {A:Option Addr} {c:Nat} (h:FI w l A c l.length w') (hM : ∀ b,M b→b<w.heap.size):RdC Tryz.prog md w' M (.ty 173) (.mp (g0 l)) (fun j=>w'.cell? ⟨w.heap.size+1+1,0+j,none⟩):=by
 obtain ⟨⟨D,hg,hD⟩,_,_,mbox,hsz⟩:=h
 obtain ⟨es,clk,hb,F,_,rfl,_,_,_⟩:=hg
 have hks : ∀ x∈es.toList,∃ n:Int,x.key = .int .u64 n∧0≤n∧n≤18446744073709551615:=fun x hx=>by
   obtain ⟨y,hy⟩:=F.reads x hx
   obtain ⟨n,hn,h0,h1,_⟩:=OD (Go.WideElems.rd_key hy)
   exact ⟨n,hn,h0,h1⟩
 have rdx : ∀ x∈es.toList,∀ n,x.key = .int .u64 n→RdC Tryz.prog md w' M (.ty 23) (.sl ((Gv (g0 l) n).map .int)) (fun j=>x.val.cells[j]?)∧C6 x.val=false:=by
   intro x hx n hn
   obtain ⟨n',hn',h0,h1⟩:=hks x hx
   rw[hn]at hn'
   injection hn' with _ hn'
   subst hn'
   have hkey:=DJ h0 h1
   rcases Maps.fit_look false Qf O6 (AD w') hb F hkey with ⟨_,hne,_⟩ | ⟨e0,y,hm0,h3,_,hR,hat,_⟩
   · exact absurd hn (hne x hx)
   · have hxe:x=e0:=by
       refine RI (fit_apart Qf F) hx hm0 ?_
       obtain ⟨y1,hy1⟩:=F.reads x hx
       obtain ⟨y2,hy2⟩:=F.reads e0 hm0
       rw[Go.WideElems.rg_of hy1,Go.WideElems.rg_of hy2]
       have k1:=Go.WideElems.rd_key hy1
       have k2:=Go.WideElems.rd_key hy2
       rw[hn]at k1
       rw[h3]at k2
       rw[k1]at k2
       injection k2
     subst hxe
     obtain ⟨zs,ho,rfl⟩:=rowElem_inv hR
     have hz:=hD n h0 (by omega)
     rw[hat,List.take_length,DH ho]at hz
     rw[CX,← DU hz]
     exact AgF ho (fun b hb=>by have:=hM b hb;omega)
 refine .mp (t:= .ty _) (b:=w.heap.size+1) O6 Jo Z0 ?_ (fun hm=>by have:=hM _ hm;omega) (by omega) hb (fun x hx=> ?_) (fun x hx n hn=>(rdx x hx n hn).1) (fun x hx=> ?_) (fun n hne=> ?_)
 · have:w'.heap[w.heap.size+1+1]? = some (.cells #[.map (some (w.heap.size+1))] 173 (0,0)):=mbox
   unfold World.cell?
   simp[this]
 · obtain ⟨n,hn,_⟩:=hks x hx;exact ⟨n,hn⟩
 · obtain ⟨n,hn,_⟩:=hks x hx;exact (rdx x hx n hn).2
 · rw[CX]
   by_cases hr:0≤n∧n≤18446744073709551615
   · have hkey:=DJ hr.1 hr.2
     rcases Maps.fit_look false Qf O6 (AD w') hb F hkey with ⟨_,_,hat⟩ | ⟨e0,y,hm0,h3,_⟩
     · have hz:=hD n hr.1 (by omega)
       rw[hat,List.take_length]at hz
       exact (DU (q:= .i64) (a:=[]) hz).symm
     · exact absurd h3 (hne e0 hm0)
   · exact DC l n 0 (fun c _ he=>hr (he▸Ad6 c 0))
theorem Nm:Lc:=by
 intro d l hl hlen
 refine ⟨g0 l,CX l,Zt La Tryz.func152 (by kernel_rfl) (by kernel_rfl) (by kernel_rfl) (fun w M vs hM _ hlv hrd=> ?_)⟩
 have hps:Tryz.f152.params.toList = [24]:=by kernel_rfl
 have hlen1:vs.length=1:=by rw[hlv];rfl
 match vs,hlen1 with
 | [v],_ =>
  rw[hps]at hrd
  have hr:=hrd 0 _ _ _ rfl rfl rfl
  obtain ⟨A,n,c,hv,hn⟩ : ∃ A n c,v = .slice A n c∧n=l.length:=by
   obtain ⟨h1,h2,h3⟩:=hr
   cases h1 with
   | @sl _ e _ _ A' cap bk off ht hc h4 h5 hA hh =>
     have ha:C6 v=false:=by rw[h3];kernel_rfl
     rw[He ha]at hc
     exact ⟨A',_,cap,by simpa using hc,by simp⟩
  subst hv
  subst hn
  refine (Acv l (fun x hx=>⟨d,hl x hx⟩) hlen A c w hr).mono ?_
  rintro e w' ⟨rfl,hfi⟩
  have hx:Ext w w':=by
   have:=hfi.below
   exact ⟨this.os,this.tape,this.output,by have:=hfi.size;omega,fun b hb=>this.block b hb⟩
  refine ⟨[_],rfl,rfl,fun i t u ht hu=> ?_,hx⟩
  rw[show Tryz.f152.resultTypes.toList = [128] by kernel_rfl]at ht
  match i with
  | 0 =>
   cases ht;cases hu
   have hsz:=hfi.size
   refine ⟨.fn (fn:=Tryz.f216) (ps:= #[67]) (rs:= #[3]) (va:=false) (by kernel_rfl) Tryz.func216 (by kernel_rfl) (by kernel_rfl) (by kernel_rfl) rfl rfl rfl (fun i ct d' v' hct hd hv=> ?_) (fun i ct v' hct hv=> ?_),by kernel_rfl,by kernel_rfl⟩
   · match i with
     | 0 =>
      cases hct;cases hd;cases hv
      exact .ref (t:= .ref _) (bk:=w.heap.size+1+1) (off:=0) rfl rfl (fun hm=>by have:=hM _ hm;omega) (by omega) (hfi.map_rd hM)
     | 1 =>
      cases hct;cases hd;cases hv
      refine .ref (t:= .ref _) (bk:=w.heap.size) (off:=0) rfl rfl (fun hm=>by have:=hM _ hm;omega) (by omega) ?_
      have h1:=hr.rd.mono (w':=w') (M':=M) hx.size (fun b _ hb=>hx.block b hb) (fun b hb _=>hb)
      refine h1.congr (fun j hj=> ?_) (by have:(CT.ty 24).size Tryz.prog=1:=(by kernel_rfl);omega)
      have hj:j<1:=by have:(CT.ty 24).size Tryz.prog=1:=(by kernel_rfl);omega
      obtain rfl:j=0:=by omega
      unfold World.cell?
      simp[hfi.lbox,Value.cells]
     | i+2=>cases hct
   · match i with
     | 0=>cases hct;cases hv;exact ⟨rfl,rfl⟩
     | 1=>cases hct;cases hv;exact ⟨rfl,rfl⟩
     | i+2=>cases hct
  | i+1=>simp at ht
end Go.Proofs.YtokkbgpgaheakaaGreat
namespace Go.Proofs.YtokkbgpgaheakaaGreat
theorem NS : ∀ {l:List Int},(∀ x∈l,Bc x)→F7 (l.map Be)=some l
 | [],_=>rfl
 | x::xs,h=>by
  simp only[Aml,F7]
  rw[if_pos (show (Be x).kind=0 from rfl),show (Be x).n=Cm x from rfl,AjA (h x (by simp)),NS (fun y hy=>h y (by simp[hy]))]
  rfl
theorem AjZ(l:List Int)(s:A8):A5 (Dh l s)=s:=by
 rw[YW]
 unfold Dh
 simp only[Arr.cells_mk,Arr.s_mk]
 induction l with
 | nil=>rfl
 | cons x xs ih =>
  rw[Aml,List.foldl_cons,YY]
  have e0:s|||(0:A8)=s:=by simp
  rw[show (Be x).inn = [] from rfl,show (Be x).l=0 from rfl,e0,List.foldl_nil]
  exact ih
section
variable {o:A8} {a b n m:Arr}
end
theorem inr(z:Int)(h1 : -100000≤z:=by decide)(h2:z≤100000:=by decide):Bc z:=by unfold Bc;omega
theorem Qj{z:Int}{k:Nat}(h:z.natAbs<B ^ k):Br z≤k:=Ay.2 h
theorem DP(z:Int):z.natAbs<B ^ Br z:=Ay.1 (Als _)
theorem Adq(x y:Int):Br (x+y)≤max (Br x) (Br y)+1:=by
 refine Qj ?_
 have h1:x.natAbs<B ^ max (Br x) (Br y):=Ame (DP x) (Nat.pow_le_pow_right Bu (Nat.le_max_left _ _))
 have h2:y.natAbs<B ^ max (Br x) (Br y):=Ame (DP y) (Nat.pow_le_pow_right Bu (Nat.le_max_right _ _))
 have h3:=Int.natAbs_add_le x y
 rw[Amk]
 generalize B ^ max (Br x) (Br y)=q at *
 rw[Aw];omega
theorem Adr(x:Int):Br (-x)=Br x:=by unfold Br;rw[Int.natAbs_neg]
theorem Fc(z:Int):(wz z).mag.length=Br z:=rfl
theorem SK : ∀ (k n:Nat) (out base:Int),Br out≤100→Br (Jb k n out base).1≤100
 | 0,_,out,base,h=>h
 | k+1,n,out,base,h=>by
  have z0:Br 0≤100:=by unfold Br;rw[show Int.natAbs 0=0 from rfl,Cs];simp
  rw[Jb]
  generalize (if n % 2=1 then out*base else out)=o
  split
  · exact h
  split
  · exact z0
  split
  · exact z0
  rename_i h3
  split
  · show Br o≤100;omega
  · exact SK k _ o _ (by omega)
theorem AbG(x y:Int)(hy:y≠0):(Dy x y).1*y+(Dy x y).2=x∧(Dy x y).1.natAbs≤x.natAbs+1∧(Dy x y).2.natAbs<y.natAbs∧(0<y→0≤(Dy x y).2)∧(y<0→(Dy x y).2≤0):=by
 have hdm:=Nat.div_add_mod x.natAbs y.natAbs
 have hml:=Al9 x.natAbs (show 0<y.natAbs by omega)
 have hdl:=Nat.div_le_self x.natAbs y.natAbs
 unfold Dy
 generalize x.natAbs / y.natAbs=q at *
 generalize x.natAbs % y.natAbs=r at *
 generalize hX:x.natAbs=X at *
 generalize hY:y.natAbs=Y at *
 have hdm':(Y:Int)*(q:Int)+(r:Int)=(X:Int):=by rw[← hdm];simp
 by_cases hx0:x<0 <;> by_cases hy0:y<0
 · obtain rfl:x = -(X:Int):=by omega
   obtain rfl:y = -(Y:Int):=by omega
   simp only[hx0,hy0,if_true]
   refine ⟨by rw[Int.mul_neg,Int.mul_comm];omega,by omega,by omega,fun h=>by first | omega | exact False.elim h,fun h=>by first | omega | exact False.elim h⟩
 · obtain rfl:x = -(X:Int):=by omega
   obtain rfl:y=(Y:Int):=by omega
   simp only[hx0,hy0,if_true]
   rw[if_neg (by simp)]
   split
   · rename_i h0
     subst h0
     refine ⟨by rw[Int.neg_mul,Int.mul_comm];omega,by omega,by omega,fun h=>by first | omega | exact False.elim h,fun h=>by first | omega | exact False.elim h⟩
   · refine ⟨by rw[Int.sub_mul,Int.neg_mul,Int.mul_comm (q:Int)];omega,by omega,by omega,fun h=>by first | omega | exact False.elim h,fun h=>by first | omega | exact False.elim h⟩
 · obtain rfl:x=(X:Int):=by omega
   obtain rfl:y = -(Y:Int):=by omega
   simp only[hx0,hy0,if_false]
   rw[if_neg (by simp)]
   split
   · rename_i h0
     subst h0
     refine ⟨by rw[Int.neg_mul_neg,Int.mul_comm];omega,by omega,by omega,fun h=>by first | omega | exact False.elim h,fun h=>by first | omega | exact False.elim h⟩
   · refine ⟨by rw[Int.sub_mul,Int.neg_mul_neg,Int.mul_comm (q:Int)];omega,by omega,by omega,fun h=>by first | omega | exact False.elim h,fun h=>by first | omega | exact False.elim h⟩
 · obtain rfl:x=(X:Int):=by omega
   obtain rfl:y=(Y:Int):=by omega
   simp only[hx0,hy0,if_false,if_true]
   refine ⟨by rw[Int.mul_comm];omega,by omega,by omega,fun h=>by first | omega | exact False.elim h,fun h=>by first | omega | exact False.elim h⟩
def Qi:ByteArray:=Jl
def E6(i:Nat):Nat:=(Qi.data.toList.getD i 0).toNat
theorem Adp:((Amd 256).all fun i=>decide (i<2 ^ E6 i)&&(i == 0||decide (2 ^ E6 i≤2*i))&&decide (E6 i≤8))=true:=by kernel_rfl
theorem Nz{i:Nat}(h:i<256):i<2 ^ E6 i∧(0<i→2 ^ E6 i≤2*i)∧E6 i≤8:=by
 have:=List.all_eq_true.1 Adp i (List.mem_range.2 h)
 simp only[Alp,decide_eq_true_eq,Bool.or_eq_true,beq_iff_eq]at this
 exact ⟨this.1.1,fun h0=>by rcases this.1.2 with h | h <;> omega,this.2⟩
theorem Kf{x:Int}(h1:0≤x)(h2:x<256):Ale .u8 x=x:=by rw[IntKind.wrap_u8];omega
theorem LZ(x y:Nat):Al8 (x:Int) (y:Int)=((x / y:Nat):Int):=by
 rw[Int.fdiv_eq_ediv_of_nonneg _ (Int.natCast_nonneg _)];rfl
theorem AaR(x:Nat)(hx:x<B) : ∃ k:Nat,Sp 341 [.int (x:Int)] [.int (k:Int)]∧k≤32∧x<2 ^ k∧(0<x→2 ^ k≤2*x):=by
 have e16:(2:Int) ^ (min (Alf 16) (Alq .u32))=((65536:Nat):Int):=by decide
 have e8:(2:Int) ^ (min (Alf 8) (Alq .u32))=((256:Nat):Int):=by decide
 have hsz:(Qi.size:Int)=256:=by
       have:Qi.size=256:=by kernel_rfl
       omega
 rw[Aw]at hx
 have tr:=AaS 0 (.int (x:Int))
 rw[show Jl=Qi from rfl]at tr
 simp only[Ak,e16,e8,LZ,hsz]at tr
 have fin : ∀ i c:Nat,i<256→c≤24→Ale .i64 ((c:Int)+Ale .i64 (((Qi.data.toList.getD (Alf (Ale .u8 (i:Int))) 0).toNat:Nat):Int))=((c+E6 i:Nat):Int):=by
   intro i c hi hc
   have h8:=(Nz hi).2.2
   rw[Kf (by omega) (by omega),Aln]
   show Ale .i64 ((c:Int)+Ale .i64 ((E6 i:Nat):Int))=_
   rw[As (x:=((E6 i:Nat):Int)) (by omega) (by omega),As (by omega) (by omega)];omega
 have up : ∀ i c:Nat,i<256→0<i→i=x / 2 ^ c→x<2 ^ (c+E6 i)∧2 ^ (c+E6 i)≤2*x:=by
   intro i c hi h0 he
   obtain ⟨h1,h2,_⟩:=Nz hi
   have h3:=h2 h0
   rw[Nat.pow_add]
   have hp:0<2 ^ c:=Nat.pow_pos (by decide)
   constructor
   · have:x / 2 ^ c<2 ^ E6 i:=by omega
     rw[Amm hp]at this
     rwa[Ami]
   · have h4:i*2 ^ c≤x:=by rw[he];exact Nat.div_mul_le_self _ _
     calc 2 ^ c*2 ^ E6 i≤2 ^ c*(2*i):=Nat.mul_le_mul_left _ h3
      _=2*(i*2 ^ c):=by rw[Nat.mul_left_comm,Ami (2 ^ c) i]
      _≤2*x:=Nat.mul_le_mul_left _ h4
 by_cases h1:65536≤x
 · by_cases h2:256≤x / 65536
   · have hi:x / 65536 / 256<256:=by omega
     obtain ⟨u1,u2⟩:=up _ 24 hi (by omega) (by rw[Nat.div_div_eq_div_mul])
     have f1:=fin _ 24 hi (by omega)
     refine ⟨24+E6 (x / 65536 / 256),Af 0 tr ?_,by have:=(Nz hi).2.2;omega,u1,fun _=>u2⟩
     refine Ad (Ax (by decide) (Ad (Ax (by decide) (Av (by rw[Kf (by omega) (by omega)];omega) (Av (by rw[Kf (by omega) (by omega)];omega) (Ac ?_))))))
     rw[show Ale .i64 (16+8)=((24:Nat):Int) by decide,f1]
   · have hi:x / 65536<256:=by omega
     obtain ⟨u1,u2⟩:=up _ 16 hi (by omega) (by rfl)
     have f1:=fin _ 16 hi (by omega)
     refine ⟨16+E6 (x / 65536),Af 0 tr ?_,by have:=(Nz hi).2.2;omega,u1,fun _=>u2⟩
     refine Ad (Ax (by decide) (Aq (Av (by rw[Kf (by omega) (by omega)];omega) (Av (by rw[Kf (by omega) (by omega)];omega) (Ac ?_)))))
     rw[show (16:Int)=((16:Nat):Int) from rfl,f1]
 · by_cases h2:256≤x
   · have hi:x / 256<256:=by omega
     obtain ⟨u1,u2⟩:=up _ 8 hi (by omega) (by rfl)
     have f1:=fin _ 8 hi (by omega)
     refine ⟨8+E6 (x / 256),Af 0 tr ?_,by have:=(Nz hi).2.2;omega,u1,fun _=>u2⟩
     refine Aq (Ad (Ax (by decide) (Av (by rw[Kf (by omega) (by omega)];omega) (Av (by rw[Kf (by omega) (by omega)];omega) (Ac ?_)))))
     rw[show Ale .i64 (0+8)=((8:Nat):Int) by decide,f1]
   · have hi:x<256:=by omega
     have f1:=fin _ 0 hi (by omega)
     have h8:=Nz hi
     refine ⟨0+E6 x,Af 0 tr ?_,by omega,by rw[Amn];exact h8.1,fun h0=>by rw[Amn];exact h8.2.1 h0⟩
     refine Aq (Aq (Av (by rw[Kf (by omega) (by omega)];omega) (Av (by rw[Kf (by omega) (by omega)];omega) (Ac ?_))))
     rw[show (0:Int)=((0:Nat):Int) from rfl,f1]
theorem AaT(x:Nat)(hx:x<B)(h0:0<x) : ∃ s:Nat,Sp 335 [.int (x:Int)] [.int (s:Int)]∧s<32∧x*2 ^ s<B∧B≤2*(x*2 ^ s):=by
 obtain ⟨k,h1,h2,h3,h4⟩:=AaR x hx
 have h5:=h4 h0
 have hk:0<k:=by
   rcases Nat.eq_zero_or_pos k with e | e
   · subst e;simp at h3;omega
   · exact e
 have hb:B=2 ^ k*2 ^ (32-k):=by rw[← Nat.pow_add,show k+(32-k)=32 by omega];rfl
 have hp:0<2 ^ (32-k):=Nat.pow_pos (by decide)
 refine ⟨32-k,Af 0 (AaQ _ _) (Aa h1 (Ac ?_)),by omega,?_,?_⟩
 · simp only[Ag,Ak]
   rw[As (by omega) (by omega)];congr 2;omega
 · rw[hb];exact Nat.mul_lt_mul_of_pos_right h3 hp
 · rw[hb,← Nat.mul_assoc];exact Al1 _ h5
theorem AeN{l m:List Ao}(hl:l.length=m.length)(h:nv l=nv m):l=m:=by
 apply List.ext_getElem hl
 intro i g1 g2
 apply BitVec.eq_of_toNat_eq
 rw[Ds l i g1,Ds m i g2,h]
theorem AeO{v k:Nat}(h:v<B ^ k) : ∃ q:List Ao,q.length=k∧nv q=v:=by
 have h2:=Ay.2 h
 refine ⟨lb v++Alh (k-(lb v).length) 0,by simp;omega,?_⟩
 rw[G0,Wk,Bn];simp
theorem RB{X Y:Nat}(hX:X<18446744073709551616)(hY:Y<18446744073709551616):Bj .or .u64 (X:Int) (Y:Int)=((X|||Y:Nat):Int):=by
 have h:Bj .or .u64 (X:Int) (Y:Int)=bits .or .u64 (X:Int) (Y:Int):=by unfold Bj bits;simp
 rw[h,u64_or_nat X Y hX hY]
theorem Af3{x c s:Nat}(hx:x<B)(hs:s<32)(hc:c<2 ^ s):Bj .or .u64 ((x*2 ^ s:Nat):Int) (c:Int)=((x*2 ^ s+c:Nat):Int)∧x*2 ^ s+c<9223372036854775808:=by
 have h2:2 ^ s≤2 ^ 31:=Nat.pow_le_pow_right (by decide) (by omega)
 have h3:x*2 ^ s≤(B-1)*2 ^ 31:=Nat.mul_le_mul (by omega) h2
 rw[Aw]at *
 refine ⟨?_,by omega⟩
 rw[RB (by omega) (by omega)]
 congr 1
 have:=Nat.shiftLeft_add_eq_or_of_lt (i:=s) (b:=c) hc x
 rw[Nat.shiftLeft_eq]at this
 exact this.symm
theorem SY{s:Nat}(hs:s<32):(2:Int) ^ (min (Alf (Ale .u64 (s:Int))) (Alq .u64))=((2 ^ s:Nat):Int):=by
 rw[Bq (by omega) (by omega),Aln,show Alq .u64=64 from rfl,Nat.min_eq_left (by omega)];simp
theorem QE(l:List Ao)(s:Nat)(hs:s<32)(hl:l.length≤1000000) : ∃ q:List Ao,q.length=l.length+1∧nv q=nv l*2 ^ s∧Sp 336 [dL l,.int (s:Int)] [dL q]:=by
 have hps:2 ^ s≤2 ^ 31:=Nat.pow_le_pow_right (by decide) (by omega)
 have hs0:0<2 ^ s:=Nat.pow_pos (by decide)
 have hv:nv l*2 ^ s<B ^ (l.length+1):=by
  rw[Amk]
  exact Nat.mul_lt_mul'' (B6 l) (by rw[Aw];omega)
 obtain ⟨q,hq1,hq2⟩:=AeO hv
 refine ⟨q,hq1,hq2,Af (l.length+2) (Aez _ _ _) ?_⟩
 simp only[Ah]
 rw[As (by omega) (by omega)]
 refine Ad (Ad (Av (by simp only[Aj];omega) ?_))
 rw[show (l.length:Int)+1=((l.length+1:Nat):Int) by omega,Aln]
 have key:=Da l.length (fun m i (t:List Ao×Nat)=>We (l.length+2) m (dL l) (s:Int) ((t.1++Alh (l.length+1-i) 0).map dB) (t.2:Int) (dL l) (l.length:Int) (i:Int)) (fun _ _=>[dL q])
  (fun i t=>t.1.length=i∧t.2<2 ^ s∧nv t.1+B ^ i*t.2=(nv l % B ^ i)*2 ^ s)
  (fun m t ⟨h1,h2,h3⟩=>by
   have hlen:(t.1++Alh (l.length+1-l.length) (0:Ao)).length=l.length+1:=by simp[h1]
   have hc:t.2<B:=by rw[Aw];omega
   rw[Al_ (B6 l)]at h3
   simp only[QF,Ah,hlen]
   rw[Aw]at hc
   rw[Ey (x:=(t.2:Int)) (by omega) (by omega)]
   rw[← Aw]at hc
   refine Aq (Ad (Ad (Ac ?_)))
   rw[D6 hc,map_set,List.set_append_right _ _ (by omega),h1,Nat.sub_self,show l.length+1-l.length=1 by omega]
   have:t.1++[Al0 32 t.2]=q:=AeN (by simp[h1,hq1]) (by rw[Ic,h1,ofNat_lt hc,h3,hq2])
   rw[← this];rfl)
  (fun m i t hi ⟨h1,h2,h3⟩ ih=>by
   have gx:=Ds l i hi
   have xl:nv l / B ^ i % B<B:=Al9 _ Bu
   have hms:nv l % B ^ (i+1)=nv l % B ^ i+B ^ i*(nv l / B ^ i % B):=Nat.mod_pow_succ
   have hlen:(t.1++Alh (l.length+1-i) (0:Ao)).length=l.length+1:=by simp[h1];omega
   have gX:(l.map dB).getD i D.nil=D.int ((nv l / B ^ i % B:Nat):Int):=by rw[Ar (Alg hi),← gx];rfl
   simp only[QF,Ah,gX,hlen,SY hs,Bb i]
   generalize nv l / B ^ i % B=x at *
   obtain ⟨ho,hT⟩:=Af3 xl hs h2
   have hxB:=xl
   rw[Aw]at hxB
   rw[Bq (x:=(x:Int)) (by omega) (by omega),← Int.natCast_mul,Bq (x:=((x*2 ^ s:Nat):Int)) (by omega) (by omega),ho]
   generalize hTT:x*2 ^ s+t.2=T at *
   have hTl:=Al9 T Bu
   have t4:Ale .u32 (T:Int)=((T % B:Nat):Int):=by rw[IntKind.wrap_u32,Aw];omega
   have Cf:((t.1++Alh (l.length+1-i) 0).map dB).set i (D.int ((T % B:Nat):Int))=((t.1++[Al0 32 (T % B)])++Alh (l.length+1-(i+1)) 0).map dB:=by
     rw[D6 hTl,map_set,List.set_append_right _ _ (by omega),h1,Nat.sub_self,show l.length+1-i=(l.length+1-(i+1))+1 by omega,List.replicate_succ,List.set_cons_zero];simp
   rw[t4,Cf,Ni]
   refine Ad (Ad (Ad (Av (by rw[Bq (by omega) (by omega)];omega) (Ad (Ad (Ax (by decide) ?_))))))
   refine ih (t.1++[Al0 32 (T % B)],T / 4294967296) ⟨by simp[h1],?_,?_⟩
   · show T / B<2 ^ s
     rw[Amm Bu,← hTT]
     have:x*2 ^ s+2 ^ s≤B*2 ^ s:=by rw[← Nat.succ_mul];exact Al1 _ xl
     rw[Ami (2 ^ s) B];omega
   · show nv (t.1++[Al0 32 (T % B)])+B ^ (i+1)*(T / B)=_
     rw[Ic,h1,ofNat_lt hTl,hms,Nat.add_mul,← h3,Amk,Nat.mul_assoc,Nat.mul_assoc (B ^ i) x,Nat.add_assoc,← Nat.mul_add,Nat.mod_add_div,← hTT,Nat.mul_add]
     omega)
  (l.length+2) 0 ([],0) (by omega) (by omega) ⟨rfl,hs0,by simp[Nat.mod_one,nv]⟩
 have e0:(([]:List Ao)++Alh (l.length+1-0) 0).map dB=Alh (l.length+1) (D.int 0):=by simp[List.map_replicate];rfl
 rw[e0]at key
 exact key
theorem AbH(V s k:Nat)(hs:s<32):V / 2 ^ s / B ^ k % B=((V / B ^ (k+1) % B)*B+V / B ^ k % B) / 2 ^ s % B:=by
 have hs0:0<2 ^ s:=Nat.pow_pos (by decide)
 have hB:B=2 ^ s*2 ^ (32-s):=by rw[← Nat.pow_add,show s+(32-s)=32 by omega];rfl
 rw[Nat.div_div_eq_div_mul,Ami (2 ^ s),← Nat.div_div_eq_div_mul,Amk,← Nat.div_div_eq_div_mul]
 generalize V / B ^ k=W
 have h1:W=(W / B % B*B+W % B)+2 ^ s*(B*(2 ^ (32-s)*(W / B / B))):=by
  have e1:=Nat.div_add_mod W B
  have e2:=Nat.div_add_mod (W / B) B
  have e3:2 ^ s*(B*(2 ^ (32-s)*(W / B / B)))=B*(B*(W / B / B)):=by
   rw[Nat.mul_left_comm,← Nat.mul_assoc (2 ^ s),← hB]
  rw[e3,Ami (W / B % B) B]
  have e4:B*(W / B)=B*(B*(W / B / B))+B*(W / B % B):=by rw[← Nat.mul_add,e2]
  omega
 have h2:W / 2 ^ s=(W / B % B*B+W % B) / 2 ^ s+B*(2 ^ (32-s)*(W / B / B)):=by
  have:W / 2 ^ s=((W / B % B*B+W % B)+2 ^ s*(B*(2 ^ (32-s)*(W / B / B)))) / 2 ^ s:=by rw[← h1]
  rw[this,Nat.add_mul_div_left _ _ hs0]
 rw[h2,Nat.add_mul_mod_self_left]
theorem Aen(l:List Ao)(s:Nat)(hs:s<32)(hl:l.length≤1000000):Sp 340 [dL l,.int (s:Int)] [dL (lb (nv l / 2 ^ s))]:=by
 refine Af (l.length+1) (Aeo _ _ _) ?_
 simp only[Ah]
 refine Ad (Ad (Av (by simp only[Aj];omega) ?_))
 have key:=H_ (P:=Tryz.prog) (md:=md) (fun m k (hi:List Ao)=>V6 (l.length+1) m (dL l) (s:Int) ((Alh k 0++hi).map dB) ((nv l / B ^ k % B:Nat):Int) ((k:Int)-1)) (fun _ _=>[dL (lb (nv l / 2 ^ s))])
  (fun k hi=>k≤l.length∧hi.length=l.length-k∧nv hi=nv l / 2 ^ s / B ^ k)
  (fun m hi ⟨h0,h1,h2⟩=>by
   simp only[QB,List.replicate_zero,Amo,Ah]
   refine Aq (Aa (E9 hi (by omega)) (Ac ?_))
   rw[h2,Nat.pow_zero,Nat.div_one];rfl)
  (fun m k hi ⟨h0,h1,h2⟩ ih=>by
   have hk:k<l.length:=by omega
   have gx:=Ds l k hk
   have xl:nv l / B ^ k % B<B:=Al9 _ Bu
   have yl:nv l / B ^ (k+1) % B<B:=Al9 _ Bu
   have hd:=AbH (nv l) s k hs
   have hlen:(Alh (k+1) (0:Ao)++hi).length=l.length:=by simp[h1];omega
   have gX:(l.map dB).getD k D.nil=D.int ((nv l / B ^ k % B:Nat):Int):=by rw[Ar (Alg hk),← gx];rfl
   have b64:(2:Int) ^ (min (Alf 32) (Alq .u64))=4294967296:=by decide
   have rc:=ih (Al0 32 (((nv l / B ^ (k+1) % B)*B+nv l / B ^ k % B) / 2 ^ s % B)::hi) ⟨by omega,by simp[h1];omega,by
    rw[nv,ofNat_lt (Al9 _ Bu),h2,← hd,Amk,← Nat.div_div_eq_div_mul]
    exact Nat.mod_add_div _ _⟩
   simp only[QB,show ((k+1:Nat):Int)-1=(k:Int) by omega,Ah,gX,hlen,SY hs,b64]
   generalize nv l / B ^ k % B=x at *
   generalize nv l / B ^ (k+1) % B=y at *
   have hxB:=xl
   have hyB:=yl
   rw[Aw]at hxB hyB
   have t1:Ale .u64 ((y:Int)*4294967296)=((y*4294967296:Nat):Int):=by rw[Bq (by omega) (by omega)];omega
   rw[t1,Bq (x:=(x:Int)) (by omega) (by omega),Wq hyB hxB,LZ]
   have t4:Ale .u32 (((y*4294967296+x) / 2 ^ s:Nat):Int)=(((y*B+x) / 2 ^ s % B:Nat):Int):=by
    rw[show y*4294967296+x=y*B+x from rfl]
    generalize (y*B+x) / 2 ^ s=T
    rw[IntKind.wrap_u32,Aw];omega
   have hTl:=Al9 ((y*B+x) / 2 ^ s) Bu
   have Cf:((Alh (k+1) 0++hi).map dB).set k (D.int (((y*B+x) / 2 ^ s % B:Nat):Int))=(Alh k 0++(Al0 32 ((y*B+x) / 2 ^ s % B)::hi)).map dB:=by
    rw[D6 hTl,map_set,List.replicate_succ',Al4,List.set_append_right _ _ (by simp)];simp
   rw[t4,Cf,As (by omega) (by omega)]
   refine Ad (Ax (by decide) (Ad (Ad (Av (by rw[Bq (by omega) (by omega)];omega) (Ad (Ad (Ad (Ad ?_))))))))
   exact rc)
  (l.length+1) l.length [] (by omega) ⟨by omega,by simp,by
   rw[Nat.div_eq_of_lt (Nat.lt_of_le_of_lt (Nat.div_le_self _ _) (B6 l))];rfl⟩
 rw[Al2,Nat.div_eq_of_lt (B6 l),Nat.zero_mod]at key
 have e0:(Alh l.length (0:Ao)).map dB=Alh l.length (D.int 0):=by rw[List.map_replicate];rfl
 rw[e0]at key
 rw[As (by omega) (by omega)]
 exact key
theorem AbT{U D D2 U3 p g:Nat}(hD:D<(D2+1)*p)(hU:U3*p≤U)(hg:g*D2≤U3)(hg1:g≤D2+1)(hD0:0<D):g≤U / D+1:=by
 rcases Nat.eq_zero_or_pos g with h0 | h0
 · rw[h0];exact Nat.zero_le _
 obtain ⟨h,rfl⟩ : ∃ h,g=h+1:=⟨g-1,by omega⟩
 refine Nat.succ_le_succ ((Nat.le_div_iff_mul_le hD0).2 ?_)
 have h1:h*D≤h*((D2+1)*p):=Nat.mul_le_mul_left _ (Nat.le_of_lt hD)
 have h2:h*(D2+1)≤(h+1)*D2:=by rw[Nat.mul_add,Nat.add_mul];omega
 calc h*D≤h*((D2+1)*p):=h1
  _=h*(D2+1)*p:=by rw[Nat.mul_assoc]
  _≤(h+1)*D2*p:=Al1 _ h2
  _≤U3*p:=Al1 _ hg
  _≤U:=hU
theorem AbS{U D D2 U3 p g:Nat}(hD:D2*p≤D)(hU:U<(U3+1)*p)(hgt:U3<g*D2)(hD0:0<D):U / D<g:=by
 rw[Amm hD0]
 calc U<(U3+1)*p:=hU
  _≤g*D2*p:=Al1 _ hgt
  _=g*(D2*p):=Nat.mul_assoc _ _ _
  _≤g*D:=Nat.mul_le_mul_left _ hD
theorem Aep(xs ds:List Ao)(n:Nat)(hd:ds.length=n+2)(hx:xs.length=n+3)(hn:n≤1000000)(htop:B ^ (n+2)≤2*nv ds)(hU:nv xs<B*nv ds) :
  ∃ g:Nat,Sp 337 [dL xs,dL ds] [.int (g:Int)]∧nv xs / nv ds≤g∧g≤nv xs / nv ds+1∧g<B:=by
 have xl:=B6 xs
 have dl:=B6 ds
 rw[hx]at xl
 rw[hd]at dl
 have hp:=Bp n
 have a0:=Ds xs n (by omega)
 have a1:=Ds xs (n+1) (by omega)
 have a2:=Ds xs (n+2) (by omega)
 have d0:=Ds ds n (by omega)
 have d1:=Ds ds (n+1) (by omega)
 have gx0:(xs.map dB).getD n D.nil=D.int ((nv xs / B ^ n % B:Nat):Int):=by rw[Ar (Alg (show n<xs.length by omega)),← a0];rfl
 have gx1:(xs.map dB).getD (n+1) D.nil=D.int ((nv xs / B ^ (n+1) % B:Nat):Int):=by rw[Ar (Alg (show n+1<xs.length by omega)),← a1];rfl
 have gx2:(xs.map dB).getD (n+2) D.nil=D.int ((nv xs / B ^ (n+2) % B:Nat):Int):=by rw[Ar (Alg (show n+2<xs.length by omega)),← a2];rfl
 have gd0:(ds.map dB).getD n D.nil=D.int ((nv ds / B ^ n % B:Nat):Int):=by rw[Ar (Alg (show n<ds.length by omega)),← d0];rfl
 have gd1:(ds.map dB).getD (n+1) D.nil=D.int ((nv ds / B ^ (n+1) % B:Nat):Int):=by rw[Ar (Alg (show n+1<ds.length by omega)),← d1];rfl
 clear a0 a1 a2 d0 d1
 generalize nv xs=U at *
 generalize nv ds=D at *
 have eB2:B ^ (n+2)=B ^ n*(B*B):=by rw[Nat.pow_add];rfl
 have eB3:B ^ (n+3)=B ^ n*(B*B*B):=by rw[Nat.pow_add];rfl
 have e1U:U / B ^ (n+1)=U / B ^ n / B:=by rw[Amk,Nat.div_div_eq_div_mul]
 have e2U:U / B ^ (n+2)=U / B ^ n / B / B:=by rw[eB2,Nat.div_div_eq_div_mul,Nat.div_div_eq_div_mul]
 have e1D:D / B ^ (n+1)=D / B ^ n / B:=by rw[Amk,Nat.div_div_eq_div_mul]
 rw[e1U]at gx1
 rw[e2U]at gx2
 rw[e1D]at gd1
 have hD1:D / B ^ n*B ^ n≤D:=Nat.div_mul_le_self _ _
 have hD2:D<(D / B ^ n+1)*B ^ n:=by have:=Nat.lt_mul_div_succ D hp;rwa[Ami]at this
 have hU1:U / B ^ n*B ^ n≤U:=Nat.div_mul_le_self _ _
 have hU2:U<(U / B ^ n+1)*B ^ n:=by have:=Nat.lt_mul_div_succ U hp;rwa[Ami]at this
 have hU3:U / B ^ n<B*B*B:=by rw[Amm hp,Ami];rwa[eB3]at xl
 have hDs:D / B ^ n<B*B:=by rw[Amm hp,Ami];rwa[eB2]at dl
 have hDt:B*B≤2*(D / B ^ n)+1:=by
  have h1:B ^ n*(B*B)<B ^ n*(2*(D / B ^ n)+2):=by
   rw[← eB2,Nat.mul_add]
   have:B ^ n*(2*(D / B ^ n))=2*(D / B ^ n*B ^ n):=by rw[Nat.mul_left_comm,Ami (B ^ n)]
   rw[this]
   have h3:D<D / B ^ n*B ^ n+B ^ n:=by rwa[Nat.add_mul,Nat.one_mul]at hD2
   omega
  have:=Nat.lt_of_mul_lt_mul_left h1
  omega
 have hD0:0<D:=by
  rcases Nat.eq_zero_or_pos D with h | h
  · rw[h]at hU;omega
  · exact h
 have hUD:U / B ^ n<B*(D / B ^ n+1):=by
  rw[Amm hp,Nat.mul_assoc]
  exact Nat.lt_trans hU (Nat.mul_lt_mul_of_pos_left hD2 Bu)
 have hqB:U / D<B:=by rw[Amm hD0];exact hU
 generalize hU3e:U / B ^ n=U3 at *
 generalize hD2e:D / B ^ n=D2 at *
 have x0l:=Al9 U3 Bu
 have x1l:=Al9 (U3 / B) Bu
 have x2l:U3 / B / B<B:=by rw[Nat.div_div_eq_div_mul,Amm (by decide)];rwa[← Nat.mul_assoc]
 have y0l:=Al9 D2 Bu
 have y1l:D2 / B<B:=by rw[Amm Bu];exact hDs
 rw[Al_ x2l]at gx2
 rw[Al_ y1l]at gd1
 have eU:U3=U3 % B+B*(U3 / B % B+B*(U3 / B / B)):=by
  rw[Nat.mod_add_div,Nat.mod_add_div]
 have eD:D2=D2 % B+B*(D2 / B):=(Nat.mod_add_div _ _).symm
 generalize U3 % B=x0 at *
 generalize U3 / B % B=x1 at *
 generalize U3 / B / B=x2 at *
 generalize D2 % B=y0 at *
 generalize D2 / B=y1 at *
 have y1g:2147483648≤y1:=by rw[Aw]at *; omega
 have x2y:x2≤y1:=by rw[Aw]at *; omega
 have fin : ∀ g:Nat,g<B→U / D≤g→g*D2≤U3→U / D≤g∧g≤U / D+1∧g<B:=fun g h1 h2 h3 =>
  ⟨h2,AbT hD2 hU1 h3 (by rw[Aw]at *; omega) hD0,h1⟩
 have eH:U3=(x2*B+x1)*B+x0:=by rw[eU,Nat.add_mul,Nat.mul_add,Ami B (B*x2),Ami B x2,Ami B x1];omega
 have b64:(2:Int) ^ (min (Alf 32) (Alq .u64))=4294967296:=by decide
 have wy1:Ale .u64 (y1:Int)=(y1:Int):=by rw[Aw]at *; exact Bq (by omega) (by omega)
 have wy0:Ale .u64 (y0:Int)=(y0:Int):=by rw[Aw]at *; exact Bq (by omega) (by omega)
 have wx0:Ale .u64 (x0:Int)=(x0:Int):=by rw[Aw]at *; exact Bq (by omega) (by omega)
 have wx1:Ale .u64 (x1:Int)=(x1:Int):=by rw[Aw]at *; exact Bq (by omega) (by omega)
 have wx2:Ale .u64 (x2:Int)=(x2:Int):=by rw[Aw]at *; exact Bq (by omega) (by omega)
 have i1:Ale .i64 (((n+2:Nat):Int)-1)=((n+1:Nat):Int):=by rw[As (by omega) (by omega)];omega
 have i2:Ale .i64 (((n+2:Nat):Int)-2)=((n:Nat):Int):=by rw[As (by omega) (by omega)];omega
 have loop : ∀ (m N g r:Nat),g<m→g*y1+r=x2*B+x1→U / D≤g→r<B →
   ∃ y:Nat,Tw (N8 N m (dL xs) (dL ds) ((n+2:Nat):Int) (g:Int) (r:Int)) [.int (y:Int)]∧U / D≤y∧y≤U / D+1∧y<B:=by
  intro m
  induction m with
  | zero=>intro N g r h;omega
  | succ m ih =>
   intro N g r hm he hq hr
   have gl:g<18446744073709551616:=by
     have:g*1≤g*y1:=Nat.mul_le_mul_left _ (by omega)
     rw[Aw]at *; omega
   have e1:Ale .u64 ((r:Int)+(y1:Int))=((r+y1:Nat):Int):=by rw[Aw]at *; rw[Bq (by omega) (by omega)];omega
   have stp:0<g→U / D≤g-1→∃ y:Nat,Tw (.br (decide (0≤((n+1:Nat):Int))) (.br (decide (((n+1:Nat):Int)<((n+2:Nat):Int))) (.br (decide ((0:Int)≤32)) (.br (decide (¬ (((r+y1) / 4294967296:Nat):Int)=0)) (.ret [.int (Ale .u64 ((g:Int)-1))]) (N8 N m (dL xs) (dL ds) ((n+2:Nat):Int) (Ale .u64 ((g:Int)-1)) ((r+y1:Nat):Int))) .fail) .fail) .fail) [.int (y:Int)]∧U / D≤y∧y≤U / D+1∧y<B:=by
     intro h0 hq'
     obtain ⟨h,rfl⟩ : ∃ h,g=h+1:=⟨g-1,by omega⟩
     simp only[Nat.add_sub_cancel]at hq'
     have ew:Ale .u64 (((h+1:Nat):Int)-1)=(h:Int):=by rw[Bq (by omega) (by omega)];omega
     rw[ew]
     have he':h*y1+(r+y1)=x2*B+x1:=by rw[← he,Nat.add_mul];omega
     by_cases hb:r+y1<B
     · obtain ⟨y,t1,t2⟩:=ih N h (r+y1) (by omega) he' hq' hb
       refine ⟨y,Ad (Ad (Ax (by decide) (Mu ?_ t1))),t2⟩
       rw[Aw]at hb;omega
     · have hlt:h<B:=by
         have h3:x2*B≤y1*B:=Al1 _ x2y
         have h4:h*y1<B*y1:=by rw[Ami B y1];omega
         exact Nat.lt_of_mul_lt_mul_right h4
       refine ⟨h,Ad (Ad (Ax (by decide) (Av ?_ (Ac rfl)))),fin h hlt hq' ?_⟩
       · rw[Aw]at hb;omega
       · have h5:h*y0≤B*B:=Nat.mul_le_mul (by omega) (by omega)
         have h6:B*B≤(r+y1)*B:=Al1 _ (by omega)
         rw[eH,← he',eD,Nat.mul_add,Nat.add_mul,Nat.mul_left_comm h B y1,Ami B (h*y1)]
         omega
   simp only[Aeq,Ah,hd,hx,i1,i2,gx0,gd0,gd1,wy1,wy0,wx0,e1,Ni]
   by_cases hgB:g<B
   · have c0:((g / 4294967296:Nat):Int)=0:=by rw[Aw]at hgB;omega
     have hrB:=hr
     have x0B:=x0l
     rw[Aw]at hrB x0B
     have t1:Ale .u64 ((r:Int)*4294967296)=((r*4294967296:Nat):Int):=by rw[Bq (by omega) (by omega)];omega
     have gy:g*y0≤(B-1)*(B-1):=Nat.mul_le_mul (by omega) (by omega)
     have t2:Ale .u64 ((g:Int)*(y0:Int))=((g*y0:Nat):Int):=by rw[← Int.natCast_mul];rw[Aw]at gy;exact Bq (by omega) (by omega)
     rw[b64,t1,Wq hrB x0B,t2,c0]
     by_cases ht:r*B+x0<g*y0
     · have hlow:U / D<g:=AbS hD1 hU2 (by
         rw[eH,← he,eD,Nat.mul_add,Nat.add_mul,Nat.mul_left_comm g B y1,Ami B (g*y1)];omega) hD0
       obtain ⟨y,s1,s2⟩:=stp (Nat.lt_of_le_of_lt (Nat.zero_le _) hlow) (Nat.le_sub_one_of_lt hlow)
       refine ⟨y,Ax (by decide) (Aq (Ad (Ad (Ax (by decide) (Ad (Ad (Av ?_ s1))))))),s2⟩
       rw[Aw]at ht;omega
     · refine ⟨g,Ax (by decide) (Aq (Ad (Ad (Ax (by decide) (Ad (Ad (Mu ?_ (Ac rfl)))))))),fin g hgB hq ?_⟩
       · rw[Aw]at ht;omega
       · rw[eH,← he,eD,Nat.mul_add,Nat.add_mul,Nat.mul_left_comm g B y1,Ami B (g*y1)];omega
   · obtain ⟨y,s1,s2⟩:=stp (by rw[Aw]at hgB;omega) (by omega)
     refine ⟨y,Ax (by decide) (Av ?_ s1),s2⟩
     rw[Aw]at hgB;omega
 have hH:(x2*B+x1) / y1*y1+(x2*B+x1) % y1=x2*B+x1:=by rw[Ami];exact Nat.div_add_mod _ _
 have hr0:(x2*B+x1) % y1<B:=Nat.lt_trans (Al9 _ (by omega)) y1l
 have hq0:U / D≤(x2*B+x1) / y1:=by
  rw[Nat.le_div_iff_mul_le (by omega)]
  have h1:U / D*D≤U:=Nat.div_mul_le_self _ _
  have h2:U / D*(D2*B ^ n)<(U3+1)*B ^ n:=Nat.lt_of_le_of_lt (Nat.le_trans (Nat.mul_le_mul_left _ hD1) h1) hU2
  rw[← Nat.mul_assoc]at h2
  have h3:=Nat.lt_of_mul_lt_mul_right h2
  have h4:U / D*(B*y1)≤U / D*D2:=Nat.mul_le_mul_left _ (by omega)
  have h5:U / D*y1*B<(x2*B+x1+1)*B:=by
   have:U / D*(B*y1)=U / D*y1*B:=by rw[Ami B y1,Nat.mul_assoc]
   rw[← this,Nat.add_mul,Nat.one_mul]
   omega
  have:=Nat.lt_of_mul_lt_mul_right h5
  omega
 obtain ⟨g,l1,l2⟩:=loop ((x2*B+x1) / y1+1) ((x2*B+x1) / y1+1) ((x2*B+x1) / y1) ((x2*B+x1) % y1) (by omega) hH hq0 hr0
 refine ⟨g,Af ((x2*B+x1) / y1+1) (Aer _ _ _) ?_,l2⟩
 have x1B:=x1l
 have x2B:=x2l
 rw[Aw]at x1B x2B
 have t1:Ale .u64 ((x2:Int)*4294967296)=((x2*4294967296:Nat):Int):=by rw[Bq (by omega) (by omega)];omega
 have hne:decide ¬ (y1:Int)=0=true:=by simp;omega
 have eq1:Ale .u64 (Int.tdiv ((x2*4294967296+x1:Nat):Int) (y1:Int))=(((x2*B+x1) / y1:Nat):Int):=by
  rw[show Int.tdiv ((x2*4294967296+x1:Nat):Int) (y1:Int)=(((x2*B+x1) / y1:Nat):Int) from rfl]
  have h1:(x2*B+x1) / y1≤x2*B+x1:=Nat.div_le_self _ _
  generalize (x2*B+x1) / y1=Q at h1 ⊢
  rw[Aw]at h1
  exact Bq (by omega) (by omega)
 have eq2:Int.tmod ((x2*4294967296+x1:Nat):Int) (y1:Int)=(((x2*B+x1) % y1:Nat):Int):=rfl
 simp only[Ah,hd,hx,i1,gx1,gx2,gd1,wy1,wx1,wx2,b64,t1,Wq x2B x1B,eq1,eq2]
 exact Ad (Ad (Ax (by decide) (Ad (Ad (Ad (Ad (Ad (Ad (Ad (Ad l1))))))))))
open Go.RowKit
def M8(x y c:Int):Int:=if x<y+c then 1 else 0
theorem AjN(x y c:Int)(hx1:0≤x)(hx2:x<4294967296)(hy1:0≤y)(hy2:y<4294967296)(hc1:0≤c)(hc2:c≤1) :
  bits BinOp.or IntKind.u32 (bits BinOp.and IntKind.u32 (bits BinOp.xor IntKind.u32 IntKind.u32.max x) y) (bits BinOp.and IntKind.u32 (bits BinOp.xor IntKind.u32 IntKind.u32.max (bits BinOp.xor IntKind.u32 x y)) ((x-y-c) % 4294967296)) / 2147483648=M8 x y c:=by
 obtain ⟨X,rfl⟩:=Int.eq_ofNat_of_zero_le hx1
 obtain ⟨Y,rfl⟩:=Int.eq_ofNat_of_zero_le hy1
 obtain ⟨C,rfl⟩:=Int.eq_ofNat_of_zero_le hc1
 have hD0:0≤((X:Int)-Y-C) % 4294967296:=by omega
 obtain ⟨D,hD⟩:=Int.eq_ofNat_of_zero_le hD0
 have hm:IntKind.u32.max=((4294967295:Nat):Int):=by decide
 have e1:(4294967295^^^X)<2 ^ 32:=Nat.xor_lt_two_pow (by omega) (by omega)
 have e2:(X^^^Y)<2 ^ 32:=Nat.xor_lt_two_pow (by omega) (by omega)
 have e3:(4294967295^^^(X^^^Y))<2 ^ 32:=Nat.xor_lt_two_pow (by omega) e2
 have e4:((4294967295^^^X)&&&Y)<2 ^ 32:=Nat.and_lt_two_pow _ (by omega)
 have e5:((4294967295^^^(X^^^Y))&&&D)<2 ^ 32:=Nat.and_lt_two_pow _ (by omega)
 rw[hD,hm,u32_xor_nat 4294967295 X (by omega) (by omega),u32_xor_nat X Y (by omega) (by omega),u32_xor_nat 4294967295 _ (by omega) (by omega),u32_and_nat _ Y (by omega) (by omega),u32_and_nat _ D (by omega) (by omega),u32_or_nat _ _ (by omega) (by omega)]
 have:=YL X Y D C (by omega) (by omega) (by omega) (by rw[← hD])
 rw[this];unfold M8
 by_cases h:X<Y+C
 · rw[if_pos h,if_pos (by omega)]
 · rw[if_neg h,if_neg (by omega)]
set_option maxHeartbeats 400000 in
theorem Aap(x y c:Int)(w:World)(hx:0≤x∧x<4294967296)(hy:0≤y∧y<4294967296)(hc:0≤c∧c≤1) :
  Calls Tryz.prog 333 #[.int .u32 x,.int .u32 y,.int .u32 c] w fun e w'=>e = .returned (.tuple #[.int .u32 ((x+y+c) % 4294967296),.int .u32 ((x+y+c) / 4294967296)])∧w=w':=by
 obtain ⟨hx1,hx2⟩:=hx
 obtain ⟨hy1,hy2⟩:=hy
 obtain ⟨hc1,hc2⟩:=hc
 go_enter Tryz.func333,Tryz.ntmps333
 go_wp2
 go_ret2
 exact ⟨rfl,rfl⟩
set_option maxHeartbeats 400000 in
theorem YJ(x y c:Int)(w:World)(hx:0≤x∧x<4294967296)(hy:0≤y∧y<4294967296)(hc:0≤c∧c≤1) :
  Calls Tryz.prog 334 #[.int .u32 x,.int .u32 y,.int .u32 c] w fun e w'=>e = .returned (.tuple #[.int .u32 ((x-y-c) % 4294967296),.int .u32 (M8 x y c)])∧w=w':=by
 obtain ⟨hx1,hx2⟩:=hx
 obtain ⟨hy1,hy2⟩:=hy
 obtain ⟨hc1,hc2⟩:=hc
 go_enter Tryz.func334,Tryz.ntmps334
 go_wp2
 go_ret2
 exact ⟨by rw[← AjN x y c hx1 hx2 hy1 hy2 hc1 hc2];rfl,rfl⟩
def iB(b:Ao):Int:=(b.toNat:Int)
def My(w:World)(v:Value)(l:List Ao):Prop:=SlI w v .u32 (l.map iB)
def OwL(w0 w:World)(G cap:Nat)(l:List Ao):Prop:=Own w0 w 180 1 l.length (.slice (some ⟨G,0,none⟩) l.length cap) ((l.map iB).map (.int .u32))
theorem OwL.cell {w0 w:World} {G cap:Nat} {l:List Ao} (h:OwL w0 w G cap l) (i:Nat) (hi:i<l.length):w.cell? ⟨G,i,none⟩=some (.int .u32 ((l[i]).toNat:Int))∧w.frozen? ⟨G,i,none⟩=false∧w0.heap.size≤G∧G<w.heap.size:=by
 obtain ⟨g,cap',hv,h1,h2,h3,h4,h5,h6⟩:=h.at_ (by omega)
 injection hv with hA _ hc
 cases hA
 exact ⟨h4 i _ (by simp[hi,iB]),h5 i,h1,h2⟩
theorem OwL.set {w0 w:World} {G cap:Nat} {l:List Ao} (h:OwL w0 w G cap l) (i:Nat) (hi:i<l.length) (x:Ao):OwL w0 (w.setCell ⟨G,i,none⟩ (.int .u32 (x.toNat:Int))) G cap (l.set i x):=by
 obtain ⟨g,cap',hv,h1,h2,h3,h4,h5,h6⟩:=h.at_ (by omega)
 injection hv with hA _ hc
 cases hA
 have:=h6 i (.int .u32 (x.toNat:Int))
 unfold OwL
 rw[List.length_set,List.map_set,List.map_set]
 exact this
theorem Qb(w:World)(G:Nat):w.grownBy w (some G):=World.grownBy.refl w _
def JA(w0 w:World)(lo xs hi ds:List Ao)(G cap g:Nat)(e:Ending)(w':World):Prop :=
 ∃ (out:List Ao) (b:Nat),b≤1∧e = .returned (.bool (!(b == 0)))∧out.length=xs.length∧nv out+g*nv ds=nv xs+B ^ xs.length*b∧OwL w0 w' G cap (lo++out++hi)∧w.grownBy w' (some G)
theorem AC{lo out xs hi:List Ao}{i:Nat}(h:out.length=i)(hi':i<xs.length)(x:Ao):(lo++(out++xs.drop i)++hi).set (lo.length+i) x=lo++((out++[x])++xs.drop (i+1))++hi:=by
 rw[Al4,List.set_append_right _ _ (by omega),Nat.add_sub_cancel_left,List.set_append_left _ _ (by simp;omega),List.set_append_right _ _ (by omega),h,Nat.sub_self,Al6 hi',List.set_cons_zero]
 simp
theorem AA{lo out xs hi:List Ao}{i:Nat}(h:out.length=i)(hi':i<xs.length)(hk:lo.length+i<(lo++(out++xs.drop i)++hi).length):(lo++(out++xs.drop i)++hi)[lo.length+i]=xs[i]:=by
 have:(lo++(out++xs.drop i)++hi)[lo.length+i]? = some xs[i]:=by
  rw[Al4,List.getElem?_append_right (by omega),Nat.add_sub_cancel_left,Al5 (by simp;omega),List.getElem?_append_right (by omega),h,Nat.sub_self]
  simp[hi']
 rw[Alg hk]at this
 exact Option.some.inj this
theorem Oa(l:List Ao)(i:Nat)(hi:i<l.length):nv (l.take (i+1))=nv (l.take i)+B ^ i*(l[i]).toNat:=by
 rw[List.take_succ_eq_append_getElem hi,Ic,Alw,Nat.min_eq_left (by omega)]
theorem YV{O g D U P c b x t X z b':Nat}(h:O+g*D=U+P*(c+b))(ht:t=g*x+c)(hz:X+B*b'=z+t % B+b):(O+P*z)+g*(D+P*x)=(U+P*X)+P*B*(t / B+b'):=by
 have e1:P*(X+B*b')=P*(z+t % B+b):=by rw[hz]
 have e2:t % B+B*(t / B)=t:=Nat.mod_add_div _ _
 have e3:P*(t % B+B*(t / B))=P*(g*x+c):=by rw[e2,ht]
 have e4:g*(P*x)=P*(g*x):=Nat.mul_left_comm _ _ _
 simp only[Nat.mul_add,Nat.mul_assoc]at *
 omega
theorem KJ{X t b:Nat}(hX:X<B)(hb:b≤1) : ∃ z b':Nat,z<B∧b'≤1∧X+B*b'=z+t % B+b∧(((X:Int)-((t % B:Nat):Int)-(b:Int)) % 4294967296=(z:Int))∧M8 (X:Int) ((t % B:Nat):Int) (b:Int)=(b':Int):=by
 have:=Al9 t Bu
 generalize t % B=s at *
 rw[Aw]at *
 by_cases h:X<s+b
 · exact ⟨X+4294967296-s-b,1,by omega,by omega,by omega,by omega,by unfold M8;rw[if_pos (by omega)];rfl⟩
 · exact ⟨X-s-b,0,by omega,by omega,by omega,by omega,by unfold M8;rw[if_neg (by omega)];rfl⟩
set_option maxHeartbeats 2000000 in
theorem AjR(w0 w:World)(lo xs hi ds:List Ao)(G cap c' g:Nat)(v:Value)(hxs:xs.length=ds.length+1)(hlen:(lo++xs++hi).length≤1000000000)(hc':xs.length≤c')(hown:OwL w0 w G cap (lo++xs++hi))(hds : ∀ w',w.grownBy w' (some G)→My w' v ds)(hg:g<B) :
  Calls Tryz.prog 338 #[.slice (some ⟨G,lo.length,none⟩) xs.length c',v,.int .u64 g] w (JA w0 w lo xs hi ds G cap g):=by
 obtain ⟨A,cd,rfl,hcd,_⟩:=(hds w (Qb w G)).form
 have hll:lo.length+xs.length+hi.length≤1000000000:=by have:=hlen;simp at this;omega
 rw[Ali]at hds hcd ⊢
 have HO:=Lib.hid hown
 have HD:=Lib.hid hds
 have HG:=Lib.hid hg
 rw[Aw]at hg
 clear hown hds hlen
 generalize hn:ds.length=n at *
 rw[hxs]
 go_enter Tryz.func338,Tryz.ntmps338
 go_wp2_with fail
 go_loopw [7,8,15] (fun cv bv iv wr=>∃ (k c b:Nat) (out:List Ao),k≤n∧iv = .int .i64 k∧cv = .int .u64 c∧bv = .int .u32 b∧out.length=k∧c<B∧b≤1∧nv out+g*nv (ds.take k)=nv (xs.take k)+B ^ k*(c+b)∧OwL w0 wr G cap (lo++(out++xs.drop k)++hi)∧w.grownBy wr (some G)) (fun _ _ iv _=>n-(intOf iv).toNat)
 case atStart=>exact ⟨0,0,0,[],Nat.zero_le _,rfl,rfl,rfl,rfl,Bu,by omega,by simp[nv],by simpa using HO.out,Qb w G⟩
 case round =>
  obtain ⟨k,c,b,out,hk,rfl,rfl,rfl,ho,hc,hb,heq,hown,hgr⟩:=hrel
  have HQ:=Lib.hid heq
  have HOW:=Lib.hid hown
  have HGR:=Lib.hid hgr
  have HC:=Lib.hid hc
  rw[Aw]at hc
  clear heq hown hgr
  by_cases hlt:k<n
  · have hkx:k<xs.length:=by omega
    have hkl:lo.length+k<(lo++(out++xs.drop k)++hi).length:=by simp;omega
    obtain ⟨hcell,hfk,hG1,hG2⟩:=HOW.out.cell (lo.length+k) hkl
    rw[AA ho hkx hkl]at hcell
    obtain ⟨_,_,hvq,_,hclq⟩:=(HD.out wr HGR.out).form
    injection hvq with hvq1 hvq2 hvq3
    subst hvq1
    subst hvq3
    clear hvq2
    obtain ⟨ad,rfl,hb1,hce⟩:=hclq k (by simp;omega)
    have hkd:k<ds.length:=by omega
    have hdk:((ds.map iB)[k]'(by simp;omega))=((ds[k]).toNat:Int):=by simp[iB]
    rw[hdk]at hce
    have xB:=Ed xs[k]
    have dB_:=Ed ds[k]
    have st:=fun (z:Ao)=>HOW.out.set (lo.length+k) hkl z
    have ws:=fun (z:Ao)=>AC (lo:=lo) (hi:=hi) ho hkx z
    have ht1:=Oa ds k hkd
    have ht2:=Oa xs k hkx
    generalize (xs[k]).toNat=X at *
    generalize (ds[k]).toNat=Y at *
    have hgy:g*Y≤(B-1)*(B-1):=Nat.mul_le_mul (by rw[Aw];omega) (by omega)
    obtain ⟨z,b',hz,hb',hzz,hm,hbr⟩:=KJ (t:=g*Y+c) xB hb
    have HST:=Lib.hid (YV HQ.out rfl hzz)
    have HS:=Lib.hid (st (Al0 32 z))
    have HW:=Lib.hid (ws (Al0 32 z))
    have HT1:=Lib.hid ht1
    have HT2:=Lib.hid ht2
    have HZ:=Lib.hid hz
    have htB:(g*Y+c) / B<B:=by rw[Amm Bu,Aw]at *; omega
    have HTB:=Lib.hid htB
    rw[Aw]at hgy xB dB_ hz htB
    have hp1:0≤(g:Int)*(Y:Int):=by rw[← Int.natCast_mul];exact Int.natCast_nonneg _
    have hp2:(g:Int)*(Y:Int)≤18446744065119617025:=by rw[← Int.natCast_mul];omega
    have ec:(((g*Y+c) % B:Nat):Int)=((g:Int)*(Y:Int)+(c:Int)) % 4294967296:=by rw[Int.natCast_emod,Int.natCast_add,Int.natCast_mul];rfl
    rw[ec]at hm hbr
    have HM:=Lib.hid hm
    have HB:=Lib.hid hbr
    clear hclq hdk st ws ht1 ht2 hzz htB hgy ec hm hbr
    go_wp2_with (go_at_call 334;refine (YJ (X:Int) (((g:Int)*(Y:Int)+(c:Int)) % 4294967296) (b:Int) _ ⟨by omega,by omega⟩ ⟨by omega,by omega⟩ ⟨by omega,by omega⟩).mono ?_;rw[HM.out,HB.out];rintro e w' ⟨rfl,rfl⟩)
    go_roundw
    case rel =>
      have hs:=HS.out
      rw[HW.out,ofNat_lt HZ.out]at hs
      refine ⟨k+1,(g*Y+c) / B,b',out++[Al0 32 z],by omega,by go_num,?_,rfl,by simp[ho],HTB.out,hb',?_,hs,Qc HGR.out _ _ _⟩
      · congr 1
      · rw[Ic,ho,ofNat_lt HZ.out,HT1.out,HT2.out,Amk];exact HST.out
    case measure=>(simp[intOf] <;> omega)
  · have hkn:k=n:=by omega
    subst hkn
    have hkx:k<xs.length:=by omega
    have hkl:lo.length+k<(lo++(out++xs.drop k)++hi).length:=by simp;omega
    obtain ⟨hcell,hfk,hG1,hG2⟩:=HOW.out.cell (lo.length+k) hkl
    rw[AA ho hkx hkl]at hcell
    have xB:=Ed xs[k]
    have st:=fun (z:Ao)=>HOW.out.set (lo.length+k) hkl z
    have ws:=fun (z:Ao)=>AC (lo:=lo) (hi:=hi) ho hkx z
    have ht2:=Oa xs k hkx
    generalize (xs[k]).toNat=X at *
    obtain ⟨z,b',hz,hb',hzz,hm,hbr⟩:=KJ (t:=c) xB hb
    have HST:=Lib.hid (YV (x:=0) (t:=c) HQ.out (by simp) hzz)
    have HS:=Lib.hid (st (Al0 32 z))
    have HW:=Lib.hid (ws (Al0 32 z))
    have HT2:=Lib.hid ht2
    have HZ:=Lib.hid hz
    have ec:c % B=c:=Al_ HC.out
    rw[ec]at hm hbr
    rw[Aw]at xB hz
    have HM:=Lib.hid hm
    have HB:=Lib.hid hbr
    clear st ws ht2 hzz ec hm hbr
    go_wp2_with (go_at_call 334;refine (YJ (X:Int) (c:Int) (b:Int) _ ⟨by omega,by omega⟩ ⟨by omega,by omega⟩ ⟨by omega,by omega⟩).mono ?_;rw[HM.out,HB.out];rintro e w' ⟨rfl,rfl⟩)
    go_ret
    have hs:=HS.out
    rw[HW.out,ofNat_lt HZ.out,List.drop_of_length_le (by omega),Al2]at hs
    refine ⟨out++[Al0 32 z],b',hb',?_,by simp[ho,hxs],?_,hs,Qc HGR.out _ _ _⟩
    · rcases Nat.le_one_iff_eq_zero_or_eq_one.1 hb' with h | h <;> subst h <;> rfl
    · have h1:=HST.out
      rw[Nat.div_eq_of_lt HC.out,Nat.mul_zero,Nat.add_zero,Amn,← HT2.out,← Amk,Amb (by omega),Amb (by omega)]at h1
      rw[Ic,ho,ofNat_lt HZ.out,hxs];exact h1
def IZ(w0 w:World)(lo xs hi ds:List Ao)(G cap:Nat)(e:Ending)(w':World):Prop :=
 ∃ (out:List Ao) (b:Nat) (v:Value),e = .returned v∧out.length=xs.length∧nv out+B ^ xs.length*b=nv xs+nv ds∧OwL w0 w' G cap (lo++out++hi)∧w.grownBy w' (some G)
theorem RJ{O D U P c X Y:Nat}(h:O+P*c=U+D):(O+P*((X+Y+c) % B))+P*B*((X+Y+c) / B)=(U+P*X)+(D+P*Y):=by
 have e2:(X+Y+c) % B+B*((X+Y+c) / B)=X+Y+c:=Nat.mod_add_div _ _
 have e3:P*((X+Y+c) % B+B*((X+Y+c) / B))=P*(X+Y+c):=by rw[e2]
 simp only[Nat.mul_add,Nat.mul_assoc]at *
 omega
set_option maxHeartbeats 2000000 in
theorem Agd(w0 w:World)(lo xs hi ds:List Ao)(G cap c':Nat)(v:Value)(hxs:xs.length=ds.length+1)(hlen:(lo++xs++hi).length≤1000000000)(hc':xs.length≤c')(hown:OwL w0 w G cap (lo++xs++hi))(hds : ∀ w',w.grownBy w' (some G)→My w' v ds) :
  Calls Tryz.prog 339 #[.slice (some ⟨G,lo.length,none⟩) xs.length c',v] w (IZ w0 w lo xs hi ds G cap):=by
 obtain ⟨A,cd,rfl,hcd,_⟩:=(hds w (Qb w G)).form
 have hll:lo.length+xs.length+hi.length≤1000000000:=by have:=hlen;simp at this;omega
 rw[Ali]at hds hcd ⊢
 have HO:=Lib.hid hown
 have HD:=Lib.hid hds
 clear hown hds hlen
 generalize hn:ds.length=n at *
 rw[hxs]
 go_enter Tryz.func339,Tryz.ntmps339
 go_wp2_with fail
 go_loopw [4,9] (fun cv iv wr=>∃ (k c:Nat) (out:List Ao),k≤n∧iv = .int .i64 k∧cv = .int .u32 c∧out.length=k∧c≤1∧nv out+B ^ k*c=nv (xs.take k)+nv (ds.take k)∧OwL w0 wr G cap (lo++(out++xs.drop k)++hi)∧w.grownBy wr (some G)) (fun _ iv _=>n-(intOf iv).toNat)
 case atStart=>exact ⟨0,0,[],Nat.zero_le _,rfl,rfl,rfl,by omega,by simp[nv],by simpa using HO.out,Qb w G⟩
 case round =>
  obtain ⟨k,c,out,hk,rfl,rfl,ho,hc,heq,hown,hgr⟩:=hrel
  have HQ:=Lib.hid heq
  have HOW:=Lib.hid hown
  have HGR:=Lib.hid hgr
  clear heq hown hgr
  by_cases hlt:k<n
  · have hkx:k<xs.length:=by omega
    have hkl:lo.length+k<(lo++(out++xs.drop k)++hi).length:=by simp;omega
    obtain ⟨hcell,hfk,hG1,hG2⟩:=HOW.out.cell (lo.length+k) hkl
    rw[AA ho hkx hkl]at hcell
    obtain ⟨_,_,hvq,_,hclq⟩:=(HD.out wr HGR.out).form
    injection hvq with hvq1 hvq2 hvq3
    subst hvq1
    subst hvq3
    clear hvq2
    obtain ⟨ad,rfl,hb1,hce⟩:=hclq k (by simp;omega)
    have hkd:k<ds.length:=by omega
    have hdk:((ds.map iB)[k]'(by simp;omega))=((ds[k]).toNat:Int):=by simp[iB]
    rw[hdk]at hce
    have xB:=Ed xs[k]
    have dB_:=Ed ds[k]
    have st:=fun (z:Ao)=>HOW.out.set (lo.length+k) hkl z
    have ws:=fun (z:Ao)=>AC (lo:=lo) (hi:=hi) ho hkx z
    have ht1:=Oa ds k hkd
    have ht2:=Oa xs k hkx
    generalize (xs[k]).toNat=X at *
    generalize (ds[k]).toNat=Y at *
    have HZ:=Lib.hid (Al9 (X+Y+c) Bu)
    have HST:=Lib.hid (RJ (X:=X) (Y:=Y) HQ.out)
    have HS:=Lib.hid (st (Al0 32 ((X+Y+c) % B)))
    have HW:=Lib.hid (ws (Al0 32 ((X+Y+c) % B)))
    have HT1:=Lib.hid ht1
    have HT2:=Lib.hid ht2
    rw[Aw]at xB dB_
    clear hclq hdk st ws ht1 ht2
    go_wp2_with (go_at_call 333;refine (Aap (X:Int) (Y:Int) (c:Int) _ ⟨by omega,by omega⟩ ⟨by omega,by omega⟩ ⟨by omega,by omega⟩).mono ?_;rintro e w' ⟨rfl,rfl⟩)
    go_roundw
    case rel =>
      have hs:=HS.out
      rw[HW.out,ofNat_lt HZ.out]at hs
      refine ⟨k+1,(X+Y+c) / B,out++[Al0 32 ((X+Y+c) % B)],by omega,by go_num,?_,by simp[ho],by rw[Aw];omega,?_,?_,Qc HGR.out _ _ _⟩
      · congr 1
      · rw[Ic,ho,ofNat_lt HZ.out,HT1.out,HT2.out,Amk];exact HST.out
      · exact hs
    case measure=>(simp[intOf] <;> omega)
  · have hkn:k=n:=by omega
    subst hkn
    have hkx:k<xs.length:=by omega
    have hkl:lo.length+k<(lo++(out++xs.drop k)++hi).length:=by simp;omega
    obtain ⟨hcell,hfk,hG1,hG2⟩:=HOW.out.cell (lo.length+k) hkl
    rw[AA ho hkx hkl]at hcell
    have xB:=Ed xs[k]
    have st:=fun (z:Ao)=>HOW.out.set (lo.length+k) hkl z
    have ws:=fun (z:Ao)=>AC (lo:=lo) (hi:=hi) ho hkx z
    have ht2:=Oa xs k hkx
    generalize (xs[k]).toNat=X at *
    have HZ:=Lib.hid (Al9 (X+0+c) Bu)
    have HST:=Lib.hid (RJ (X:=X) (Y:=0) HQ.out)
    have HS:=Lib.hid (st (Al0 32 ((X+0+c) % B)))
    have HW:=Lib.hid (ws (Al0 32 ((X+0+c) % B)))
    have HT2:=Lib.hid ht2
    rw[Aw]at xB
    clear st ws ht2
    go_wp2
    go_end0
    have hs:=HS.out
    rw[HW.out,ofNat_lt HZ.out,List.drop_of_length_le (by omega),Al2]at hs
    refine ⟨out++[Al0 32 ((X+0+c) % B)],(X+0+c) / B,_,rfl,by simp[ho,hxs],?_,?_,Qc HGR.out _ _ _⟩
    · have h1:=HST.out
      rw[Nat.mul_zero,Nat.add_zero,← HT2.out,← Amk,Amb (by omega),Amb (by omega)]at h1
      rw[Ic,ho,ofNat_lt HZ.out,hxs];exact h1
    · exact hs
end Go.Proofs.YtokkbgpgaheakaaGreat
namespace Go.Proofs.YtokkbgpgaheakaaGreat
open Go.RowKit
theorem AjY{U Y g P o b:Nat}(hY:0<Y)(hYP:Y≤P)(h1:U / Y≤g)(h2:g≤U / Y+1)(ho:o<P)(hb:b≤1)(h:o+g*Y=U+P*b) :
   (b=0→g=U / Y∧o=U % Y)∧(b≠0→g=U / Y+1∧∀ o2 b2,o2<P→o2+P*b2=o+Y→o2=U % Y):=by
 have hdm:=Nat.div_add_mod U Y
 have hm:=Al9 U hY
 rw[Ami]at hdm
 generalize U / Y=q at *
 generalize U % Y=r at *
 refine ⟨fun h0=> ?_,fun h0=> ?_⟩
 · subst h0
   rcases Nat.lt_or_ge q g with h3 | h3
   · obtain rfl:g=q+1:=by omega
     rw[Nat.add_mul]at h;omega
   · obtain rfl:g=q:=by omega
     exact ⟨rfl,by omega⟩
 · obtain rfl:b=1:=by omega
   rcases Nat.lt_or_ge q g with h3 | h3
   · obtain rfl:g=q+1:=by omega
     refine ⟨rfl,fun o2 b2 h4 h5=> ?_⟩
     rw[Nat.add_mul]at h
     match b2 with
     | 0=>omega
     | 1=>omega
     | b2+2=>rw[Nat.mul_add]at h5;omega
   · obtain rfl:g=q:=by omega
     omega
theorem Adv{R:List Ao}{n j Y:Nat}(hj:j+(n+1)≤R.length)(hY:Y<B ^ n)(h:nv R<Y*B ^ (j+1)) :
   R=R.take j++(R.drop j).take (n+1)++R.drop (j+(n+1))∧(R.take j).length=j∧((R.drop j).take (n+1)).length=n+1∧nv ((R.drop j).take (n+1))<B*Y ∧
   ∀ out:List Ao,out.length=n+1→nv out=nv ((R.drop j).take (n+1)) % Y→(R.take j++out++R.drop (j+(n+1))).length=R.length∧nv (R.take j++out++R.drop (j+(n+1)))<Y*B ^ j ∧
     nv (R.take j++out++R.drop (j+(n+1)))+Y*(B ^ j*(nv ((R.drop j).take (n+1)) / Y))=nv R:=by
 have e1:R=R.take j++(R.drop j).take (n+1)++R.drop (j+(n+1)):=by
   rw[Al4,← List.drop_drop,Ama,Ama]
 have l1:(R.take j).length=j:=by rw[Alw];omega
 have l2:((R.drop j).take (n+1)).length=n+1:=by rw[Alw,Alu];omega
 have hlo:=B6 (R.take j)
 rw[l1]at hlo
 have hv:nv R=nv (R.take j)+B ^ j*nv ((R.drop j).take (n+1))+B ^ (j+(n+1))*nv (R.drop (j+(n+1))):=by
   have:nv R=nv (R.take j++(R.drop j).take (n+1)++R.drop (j+(n+1))):=by rw[← e1]
   rw[this,G0,G0,Alr,l1,l2]
 have hY0:0<Y:=by
   rcases Nat.eq_zero_or_pos Y with h0 | h0
   · rw[h0]at h;omega
   · exact h0
 have hp:=Bp j
 have hi0:nv (R.drop (j+(n+1)))=0:=by
   rcases Nat.eq_zero_or_pos (nv (R.drop (j+(n+1)))) with h0 | h0
   · exact h0
   · exfalso
     have h3:B ^ (j+(n+1))*1≤B ^ (j+(n+1))*nv (R.drop (j+(n+1))):=Nat.mul_le_mul_left _ h0
     have h4:Y*B ^ (j+1)≤B ^ n*B ^ (j+1):=Al1 _ (Nat.le_of_lt hY)
     rw[← Nat.pow_add,show n+(j+1)=j+(n+1) by omega]at h4
     omega
 generalize R.take j=lo at *
 generalize (R.drop j).take (n+1)=xs at *
 generalize R.drop (j+(n+1))=hi at *
 rw[hi0,Nat.mul_zero,Nat.add_zero]at hv
 refine ⟨e1,l1,l2,?_,fun out ho hn=>⟨?_,?_,?_⟩⟩
 · have h5:B ^ j*nv xs<B ^ j*(B*Y):=by
     have:Y*B ^ (j+1)=B ^ j*(B*Y):=by rw[Amk,Ami Y,Nat.mul_assoc]
     omega
   exact Nat.lt_of_mul_lt_mul_left h5
 · rw[e1];simp[ho,l2]
 · rw[G0,G0,hi0,l1,hn,Nat.mul_zero,Nat.add_zero]
   have h6:B ^ j*(nv xs % Y)+B ^ j≤B ^ j*Y:=by
     rw[← Nat.mul_succ];exact Nat.mul_le_mul_left _ (Al9 _ hY0)
   rw[Ami Y];omega
 · rw[G0,G0,hi0,l1,hn,Nat.mul_zero,Nat.add_zero,hv,Nat.mul_left_comm Y,Nat.add_assoc,← Nat.mul_add,Nat.mod_add_div]
theorem TM{w:World}{M:Nat→Prop}{v:Value}{l:List Ao}(h:Rd Tryz.prog md w M (.ty 62) (dL l) v):My w v l:=by
 obtain ⟨h1,h2,h3⟩:=h
 have hc1:Tryz.prog.cellsOf 180=1:=by kernel_rfl
 unfold dL at h1
 cases h1 with
 | @sl _ e _ _ A cap bk off ht hc h4 h5 hA hh =>
  have he:e=180:=by
   have:Tryz.prog.underlying 62=some (.slice e):=ht
   rw[show Tryz.prog.underlying 62=some (.slice 180) by kernel_rfl]at this
   injection this with this;injection this with this;exact this.symm
  subst he
  have hv:v = .slice A (l.map dB).length cap:=by
   have ha:C6 v=false:=by rw[h3];kernel_rfl
   rw[He ha]at hc
   simpa using hc
  refine ⟨A,cap,by rw[hv];simp,by simpa using h4,by simp,fun i x hx=> ?_⟩
  rw[List.map_map,Aly,Alv]at hx
  obtain ⟨b,hb,rfl⟩:=hx
  have hne:l.map dB≠[]:=fun e=>by rw[List.map_eq_nil_iff.1 e]at hb;simp at hb
  obtain ⟨a1,a2,a3⟩:=hA hne
  have:=hh i (dB b) (by rw[Aly,hb];rfl)
  rw[hc1]at this
  refine ⟨_,a1,a3,?_⟩
  unfold dB at this
  cases this with
  | @int _ k _ _ ht' h1' h2' hc' =>
   have hk:k = .u32:=by
    have:Tryz.prog.underlying 180=some (.int k):=ht'
    rw[show Tryz.prog.underlying 180=some (.int .u32) by kernel_rfl]at this
    injection this with this;injection this with this;exact this.symm
   subst hk
   simp only[Nat.mul_one,Nat.add_zero]at hc'
   have ea:(⟨bk,off,none⟩:Addr).add i=⟨bk,off+i,none⟩:=by unfold Addr.add;split <;> simp_all
   rw[ea];exact hc'
theorem AB{w:World}{M:Nat→Prop}{G off n c:Nat}{l:List Ao}(h:My w (.slice (some ⟨G,off,none⟩) n c) l)(hc:c≤maxLen)(hG : ¬ M G):Rd Tryz.prog md w M (.ty 62) (dL l) (.slice (some ⟨G,off,none⟩) n c):=by
 obtain ⟨h1,h2⟩:=h.len
 have hc1:Tryz.prog.cellsOf 180=1:=by kernel_rfl
 rw[Ali]at h1
 refine ⟨.sl (e:=180) (A:=some ⟨G,off,none⟩) (cap:=c) (bk:=G) (off:=off) (by kernel_rfl) (by rw[h1,Ali];rfl) (by rw[Ali];omega) hc (fun hne=> ?_) (fun i x hx=> ?_),by kernel_rfl,by kernel_rfl⟩
 · have:0<(l.map iB).length:=by
    rw[Ali];exact List.length_pos_iff.2 (fun e=>hne (by rw[e];rfl))
   obtain ⟨ad,ha,hb,_⟩:=h.cellAt 0 this
   cases ha
   exact ⟨rfl,hG,hb⟩
 · rw[Aly,Alv]at hx
   obtain ⟨b,hb,rfl⟩:=hx
   have hi:i<(l.map iB).length:=by rw[Ali];exact (Alj.1 hb).1
   obtain ⟨ad,ha,_,hcell⟩:=h.cellAt i hi
   cases ha
   have ea:(⟨G,off,none⟩:Addr).add i=⟨G,off+i,none⟩:=by unfold Addr.add;split <;> simp_all
   rw[ea]at hcell
   have hx:(l.map iB)[i]=(b.toNat:Int):=by simp[iB,(Alj.1 hb).2]
   rw[hx]at hcell
   have:=b.isLt
   unfold dB
   exact .int (k:= .u32) (by kernel_rfl) (by show (0:Int)≤_;omega) (by show _≤(4294967295:Int);omega) (by rw[hc1];simpa using hcell)
theorem OwL.win {w0 w:World} {G cap:Nat} {l:List Ao} (h:OwL w0 w G cap l) {j n c:Nat} (hj:j+n≤l.length) (hc:n≤c):My w (.slice (some ⟨G,j,none⟩) n c) ((l.drop j).take n):=by
 have hl:(((l.drop j).take n).map iB).length=n:=by simp;omega
 refine ⟨some ⟨G,j,none⟩,c,by rw[hl],by rw[hl];exact hc,by simp,fun i x hx=> ?_⟩
 rw[Aly,Alv]at hx
 obtain ⟨z,hz,rfl⟩:=hx
 have hi:i<n:=by rw[← hl];exact (Alj.1 hz).1
 obtain ⟨h1,h2,h3,h4⟩:=h.cell (j+i) (by omega)
 refine ⟨_,rfl,h4,?_⟩
 have ea:(⟨G,j,none⟩:Addr).add i=⟨G,j+i,none⟩:=by unfold Addr.add;split <;> simp_all
 rw[ea,h1]
 rw[Aly,List.getElem?_take,if_pos hi,List.getElem?_drop,Alg (by omega)]at hz
 simp only[Option.map_some,Alo]at hz
 rw[← hz];rfl
end Go.Proofs.YtokkbgpgaheakaaGreat
namespace Go.Proofs.YtokkbgpgaheakaaGreat
open Go.RowKit
theorem AbO:Elt Tryz.prog 62 180 1 4 :=
 ⟨Tryz.underlying62,by
  obtain ⟨i,hi,h1,h2,h3⟩:=info_parts (P:=Tryz.prog) (e:=180) (z:= .int .u32 0) (size:=1) (bytes:=4) (by kernel_rfl)
  exact ⟨i,_,hi,h1,h2,h3,rfl⟩,by decide⟩
theorem AkX{z:Value}(h : ∃ i,Tryz.prog.info? 180=some i∧i.zero=some z):z = .int .u32 0:=by
 obtain ⟨i,hi,hz⟩:=h
 obtain ⟨j,hj,h1,_⟩:=info_parts (P:=Tryz.prog) (e:=180) (z:= .int .u32 0) (size:=1) (bytes:=4) (by kernel_rfl)
 rw[hi]at hj
 cases hj
 rw[hz]at h1
 exact Option.some.inj h1
theorem Ad0{z:Value}(h : ∃ i,Tryz.prog.info? 180=some i∧i.zero=some z)(n:Nat):(madeCells z.cells (n*1)).toList=(Alh n (0:Int)).map (.int .u32):=by
 rw[AkX h,Ady _ rfl];simp
theorem RH{w w':World}{G cap:Nat}{cur:Array Value}{q:List Ao}(hG:w.heap.size≤G)(hB:w'.heap[G]? = some (.cells cur 180 (0,0)))(hle:q.length≤cap)(hcap:cap≤maxLen)(hsz:cur.size=cap*Tryz.prog.cellsOf 180)
  (h : ∀ (i:Nat) (x:D),(q.map dB)[i]? = some x→∃ M',RdC Tryz.prog md w' M' (.ty 180) x (fun j=>cur[i*Tryz.prog.cellsOf 180+j]?)) (hx:Ext w w'):OwL w w' G cap q:=by
 have hc1:Tryz.prog.cellsOf 180=1:=by kernel_rfl
 rw[hc1]at hsz h
 refine ⟨⟨by simp,.inr ⟨G,cap,cur,rfl,hG,hB,hle,hcap,hsz,?_⟩⟩,hx⟩
 apply List.ext_getElem
 · simp;omega
 intro i h1 h2
 simp only[Ali]at h2
 obtain ⟨M',hr⟩:=h i (dB q[i]) (by simp[h2])
 simp only[Nat.mul_one,Nat.add_zero]at hr
 unfold dB at hr
 cases hr with
 | @int _ k _ _ ht' h1' h2' hc' =>
  have hk:k = .u32:=by
   have:Tryz.prog.underlying 180=some (.int k):=ht'
   rw[show Tryz.prog.underlying 180=some (.int .u32) by kernel_rfl]at this
   injection this with this;injection this with this;exact this.symm
  subst hk
  simp only[Nat.add_zero]at hc'
  have hi:i<cur.size:=by omega
  rw[Al3 hi]at hc'
  simp only[List.getElem_take,Array.getElem_toList,List.getElem_map,iB]
  exact Option.some.inj hc'
theorem OwL.far {w0 w w':World} {G G' cap:Nat} {l:List Ao} (h:OwL w0 w G cap l) (hg:w.grownBy w' (some G')) (hne:G≠G') (hG:w0.heap.size≤G'):OwL w0 w' G cap l :=
 ⟨h.own.kept hg (.inr (by simp only[Value.ownBlock];intro e;injection e with e;exact hne e)),h.ext.grown hg (fun k hk=>by injection hk with hk;omega)⟩
theorem AjX{w w5:World}{lo xs hi q1:List Ao}{G1 G2 c1 c2 n j g c':Nat}(hn:n≤q1.length)(hc1:n≤c1)(l1:lo.length=j)(l2:xs.length=n+1)(hlen:(lo++xs++hi).length≤1000000000)(hc':n+1≤c')(hg2:w.heap.size≤G2)(h12:G1≠G2)
  (ow2:OwL w w5 G2 c2 (lo++xs++hi)) (ow1:OwL w w5 G1 c1 q1) (hg:g<B):Calls Tryz.prog 338 #[.slice (some ⟨G2,j,none⟩) (n+1) c',.slice (some ⟨G1,0,none⟩) n c1,.int .u64 g] w5 (JA w w5 lo xs hi (q1.take n) G2 c2 g):=by
 have ld:(q1.take n).length=n:=by rw[Alw];omega
 have:=AjR w w5 lo xs hi (q1.take n) G2 c2 c' g (.slice (some ⟨G1,0,none⟩) n c1) (by omega) hlen (by omega) ow2 (fun w' hg=>by
  have:=(ow1.far hg h12 hg2).win (j:=0) (n:=n) (c:=c1) (by omega) hc1
  rwa[List.drop_zero]at this) hg
 rwa[l1,l2]at this
theorem Af7{w w5:World}{lo xs hi q1:List Ao}{G1 G2 c1 c2 n j c':Nat}(hn:n≤q1.length)(hc1:n≤c1)(l1:lo.length=j)(l2:xs.length=n+1)(hlen:(lo++xs++hi).length≤1000000000)(hc':n+1≤c')(hg2:w.heap.size≤G2)(h12:G1≠G2)
  (ow2:OwL w w5 G2 c2 (lo++xs++hi)) (ow1:OwL w w5 G1 c1 q1):Calls Tryz.prog 339 #[.slice (some ⟨G2,j,none⟩) (n+1) c',.slice (some ⟨G1,0,none⟩) n c1] w5 (IZ w w5 lo xs hi (q1.take n) G2 c2):=by
 have ld:(q1.take n).length=n:=by rw[Alw];omega
 have:=Agd w w5 lo xs hi (q1.take n) G2 c2 c' (.slice (some ⟨G1,0,none⟩) n c1) (by omega) hlen (by omega) ow2 (fun w' hg=>by
  have:=(ow1.far hg h12 hg2).win (j:=0) (n:=n) (c:=c1) (by omega) hc1
  rwa[List.drop_zero]at this)
 rwa[l1,l2]at this
theorem Agf{qh:List Ao}{j:Nat}(x:Ao):(Alh (j+1) (0:Ao)++qh).set j x=Alh j 0++(x::qh):=by
 rw[List.replicate_succ',Al4,List.set_append_right _ _ (by simp),Amg,Nat.sub_self];rfl
def Aan(x y:Nat)(w:World)(e:Ending)(w':World):Prop:=∃ u1 u2,e = .returned (.tuple #[u1,u2])∧Rd Tryz.prog md w' (fun b=>b<w.heap.size) (.ty 62) (dL (lb (x / y))) u1∧Rd Tryz.prog md w' (fun b=>b<w.heap.size) (.ty 62) (dL (lb (x % y))) u2∧Ext w w'
theorem AeI{y n s t:Nat}(hn:(lb y).length=n+1)(ht:t=y / B ^ n)(h1:t*2 ^ s<B)(h2:B≤2*(t*2 ^ s))(hs:s<32):y*2 ^ s<B ^ (n+1)∧B ^ (n+1)≤2*(y*2 ^ s):=by
 have hp:=Bp n
 have hs0:0<2 ^ s:=Nat.pow_pos (by decide)
 have hB:B=2 ^ (32-s)*2 ^ s:=by rw[← Nat.pow_add,show 32-s+s=32 by omega];rfl
 have h3:t<2 ^ (32-s):=by rw[hB]at h1;exact Nat.lt_of_mul_lt_mul_right h1
 have h4:(t+1)*2 ^ s≤B:=by rw[hB];exact Al1 _ h3
 have h5:y<(t+1)*B ^ n:=by rw[ht,Ami];exact Nat.lt_mul_div_succ y hp
 have h6:t*B ^ n≤y:=by rw[ht];exact Nat.div_mul_le_self _ _
 rw[Amk]
 constructor
 · calc y*2 ^ s<(t+1)*B ^ n*2 ^ s:=Nat.mul_lt_mul_of_pos_right h5 hs0
  _=B ^ n*((t+1)*2 ^ s):=by rw[Ami (t+1),Nat.mul_assoc]
  _≤B ^ n*B:=Nat.mul_le_mul_left _ h4
 · calc B ^ n*B≤B ^ n*(2*(t*2 ^ s)):=Nat.mul_le_mul_left _ h2
  _=2*(t*B ^ n*2 ^ s):=by rw[Nat.mul_left_comm,Ami t (B ^ n),Nat.mul_assoc]
  _≤2*(y*2 ^ s):=Nat.mul_le_mul_left _ (Al1 _ h6)
theorem QQ{q:List Ao}{n v:Nat}(h:nv q=v)(hv:v<B ^ n)(hn:n≤q.length):nv (q.take n)=v:=by
 have:=G0 (q.take n) (q.drop n)
 rw[Ama,Alw,Nat.min_eq_left hn,h]at this
 rcases Nat.eq_zero_or_pos (nv (q.drop n)) with h0 | h0
 · rw[h0]at this;omega
 · have:B ^ n*1≤B ^ n*nv (q.drop n):=Nat.mul_le_mul_left _ h0
   omega
def LInv(X Y m n:Nat)(w wr:World)(G1 c1 G2 c2 G3 c3:Nat)(q1:List Ao)(k:Nat)(R qh:List Ao):Prop :=
 k≤m-n+1∧R.length=m+1∧qh.length=m-n+1-k∧nv R<Y*B ^ k∧nv R+Y*(B ^ k*nv qh)=X∧OwL w wr G2 c2 R∧OwL w wr G3 c3 (Alh k 0++qh)∧OwL w wr G1 c1 q1
theorem LInv.start {X Y m n:Nat} {w wr:World} {G1 c1 G2 c2 G3 c3:Nat} {q1 q2:List Ao} (h2:q2.length=m+1) (hv:nv q2=X) (hX:X<Y*B ^ (m-n+1)) (o1:OwL w wr G1 c1 q1) (o2:OwL w wr G2 c2 q2) (o3:OwL w wr G3 c3 (Alh (m-n+1) 0)):LInv X Y m n w wr G1 c1 G2 c2 G3 c3 q1 (m-n+1) q2 [] :=
 ⟨Als _,h2,by rw[Nat.sub_self];rfl,by rw[hv];exact hX,by rw[nv,Nat.mul_zero,Nat.mul_zero];exact hv,o2,by rw[Al2];exact o3,o1⟩
set_option maxHeartbeats 4000000 in
theorem Adu(x y:Nat)(va vb:Value)(w:World)(M:Nat→Prop)(ha:Rd Tryz.prog md w M (.ty 62) (dL (lb x)) va)(hb:Rd Tryz.prog md w M (.ty 62) (dL (lb y)) vb)(hM : ∀ b,M b→b<w.heap.size)
  (h1:1<(lb y).length) (hxy:y≤x) (hl:(lb x).length≤100000):Calls Tryz.prog 332 #[va,vb] w (Aan x y w):=by
 have hyx:(lb y).length≤(lb x).length:=Ay.2 (Nat.lt_of_le_of_lt hxy (Ay.1 (Als _)))
 obtain ⟨n,hn⟩ : ∃ n,(lb y).length=n:=⟨_,rfl⟩
 obtain ⟨m,hm⟩ : ∃ m,(lb x).length=m:=⟨_,rfl⟩
 rw[hn,hm]at hyx
 rw[hm]at hl
 rw[hn]at h1
 obtain ⟨A,ca,rfl,hca,_⟩:=(TM ha).form
 obtain ⟨Ab,cb,rfl,hcb,hcel⟩:=(TM hb).form
 rw[Ali,hm]at ha hca
 rw[Ali,hn]at hb hcb
 have HA:=Lib.hid ha
 have HB:=Lib.hid hb
 clear ha hb
 obtain ⟨ad,rfl,hb1,hce⟩:=hcel (n-1) (by simp;omega)
 have hk:((lb y).map iB)[n-1]'(by simp;omega)=(((lb y)[n-1]'(by omega)).toNat:Int):=by simp[iB]
 rw[hk,Ds (lb y) (n-1) (by omega),Bn]at hce
 have hyl:=(Ay (n:=y) (k:=n)).1 (by omega)
 have hyg:=BA (x:=y) (k:=n-1) (by omega)
 have htB:y / B ^ (n-1)<B:=by rw[Amm (Bp _),Ami,← Amk,show (n-1).succ=n by omega];exact hyl
 rw[Al_ htB]at hce
 have ht0:0<y / B ^ (n-1):=Nat.div_pos hyg (Bp _)
 obtain ⟨s,hLZ,hs32,hs1,hs2⟩:=AaT _ htB ht0
 obtain ⟨hY1,hY2⟩:=AeI (n:=n-1) (by omega) rfl hs1 hs2 hs32
 rw[show n-1+1=n by omega]at hY1 hY2
 obtain ⟨q1,hq1,hq1v,sp1⟩:=QE (lb y) s hs32 (by omega)
 obtain ⟨q2,hq2,hq2v,sp2⟩:=QE (lb x) s hs32 (by omega)
 rw[Bn]at hq1v hq2v
 rw[hn]at hq1
 rw[hm]at hq2
 have hdv:=QQ hq1v hY1 (by omega)
 have hX1:x*2 ^ s<(y*2 ^ s)*B ^ (m-n+1):=by
  have h2:x<B ^ m:=Ay.1 (by omega)
  have h3:B ^ n*B ^ (m-n+1)≤2*(y*2 ^ s)*B ^ (m-n+1):=Al1 _ hY2
  rw[← Nat.pow_add,show n+(m-n+1)=m+1 by omega]at h3
  have h4:2 ^ s≤2 ^ 31:=Nat.pow_le_pow_right (by decide) (by omega)
  have h5:x*2 ^ s≤x*2 ^ 31:=Nat.mul_le_mul_left _ h4
  rw[Nat.mul_assoc]at h3
  rw[Amk,Aw]at h3
  rw[Aw]at h2 ⊢
  omega
 generalize y / B ^ (n-1)=top at *
 have HLZ:=Lib.hid hLZ
 have SP1:=Lib.hid sp1
 have SP2:=Lib.hid sp2
 have HM:=Lib.hid hM
 have X1:=Lib.hid hX1
 have Y1:=Lib.hid hY1
 have Y2:=Lib.hid hY2
 clear hcel hk hLZ sp1 sp2 hM hX1 hY1 hY2 hyg hyl
 simp only[Ali,hn,hm]
 go_enter Tryz.func332,Tryz.ntmps332
 go_wp2_with (first
  | (go_at_call 335;refine (IA (t:=3) (vs:=[_]) (M:=fun _=>False) HLZ.out Tryz.func335 (by kernel_rfl) (fun _ h=>h.elim) (by kernel_rfl) rfl (TF (by kernel_rfl) (Ol (t:=180) (k:= .u32) (by kernel_rfl) (by kernel_rfl) (by kernel_rfl) (by show (0:Int)≤_;omega) (by show _≤(4294967295:Int);rw[Aw]at htB;omega))) (by kernel_rfl) (k:= .i64) (by kernel_rfl)).mono ?_;rintro e w1 ⟨rfl,_,hx1⟩)
  | (go_at_call_of 336 (Value.slice (some ad) n cb);refine (RG (t:=62) (e:=180) (vs:=[_,_]) (M:=M) SP1.out Tryz.func336 (by kernel_rfl) (fun b h=>Ame (HM.out b h) hx1.size) (by kernel_rfl) rfl (Oj (by kernel_rfl) (Jc (t:= .ty 62) HB.out hx1 (fun _ h _=>h)) (Ol (t:=3) (k:= .i64) (by kernel_rfl) (by kernel_rfl) (by kernel_rfl) (by show (-9223372036854775808:Int)≤_;omega) (by show _≤(9223372036854775807:Int);omega))) (by kernel_rfl) (by kernel_rfl) (by kernel_rfl) (fun e=>by have:=congrArg List.length e;simp[hq1]at this)).mono ?_;rintro e w2 ⟨G1,c1,cur1,rfl,hG1,hG1l,hB1,hle1,hc1,hsz1,hr1,hx2⟩;rw[Ali,hq1]at hle1 ⊢)
  | (go_at_call_of 336 (Value.slice A m ca);refine (RG (t:=62) (e:=180) (vs:=[_,_]) (M:=M) SP2.out Tryz.func336 (by kernel_rfl) (fun b h=>Ame (HM.out b h) (hx1.trans hx2).size) (by kernel_rfl) rfl (Oj (by kernel_rfl) (Jc (t:= .ty 62) HA.out (hx1.trans hx2) (fun _ h _=>h)) (Ol (t:=3) (k:= .i64) (by kernel_rfl) (by kernel_rfl) (by kernel_rfl) (by show (-9223372036854775808:Int)≤_;omega) (by show _≤(9223372036854775807:Int);omega))) (by kernel_rfl) (by kernel_rfl) (by kernel_rfl) (fun e=>by have:=congrArg List.length e;simp[hq2]at this)).mono ?_;rintro e w3 ⟨G2,c2,cur2,rfl,hG2,hG2l,hB2,hle2,hc2,hsz2,hr2,hx3⟩;rw[Ali,hq2]at hle2 ⊢)
  | (at_make;refine AkU (w0:=w3) AbO rfl _ _ rfl (Ext.refl w3) (m-n+1) (m-n+1) rfl rfl (by omega) (by omega) (by omega) (by omega) (by unfold maxLen;omega) ?_;intro v4 w4 z hz hown4 hx4;rw[Ad0 hz]at hown4;have HO4:=Lib.hid hown4;rcases hown4.own.2 with ⟨_,hh⟩ | ⟨G3,c3,cur3,rfl,hG3,_,hnc3,c3m,_,_⟩;(exact absurd hh (by omega));clear hown4 hz))
 have ow1:OwL w w4 G1 c1 q1:=((RH hG1 hB1 (by omega) hc1 hsz1 hr1 hx2).base hx1).step (hx3.trans hx4)
 have ow2:OwL w w4 G2 c2 q2:=((RH hG2 hB2 (by omega) hc2 hsz2 hr2 hx3).base (hx1.trans hx2)).step hx4
 have ow3:OwL w w4 G3 c3 (Alh (m-n+1) 0):=by
  have:=HO4.out.base (hx1.trans (hx2.trans hx3))
  unfold OwL
  rw[Amg,List.map_replicate,show iB 0=0 from rfl]
  exact this
 have h12:G1≠G2:=by omega
 have h13:G1≠G3:=by have:=hx3.size;omega
 have h23:G2≠G3:=by omega
 have hg1:w.heap.size≤G1:=Nat.le_trans hx1.size hG1
 have hg2:w.heap.size≤G2:=Nat.le_trans (hx1.trans hx2).size hG2
 have hg3:w.heap.size≤G3:=Nat.le_trans (hx1.trans (hx2.trans hx3)).size hG3
 have O1:=Lib.hid ow1
 have O2:=Lib.hid ow2
 have O3:=Lib.hid ow3
 have DV:=Lib.hid hdv
 have Q1:=Lib.hid hq1
 have Q2:=Lib.hid hq2
 have Q2v:=Lib.hid hq2v
 clear ow1 ow2 ow3 HO4 hB1 hB2 hsz1 hsz2 hr1 hr2 hG1l hG2l hdv hq1 hq2 hq1v hq2v hce
 go_loopw [11] (fun jv wr=>∃ (k:Nat) (R qh:List Ao),jv = .int .i64 ((k:Int)-1)∧LInv (x*2 ^ s) (y*2 ^ s) m n w wr G1 c1 G2 c2 G3 c3 q1 k R qh) (fun jv _=>(intOf jv+1).toNat)
 case atStart=>exact ⟨m-n+1,q2,[],by congr 1;omega,LInv.start Q2.out Q2v.out X1.out O1.out O2.out O3.out⟩
 case round =>
  obtain ⟨k,R,qh,rfl,hk,hR,hql,hlt,heq,ow2,ow3,ow1⟩:=hrel
  by_cases hk0:k=0
  · subst hk0
    rw[Nat.pow_zero,Nat.mul_one]at hlt
    rw[Nat.pow_zero,Nat.one_mul]at heq
    rw[List.replicate_zero,Amo]at ow3
    have Y0:0<y*2 ^ s:=Nat.lt_of_le_of_lt (Nat.zero_le _) hlt
    have s0:0<2 ^ s:=Nat.pow_pos (by decide)
    have q1e:nv qh=x / y:=by
      have h1:(x*2 ^ s) / (y*2 ^ s)=x / y:=Nat.mul_div_mul_right _ _ s0
      rw[← h1,← heq,Nat.add_mul_div_left _ _ Y0,Nat.div_eq_of_lt hlt,Amn]
    have q2e:nv (R.take n) / 2 ^ s=x % y:=by
      rw[QQ rfl (Nat.lt_trans hlt Y1.out) (by omega)]
      have h1:(x*2 ^ s) % (y*2 ^ s)=x % y*2 ^ s:=Nat.mul_mod_mul_right _ _ _
      have h2:nv R=x % y*2 ^ s:=by rw[← h1,← heq,Nat.add_mul_mod_self_left,Al_ hlt]
      rw[h2,Nat.mul_div_cancel _ s0]
    have TR:=E9 qh (by omega)
    have DN:=Aen (R.take n) s hs32 (by rw[Alw];omega)
    rw[q1e]at TR
    rw[q2e]at DN
    have hqw:=ow3.win (j:=0) (n:=m-n+1) (c:=c3) (by omega) hnc3
    rw[List.drop_zero,Amb (by omega)]at hqw
    have hrw:=ow2.win (j:=0) (n:=n) (c:=c2) (by omega) (by omega)
    rw[List.drop_zero]at hrw
    have HTR:=Lib.hid TR
    have HDN:=Lib.hid DN
    have QWN:=Lib.hid hqw
    have RWN:=Lib.hid hrw
    have XT:=Lib.hid ow3.ext
    clear TR DN hqw hrw ow1 ow2 ow3 q1e q2e hlt heq
    go_wp2_with fail
    refine Aib 9 [[],[(0,77)],[],[],[(2,79),(3,80)],[],[(4,81),(5,82)],[(1,78)],[(6,83)]] [(0,77),(1,78),(2,79),(3,80),(4,81),(5,82),(6,83),(7,4),(8,5)] (by kernel_rfl) (by kernel_rfl) (by kernel_rfl) (by kernel_rfl) ?_
    apply Grow.step
    · intro w2 hw2
      intro K hK
      go_wp2_with fail
      first | exact hK _ _ (Ext.refl _) EqV.rfl_ | trace "op 0"
    · first | exact R0 _ | (intro v w w1 h hx;exact SlI.keep h hx) | (intro v w w1 h hx;exact IntV.keep h hx) | (intro v w w1 h hx;exact SlN.keep h hx) | (intro v w w1 h hx;exact h)
    apply Grow.step
    · intro w2 hw2
      intro n1 h1
      simp only[upd,reduceIte,Nat.reduceEqDiff,Nat.reduceAdd]at h1
      first | (unfold EqV at h1;subst h1) | skip
      intro K hK
      go_wp2_with fail
      (refine (YF (t:=62) (vs:=[_]) (M:=fun b ↦ b<w.heap.size) HTR.out Tryz.func321 (by kernel_rfl) (fun b h ↦ Ame h (XT.out.trans (((Ext.refl _).drew).trans hw2)).size) (by kernel_rfl) rfl (TF (t:=62) (by kernel_rfl) (AB (SlI.keep QWN.out (((Ext.refl _).drew).trans hw2)) c3m (by omega))) (by kernel_rfl) (by kernel_rfl)).mono ?_;rintro e w' ⟨u5,rfl,hu5,hx5⟩;(go_wp2_with fail);exact hK _ _ hx5 hu5)
    · (intro v w1 w2 h hx;exact Jc h hx (fun _ h _=>h))
    apply Grow.step
    · intro w2 hw2
      intro K hK
      go_wp2_with fail
      first | exact hK _ _ (Ext.refl _) EqV.rfl_ | trace "op 2"
    · first | exact R0 _ | (intro v w w1 h hx;exact SlI.keep h hx) | (intro v w w1 h hx;exact IntV.keep h hx) | (intro v w w1 h hx;exact SlN.keep h hx) | (intro v w w1 h hx;exact h)
    apply Grow.step
    · intro w2 hw2
      intro K hK
      go_wp2_with fail
      first | exact hK _ _ (Ext.refl _) EqV.rfl_ | trace "op 3"
    · first | exact R0 _ | (intro v w w1 h hx;exact SlI.keep h hx) | (intro v w w1 h hx;exact IntV.keep h hx) | (intro v w w1 h hx;exact SlN.keep h hx) | (intro v w w1 h hx;exact h)
    apply Grow.step
    · intro w2 hw2
      intro n1 h1
      simp only[upd,reduceIte,Nat.reduceEqDiff,Nat.reduceAdd]at h1
      first | (unfold EqV at h1;subst h1) | skip
      intro n2 h2
      simp only[upd,reduceIte,Nat.reduceEqDiff,Nat.reduceAdd]at h2
      first | (unfold EqV at h2;subst h2) | skip
      intro K hK
      go_wp2_with fail
      first | exact hK _ _ (Ext.refl _) EqV.rfl_ | exact hK _ _ (Ext.refl _) h1 | exact hK _ _ (Ext.refl _) h2 | trace "op 4"
    · first | exact R0 _ | (intro v w w1 h hx;exact SlI.keep h hx) | (intro v w w1 h hx;exact IntV.keep h hx) | (intro v w w1 h hx;exact SlN.keep h hx) | (intro v w w1 h hx;exact h)
    apply Grow.step
    · intro w2 hw2
      intro K hK
      go_wp2_with fail
      first | exact hK _ _ (Ext.refl _) EqV.rfl_ | trace "op 5"
    · first | exact R0 _ | (intro v w w1 h hx;exact SlI.keep h hx) | (intro v w w1 h hx;exact IntV.keep h hx) | (intro v w w1 h hx;exact SlN.keep h hx) | (intro v w w1 h hx;exact h)
    apply Grow.step
    · intro w2 hw2
      intro n1 h1
      simp only[upd,reduceIte,Nat.reduceEqDiff,Nat.reduceAdd]at h1
      first | (unfold EqV at h1;subst h1) | skip
      intro n2 h2
      simp only[upd,reduceIte,Nat.reduceEqDiff,Nat.reduceAdd]at h2
      first | (unfold EqV at h2;subst h2) | skip
      intro K hK
      go_wp2_with fail
      (refine (YF (t:=62) (vs:=[_,_]) (M:=fun b ↦ b<w.heap.size) HDN.out Tryz.func340 (by kernel_rfl) (fun b h ↦ Ame h (XT.out.trans (((Ext.refl _).drew).trans hw2)).size) (by kernel_rfl) rfl (Oj (t:=62) (by kernel_rfl) (AB (SlI.keep RWN.out (((Ext.refl _).drew).trans hw2)) hc2 (by omega)) (Ol (t:=3) (k:= .i64) (by kernel_rfl) (by kernel_rfl) (by kernel_rfl) (by show (-9223372036854775808:Int)≤_;omega) (by show _≤(9223372036854775807:Int);omega))) (by kernel_rfl) (by kernel_rfl)).mono ?_;rintro e w' ⟨u5,rfl,hu5,hx5⟩;(go_wp2_with fail);exact hK _ _ hx5 hu5)
    · (intro v w1 w2 h hx;exact Jc h hx (fun _ h _=>h))
    apply Grow.step
    · intro w2 hw2
      intro n1 h1
      simp only[upd,reduceIte,Nat.reduceEqDiff,Nat.reduceAdd]at h1
      first | (unfold EqV at h1;subst h1) | skip
      intro K hK
      go_wp2_with fail
      ((first | exact hK _ _ (Ext.refl _) h1 | exact hK _ _ (Ext.refl _) h2))
    · (intro v w1 w2 h hx;exact Jc h hx (fun _ h _=>h))
    apply Grow.step
    · intro w2 hw2
      intro n1 h1
      simp only[upd,reduceIte,Nat.reduceEqDiff,Nat.reduceAdd]at h1
      first | (unfold EqV at h1;subst h1) | skip
      intro K hK
      go_wp2_with fail
      ((first | exact hK _ _ (Ext.refl _) h1 | exact hK _ _ (Ext.refl _) h2))
    · (intro v w1 w2 h hx;exact Jc h hx (fun _ h _=>h))
    refine Grow.last (fun w2 hw2=> ?_)
    intro n77 h77;simp only[upd,reduceIte,Nat.reduceEqDiff,Nat.reduceAdd]at h77;(first | (unfold EqV at h77;subst h77) | skip)
    intro n78 h78;simp only[upd,reduceIte,Nat.reduceEqDiff,Nat.reduceAdd]at h78;(first | (unfold EqV at h78;subst h78) | skip)
    intro n79 h79;simp only[upd,reduceIte,Nat.reduceEqDiff,Nat.reduceAdd]at h79;(first | (unfold EqV at h79;subst h79) | skip)
    intro n80 h80;simp only[upd,reduceIte,Nat.reduceEqDiff,Nat.reduceAdd]at h80;(first | (unfold EqV at h80;subst h80) | skip)
    intro n81 h81;simp only[upd,reduceIte,Nat.reduceEqDiff,Nat.reduceAdd]at h81;(first | (unfold EqV at h81;subst h81) | skip)
    intro n82 h82;simp only[upd,reduceIte,Nat.reduceEqDiff,Nat.reduceAdd]at h82;(first | (unfold EqV at h82;subst h82) | skip)
    intro n83 h83;simp only[upd,reduceIte,Nat.reduceEqDiff,Nat.reduceAdd]at h83;(first | (unfold EqV at h83;subst h83) | skip)
    intro n4 h4;simp only[upd,reduceIte,Nat.reduceEqDiff,Nat.reduceAdd]at h4;(first | (unfold EqV at h4;subst h4) | skip)
    intro n5 h5;simp only[upd,reduceIte,Nat.reduceEqDiff,Nat.reduceAdd]at h5;(first | (unfold EqV at h5;subst h5) | skip)
    refine Need.done ?_
    simp only[List.drop_succ_cons,List.drop_zero]
    go_simp
    go_wp2_with fail
    go_ret2
    exact ⟨_,_,rfl,h4,h5,XT.out.trans (((Ext.refl _).drew).trans hw2)⟩
  · obtain ⟨j,rfl⟩ : ∃ j,k=j+1:=⟨k-1,by omega⟩
    obtain ⟨e1,l1,l2,l3,l4⟩:=Adv (R:=R) (n:=n) (j:=j) (by omega) Y1.out hlt
    have RW:=Lib.hid ow2
    have QW:=Lib.hid ow3
    have DW:=Lib.hid ow1
    have L4:=Lib.hid l4
    have L3:=Lib.hid l3
    have L2:=Lib.hid l2
    have L1:=Lib.hid l1
    have E1:=Lib.hid e1
    have LT:=Lib.hid hlt
    have EQ:=Lib.hid heq
    clear ow1 ow2 ow3 l1 l2 l3 l4 e1 hlt heq
    have DS:Hid (My wr (.slice (some ⟨G1,0,none⟩) n c1) (q1.take n)):=by
      have:=DW.out.win (j:=0) (n:=n) (c:=c1) (by have:=Q1.out;omega) (by omega)
      rwa[List.drop_zero]at this
    have WIN:=Lib.hid (RW.out.win (j:=j) (n:=n+1) (c:=c2-j) (by omega) (by omega))
    obtain ⟨g,spE,hgl,hgu,hgB⟩:=Aep ((R.drop j).take (n+1)) (q1.take n) (n-2) (by have:=Q1.out;rw[Alw];omega) (by rw[L2.out];omega) (by omega) (by rw[DV.out,show n-2+2=n by omega];exact Y2.out) (by rw[DV.out];exact L3.out)
    rw[DV.out]at hgl hgu
    have SPE:=Lib.hid spE
    have GL:=Lib.hid hgl
    have GU:=Lib.hid hgu
    have GB:=Lib.hid hgB
    clear spE hgl hgu
    rw[Aw]at hgB
    have en:j+n+1-j=n+1:=by omega
    go_wp2_with (go_at_call 337;rw[en];refine (IA (t:=22) (vs:=[_,_]) (M:=fun _=>False) SPE.out Tryz.func337 (by kernel_rfl) (fun _ h=>h.elim) (by kernel_rfl) rfl (Oj (t:=62) (u:=62) (by kernel_rfl) (AB WIN.out (by omega) id) (AB DS.out (by omega) id)) (by kernel_rfl) (k:= .u64) (by kernel_rfl)).mono ?_;rintro e w5 ⟨rfl,_,hx5⟩)
    have LEN:Hid ((R.take j++(R.drop j).take (n+1)++R.drop (j+(n+1))).length≤1000000000):=by show _≤_;rw[← E1.out];omega
    have hq1n:n≤q1.length:=by have:=Q1.out;omega
    have RW5:Hid (OwL w w5 G2 c2 (R.take j++(R.drop j).take (n+1)++R.drop (j+(n+1)))):=by show OwL _ _ _ _ _;rw[← E1.out];exact RW.out.step hx5
    have QW5:Hid (OwL w w5 G3 c3 (Alh (j+1) 0++qh)):=QW.out.step hx5
    have DW5:Hid (OwL w w5 G1 c1 q1):=DW.out.step hx5
    refine (AjX hq1n (by omega) L1.out L2.out LEN.out (by omega) hg2 h12 RW5.out DW5.out GB.out).mono ?_
    rintro e w6 ⟨out,b,hb01,rfl,hol,hov,how,hgr⟩
    rw[L2.out]at hol hov
    rw[DV.out]at hov
    have Y0:Hid (0<y*2 ^ s):=by
      rcases Nat.eq_zero_or_pos (y*2 ^ s) with h0 | h0
      · have:=LT.out;rw[h0]at this;omega
      · exact h0
    have YP:Hid (y*2 ^ s≤B ^ (n+1)):=Nat.le_trans (Nat.le_of_lt Y1.out) (Nat.pow_le_pow_right Bu (by omega))
    have EX:=Lib.hid (AjY Y0.out YP.out GL.out GU.out (by have:=B6 out;rwa[hol]at this) hb01 hov)
    have QW6:Hid (OwL w w6 G3 c3 (Alh (j+1) 0++qh)):=QW5.out.far hgr h23.symm hg2
    have DW6:Hid (OwL w w6 G1 c1 q1):=DW5.out.far hgr h12 hg2
    have HOW:=Lib.hid how
    have HOL:=Lib.hid hol
    clear hov how hgr hol
    have fin:Hid (∀ (w7:World) (o2:List Ao) (g2:Nat),o2.length=n+1→nv o2=nv ((R.drop j).take (n+1)) % (y*2 ^ s)→g2=nv ((R.drop j).take (n+1)) / (y*2 ^ s)→OwL w w7 G2 c2 (R.take j++o2++R.drop (j+(n+1)))→OwL w w7 G3 c3 (Alh (j+1) 0++qh)→OwL w w7 G1 c1 q1→g2<B →
        ∃ (k:Nat) (R' qh':List Ao),Value.int IntKind.i64 ((j:Int)-1) = .int .i64 ((k:Int)-1)∧LInv (x*2 ^ s) (y*2 ^ s) m n w (w7.setCell ⟨G3,j,none⟩ (.int .u32 (g2:Int))) G1 c1 G2 c2 G3 c3 q1 k R' qh'):=by
      intro w7 o2 g2 t1 t2 t3 t4 t5 t6 t7
      obtain ⟨u1,u2,u3⟩:=L4.out o2 t1 t2
      have gs:w7.grownBy (w7.setCell ⟨G3,j,none⟩ (.int .u32 (g2:Int))) (some G3):=Qc (Qb _ _) _ _ _
      refine ⟨j,_,Al0 32 g2::qh,rfl,by omega,u1.trans hR,by simp;omega,u2,?_,t4.far gs h23 hg3,?_,t6.far gs h13 hg3⟩
      · rw[← EQ.out,← u3,nv,ofNat_lt t7,← t3,Nat.mul_add,Nat.mul_add,Amk,Nat.mul_assoc (B ^ j)];omega
      · have:=t5.set j (by simp;omega) (Al0 32 g2)
        rw[ofNat_lt t7,Agf]at this
        exact this
    by_cases hb0:b=0
    · subst hb0
      obtain ⟨cl,fz,gb,gl⟩:=QW6.out.cell j (by simp;omega)
      obtain ⟨e2,e3⟩:=EX.out.1 rfl
      have E2:=Lib.hid e2
      have E3:=Lib.hid e3
      clear e2 e3
      go_wp2
      go_roundw
      case rel=>exact fin.out _ out g HOL.out E3.out E2.out HOW.out QW6.out DW6.out GB.out
      case measure=>(simp[intOf] <;> omega)
    · obtain ⟨e2,e3⟩:=EX.out.2 hb0
      obtain ⟨g',rfl⟩ : ∃ g',g=g'+1:=⟨_,e2⟩
      have E2:Hid (g'=nv ((R.drop j).take (n+1)) / (y*2 ^ s)):=Nat.succ.inj e2
      have E3:=Lib.hid e3
      have hbz:(!(b == 0))=true:=by simp[hb0]
      have HGB':Hid (g'<B):=Nat.lt_of_succ_lt GB.out
      have eg:(((g'+1:Nat):Int)-1)=(g':Int):=by omega
      clear e2 e3
      go_wp2_with fail
      have LEN6:Hid ((R.take j++out++R.drop (j+(n+1))).length≤1000000000):=by
        have h1:=LEN.out
        simp only[Alr,L2.out,HOL.out]at h1 ⊢
        exact h1
      refine (Af7 hq1n (by omega) L1.out HOL.out LEN6.out (by omega) hg2 h12 HOW.out DW6.out).mono ?_
      rintro e w7 ⟨out2,b2,v,rfl,hol2,hov2,how2,hgr2⟩
      rw[HOL.out]at hol2 hov2
      rw[DV.out]at hov2
      have E4:=Lib.hid (E3.out (nv out2) b2 (by have:=B6 out2;rwa[hol2]at this) hov2)
      have QW7:Hid (OwL w w7 G3 c3 (Alh (j+1) 0++qh)):=QW6.out.far hgr2 h23.symm hg2
      have DW7:Hid (OwL w w7 G1 c1 q1):=DW6.out.far hgr2 h12 hg2
      have HOW2:=Lib.hid how2
      have HOL2:=Lib.hid hol2
      obtain ⟨cl,fz,gb,gl⟩:=QW7.out.cell j (by simp;omega)
      have hgB':=HGB'.out
      rw[Aw]at hgB'
      clear hov2 how2 hgr2 hol2 hgB
      go_wp2
      go_roundw
      case rel=>exact fin.out _ out2 g' HOL2.out E4.out E2.out HOW2.out QW7.out DW7.out HGB'.out
      case measure=>(simp[intOf] <;> omega)
theorem Aes(x y:Nat)(h1:1<(lb y).length)(hxy:y≤x)(hl:(lb x).length≤100000):Sp 332 [dL (lb x),dL (lb y)] [dL (lb (x / y)),dL (lb (x % y))]:=by
 refine Zt La Tryz.func332 (by kernel_rfl) (by kernel_rfl) (by kernel_rfl) (fun w M vs hM _ hlv hrd=> ?_)
 have hps:Tryz.f332.params.toList = [62,62]:=by kernel_rfl
 have hlen:vs.length=2:=by rw[hlv];rfl
 match vs,hlen with
 | [va,vb],_ =>
  rw[hps]at hrd
  refine (Adu x y va vb w M (hrd 0 _ _ _ rfl rfl rfl) (hrd 1 _ _ _ rfl rfl rfl) hM h1 hxy hl).mono ?_
  rintro e w' ⟨u1,u2,rfl,r1,r2,hx⟩
  refine ⟨[u1,u2],rfl,rfl,fun i t u ht hu=> ?_,hx⟩
  rw[show Tryz.f332.resultTypes.toList = [62,62] by kernel_rfl]at ht
  match i with
  | 0=>cases ht;cases hu;exact Jc r1 (Ext.refl _) (fun b hb _=>hM b hb)
  | 1=>cases ht;cases hu;exact Jc r2 (Ext.refl _) (fun b hb _=>hM b hb)
  | i+2=>simp at ht
theorem Vi(x y:Nat)(hl:(lb x).length≤100000):AF x y:=fun h1 h2=>Aes x y h1 h2 hl
end Go.Proofs.YtokkbgpgaheakaaGreat
namespace Go.Proofs.YtokkbgpgaheakaaGreat
def H6(z:Int)(d:Nat):Num:=⟨decide (z<0),lb z.natAbs,lb d⟩
theorem AeL(z:Int)(d:Nat):Bm (H6 z d)=z:=Cw z
theorem AeJ(z:Int)(d:Nat):Bi (H6 z d)=(d:Int):=by simp[Bi,H6,Bn]
theorem L0:lb 1 = [1]:=by rw[Nw (by decide),show 1 / B=0 from rfl,Cs];rfl
theorem No(z:Int):H6 z 1=Cm z:=by unfold H6 Cm;rw[L0]
theorem Vp(p q:Int)(hq:q≠0) : ∃ (z:Int) (d:Nat),d≠0∧Nat.Coprime z.natAbs d∧z*q=p*(d:Int)∧z.natAbs≤p.natAbs∧d≤q.natAbs∧C1 p q=if 32<Br z∨32<(lb d).length then (.zero,7) else (H6 z d,0):=by
 have hg:0<Nat.gcd p.natAbs q.natAbs:=Nat.gcd_pos_of_pos_right _ (by omega)
 obtain ⟨a,ha⟩:=Nat.gcd_dvd_left p.natAbs q.natAbs
 obtain ⟨b,hb⟩:=Nat.gcd_dvd_right p.natAbs q.natAbs
 have hda:p.natAbs / Nat.gcd p.natAbs q.natAbs=a:=by
   conv=>lhs;lhs;rw[ha]
   exact Nat.mul_div_cancel_left _ hg
 have hdb:q.natAbs / Nat.gcd p.natAbs q.natAbs=b:=by
   conv=>lhs;lhs;rw[hb]
   exact Nat.mul_div_cancel_left _ hg
 have hcop:Nat.Coprime a b:=by
   have:=Nat.coprime_div_gcd_div_gcd hg
   rwa[hda,hdb]at this
 have hb0:b≠0:=fun h=>by rw[h,Nat.mul_zero]at hb;omega
 have ha0:a=0↔p=0:=by
   constructor
   · intro h;rw[h,Nat.mul_zero]at ha;omega
   · intro h
     rw[h]at ha
     simp only[Int.natAbs_zero]at ha
     rcases Nat.mul_eq_zero.1 ha.symm with h1 | h1
     · rw[h]at hg;simp only[Int.natAbs_zero]at hg;omega
     · exact h1
 have hal:a≤p.natAbs:=by rw[ha];exact Nat.le_mul_of_pos_left _ hg
 have hbl:b≤q.natAbs:=by rw[hb];exact Nat.le_mul_of_pos_left _ hg
 have hab:a*q.natAbs=p.natAbs*b:=by
   conv=>lhs;rw[hb]
   conv=>rhs;rw[ha]
   rw[Nat.mul_left_comm,Nat.mul_assoc]
 unfold C1
 rw[if_neg hq,hda,hdb]
 generalize Nat.gcd p.natAbs q.natAbs=g at *
 clear hda hdb ha hb hg
 have habz:(a:Int)*(q.natAbs:Int)=(p.natAbs:Int)*(b:Int):=by rw[← Int.natCast_mul,hab,Int.natCast_mul]
 by_cases hs:decide (p<0)=decide (q<0)
 · refine ⟨(a:Int),b,hb0,by simpa using hcop,?_,by simpa using hal,hbl,?_⟩
   · rw[decide_eq_decide]at hs
     by_cases hp:p<0
     · have e1:(p.natAbs:Int) = -p:=by omega
       have e2:(q.natAbs:Int) = -q:=by omega
       rw[e1,e2]at habz
       grind
     · have e1:(p.natAbs:Int)=p:=by omega
       have e2:(q.natAbs:Int)=q:=by omega
       rw[e1,e2]at habz
       exact habz
   · unfold H6 Br
     rw[hs,beq_self_eq_true,Bool.not_true,Bool.and_false]
     simp only[Int.natAbs_natCast]
     rw[decide_eq_false (p:=((a:Int)<0)) (by omega)]
 · have hp:(decide (p<0)==decide (q<0))=false:=by simpa using hs
   refine ⟨-(a:Int),b,hb0,by simpa using hcop,?_,by simpa using hal,hbl,?_⟩
   · rw[decide_eq_decide]at hs
     by_cases hp:p<0
     · have e1:(p.natAbs:Int) = -p:=by omega
       have e2:(q.natAbs:Int)=q:=by omega
       rw[e1,e2]at habz
       grind
     · have e1:(p.natAbs:Int)=p:=by omega
       have e2:(q.natAbs:Int) = -q:=by omega
       rw[e1,e2]at habz
       grind
   · unfold H6 Br
     rw[hp,Bool.not_false,Bool.and_true]
     simp only[Int.natAbs_neg,Int.natAbs_natCast]
     have:decide (0<(lb a).length)=decide (-(a:Int)<0):=by
       rw[decide_eq_decide]
       have:=F_ (n:=a)
       omega
     rw[this]
theorem Abp{z z':Int}{d d':Nat}(h:d≠0)(h':d'≠0)(c:Nat.Coprime z.natAbs d)(c':Nat.Coprime z'.natAbs d')(e:z*(d':Int)=z'*(d:Int)):z=z'∧d=d':=by
 have en:z.natAbs*d'=z'.natAbs*d:=by
  have:=congrArg Int.natAbs e
  simpa [Int.natAbs_mul]using this
 have h1:d∣d':=(Nat.Coprime.dvd_of_dvd_mul_left c.symm (by rw[en];exact Nat.dvd_mul_left _ _))
 have h2:d'∣d:=(Nat.Coprime.dvd_of_dvd_mul_left c'.symm (by rw[← en];exact Nat.dvd_mul_left _ _))
 have hd:=Nat.dvd_antisymm h1 h2
 subst hd
 exact ⟨Int.eq_of_mul_eq_mul_right (by omega) e,rfl⟩
structure RNum (n:Num) (z:Int) (d:Nat):Prop where
 eq:n=H6 z d
 d0:d≠0
 cop:Nat.Coprime z.natAbs d
 lz:Br z≤32
 ld:(lb d).length≤32
theorem AdD{z:Int}{d:Nat}(h0:d≠0)(hc:Nat.Coprime z.natAbs d)(h1:Br z≤32)(h2:(lb d).length≤32):C1 z (d:Int)=(H6 z d,0):=by
 obtain ⟨z',d',h1',h2',h3',_,_,h4'⟩:=Vp z (d:Int) (by omega)
 obtain ⟨rfl,rfl⟩:=Abp h0 h1' hc h2' h3'.symm
 rw[h4',if_neg (by omega)]
theorem RNum.self {n:Num} {z:Int} {d:Nat} (h:RNum n z d):C1 z (d:Int)=(n,0):=by rw[AdD h.d0 h.cop h.lz h.ld,h.eq]
theorem RNum.top {n:Num} {z:Int} {d:Nat} (h:RNum n z d):Bm n=z:=by rw[h.eq,AeL]
theorem RNum.bot {n:Num} {z:Int} {d:Nat} (h:RNum n z d):Bi n=(d:Int):=by rw[h.eq,AeJ]
theorem Ot{n:Num}(h:Ej n=true) : ∃ z d,RNum n z d:=by
 unfold Ej at h
 obtain ⟨h1,h2,h3⟩:=of_decide_eq_true h
 by_cases hq:Bi n=0
 · rw[hq]at h3
   have:=congrArg Prod.snd h3
   simp[C1]at this
 · obtain ⟨z,d,g1,g2,_,_,_,g4⟩:=Vp (Bm n) (Bi n) hq
   rw[h3]at g4
   split at g4
   · cases g4
   · injection g4 with g4
     exact ⟨z,d,g4,g1,g2,by omega,by omega⟩
theorem RNum.len {n:Num} {z:Int} {d:Nat} (h:RNum n z d):n.top.length≤32∧n.bot.length≤32:=by rw[h.eq];exact ⟨h.lz,h.ld⟩
theorem PJ{p q:Int}(hq:q≠0):((C1 p q).2=0→∃ z d,RNum (C1 p q).1 z d∧z*q=p*(d:Int)∧z.natAbs≤p.natAbs∧d≤q.natAbs)∧((C1 p q).2=0∨(C1 p q)=(.zero,7))∧(Br p≤32→Br q≤32→(C1 p q).2=0):=by
 obtain ⟨z,d,g1,g2,g3,g5,g6,g4⟩:=Vp p q hq
 rw[g4]
 have mono : ∀ {a b k:Nat},a≤b→(lb b).length≤k→(lb a).length≤k:=fun hab hk=>Ay.2 (Nat.lt_of_le_of_lt hab (Ay.1 hk))
 refine ⟨fun h=> ?_,?_,fun h1 h2=> ?_⟩
 · split at h
   · cases h
   · rename_i hh
     rw[if_neg hh]
     exact ⟨z,d,⟨rfl,g1,g2,by omega,by omega⟩,g3,g5,g6⟩
 · split
   · exact .inr rfl
   · exact .inl rfl
 · rw[if_neg]
   have a1:=mono g5 h1
   have a2:=mono g6 h2
   unfold Br;omega
def C9(r:Num×Int):List D:=[dN r.1,.int r.2]
theorem Kv(n:Num):Br (Bm n)≤n.top.length:=G_ ⟨n.neg,n.top⟩
theorem Ku(n:Num):Br (Bi n)≤n.bot.length:=G_ ⟨false,n.bot⟩
theorem Ki(n:Num):zv ⟨false,n.bot⟩=Bi n:=rfl
theorem Jq(n:Num):zv ⟨n.neg,n.top⟩=Bm n:=rfl
def AI(a b:Num):Num×Int:=C1 (Bm a*Bi b+Bm b*Bi a) (Bi a*Bi b)
def N7(a b:Num):Num×Int:=C1 (Bm a*Bm b) (Bi a*Bi b)
def Ln(a b:Num):Num×Int:=C1 (Bm a*Bi b) (Bi a*Bm b)
def Gj(a b:Num):Int:=Cg (Bm a*Bi b) (Bm b*Bi a)
def Ib(a:Num):Num:=if a.top = [] then Cm 0 else ⟨!a.neg,a.top,a.bot⟩
def IB(a b:Num):Num×Int:=AI a (Ib b)
def I0(a:Num):Num:=Cm (Dy (Bm a) (Bi a)).1
def M5(r:Num×Int)(f:Num→Num×Int):Num×Int:=if r.2=0 then f r.1 else (.zero,r.2)
def EC(a b:Num):Num×Int:=if a.top = [] then (b,0) else M5 (Ln b a) fun q=>M5 (N7 a (I0 q)) fun p=>IB b p
def Wx(p q:Int×Int):Num×Int:=if p.2=0 then (if q.2=0 then C1 p.1 q.1 else (.zero,q.2)) else (.zero,p.2)
def FF(a:Num)(n:Int):Num×Int :=
 if n<0 then (if a.top = []∨n < -9223372036854775807 then (.zero,3) else Wx (Ky (Bi a) (-n)) (Ky (Bm a) (-n))) else Wx (Ky (Bm a) n) (Ky (Bi a) n)
def Lu(a b:Num):Num×Int:=if a.bot = [1]∧b.bot = [1] then (Cm (Nat.gcd (nv a.top) (nv b.top):Nat),0) else (.zero,3)
def DM(a b:Num):Num×Int:=M5 (Lu a b) fun g=>if g.top = [] then (g,0) else M5 (Ln a g) fun p=>N7 p b
theorem EH{n:Num}{z:Int}{d:Nat}(h:RNum n z d):RNum (Ib n) (-z) d:=by
 have h0:n.top = []↔z=0:=by rw[h.eq];show lb z.natAbs = []↔_;rw[DK];omega
 refine ⟨?_,h.d0,by rw[Int.natAbs_neg];exact h.cop,by rw[Adr];exact h.lz,h.ld⟩
 unfold Ib
 split
 · rename_i h1
   have hz:=h0.1 h1
   have hd:d=1:=by
    have:=h.cop
    rw[hz,Int.natAbs_zero,Nat.coprime_zero_left]at this
    exact this
   rw[hz,hd,Int.neg_zero,No]
 · rename_i h1
   have hz:z≠0:=fun hh=>h1 (h0.2 hh)
   rw[h.eq]
   unfold H6
   simp only[Int.natAbs_neg]
   rw[show decide (-z<0) = !decide (z<0) by rw[Eu,decide_eq_decide];omega]
theorem Aew(a b:Nat)(ha:a<18446744073709551616)(hb:b<18446744073709551616):Sp 327 [.int (a:Int),.int (b:Int)] [dL (lb (Nat.gcd a b))]:=by
 have key : ∀ (m N x y:Nat),y<m→x<18446744073709551616→y<18446744073709551616→Tw (Wa N m (x:Int) (y:Int)) [dL (lb (Nat.gcd x y))]:=by
  intro m
  induction m with
  | zero=>intro N x y h;omega
  | succ m ih =>
   intro N x y h hx hy
   simp only[Tw,Aev,Cu,Cc,Eu]
   refine Ae (fun h0=> ?_) (fun h0=> ?_)
   · have hm:=Al9 x (show 0<y by omega)
     have:=ih N y (x % y) (by omega) hy (by omega)
     rw[Nat.gcd_comm x y,Nat.gcd_rec,Nat.gcd_comm]
     exact Ad this
   · have:y=0:=by omega
     subst this
     rw[Nat.gcd_zero_right,Ni]
     have e1:Ale .u32 (x:Int)=((x % 4294967296:Nat):Int):=by rw[IntKind.wrap_u32];omega
     have e2:Ale .u32 ((x / 4294967296:Nat):Int)=((x / 4294967296:Nat):Int):=Ey (by omega) (by omega)
     have nm:=Gz [Al0 32 (x % 4294967296),Al0 32 (x / 4294967296)] (by simp)
     rw[R7 hx]at nm
     rw[e1,e2,D6 (t:=x % 4294967296) (by rw[Aw];omega),D6 (t:=x / 4294967296) (by rw[Aw];omega)]
     exact Ax (by decide) (Aa nm (Ac rfl))
 refine Af (b+1) (Aex _ _ _) ?_
 simp only[Ak]
 exact key (b+1) (b+1) a b (by omega) ha hb
theorem QH(l:List Ao)(h:l.length≤2):Sp 328 [dL l] [.int ((nv l:Nat):Int)]:=by
 refine Af 3 (Ae0 _ _) ?_
 have one : ∀ (m k x:Nat) (d:Ao),k≤1→l[k]? = some d→(k=0→x=0)→x<4294967296→Tw (N9 3 m ((x+d.toNat*4294967296 ^ k:Nat):Int) (dL l) (l.length:Int) ((k+1:Nat):Int)) [.int ((nv l:Nat):Int)]→Tw (N9 3 (m+1) (x:Int) (dL l) (l.length:Int) (k:Int)) [.int ((nv l:Nat):Int)]:=by
  intro m k x d hk hd hx hx2 hw
  have hkl:k<l.length:=(Alj.1 hd).1
  have hdl:=Ed d
  rw[Aw]at hdl
  simp only[Tw,QG,Bx,Ali,Aln,Ar hd,D5]
  rw[As (x:=32*(k:Int)) (by omega) (by omega),Bq (x:=32*(k:Int)) (by omega) (by omega),Bq (x:=(d.toNat:Int)) (by omega) (by omega),Fo (by omega)]
  refine Ad (Ad (Ad (Ad ?_)))
  have e:Bj .or .u64 (x:Int) (Ale .u64 ((d.toNat:Int)*2 ^ (min (Alf (32*(k:Int))) (Alq .u64))))=((x+d.toNat*4294967296 ^ k:Nat):Int):=by
   rcases (by omega:k=0∨k=1) with rfl | rfl
   · rw[hx rfl]
     show Bj .or .u64 ((0:Nat):Int) (Ale .u64 ((d.toNat:Int)*1))=_
     rw[Int.mul_one,Bq (by omega) (by omega),RB (by omega) (by omega)]
     simp
   · show Bj .or .u64 (x:Int) (Ale .u64 ((d.toNat:Int)*4294967296))=_
     rw[show (d.toNat:Int)*4294967296=((d.toNat*4294967296:Nat):Int) by omega,Bq (by omega) (by omega),EY hx2 hdl]
     try simp
  rw[e]
  exact hw
 simp only[Bx,Ali]
 have fin : ∀ (m x:Nat),nv l=x→Tw (N9 3 (m+1) (x:Int) (dL l) (l.length:Int) (l.length:Int)) [.int ((nv l:Nat):Int)]:=by
  intro m x hx
  simp only[Tw,QG]
  exact Aq (Ac (by rw[hx]))
 match l,h with
 | [],_=>exact fin 2 0 rfl
 | [d],_ =>
  refine one 2 0 0 d (by omega) rfl (fun _=>rfl) (by omega) ?_
  exact fin 1 _ (by simp[nv])
 | [d,e],_ =>
  have hdl:=Ed d
  rw[Aw]at hdl
  refine one 2 0 0 d (by omega) rfl (fun _=>rfl) (by omega) ?_
  rw[show 0+d.toNat*4294967296 ^ 0=d.toNat by simp]
  refine one 1 1 d.toNat e (by omega) rfl (fun h=>by omega) (by omega) ?_
  refine fin 0 _ ?_
  simp only[nv]
  rw[Aw,Nat.pow_one,Ami e.toNat]
  simp
theorem PW(a b:List Ao)(ha:a.length≤1000)(hb:b.length≤1000):Sp 315 [dL a,dL b] [dL (lb (Nat.gcd (nv a) (nv b)))]:=by
 obtain ⟨K,hK⟩ : ∃ K,K=1000:=⟨_,rfl⟩
 have key : ∀ (m N x y:Nat),y<m→(lb x).length≤K→(lb y).length≤K→Tw (Qt N m (dL (lb x)) (dL (lb y))) [dL (lb (Nat.gcd x y))]:=by
  intro m
  induction m with
  | zero=>intro N x y h;omega
  | succ m ih =>
   intro N x y h hx hy
   simp only[Tw,Aeh,Bx,Ali]
   have ly0:=F_ (n:=y)
   refine Ae (fun h0=> ?_) (fun h0=> ?_)
   · have hy0:y≠0:=fun hh=>by rw[ly0.2 hh]at h0;omega
     have hm:=Al9 x (show 0<y by omega)
     have hml:(lb (x % y)).length≤K:=Ay.2 (Nat.lt_of_le_of_lt (Nat.le_of_lt hm) (Ay.1 hy))
     have dm:=V0 (lb x) (lb y) (by omega) (by omega) (Vi _ _ (by rw[Bn];omega))
     rw[Bn,Bn,if_neg hy0]at dm
     have nxt:=ih N y (x % y) (by omega) hy hml
     rw[show Nat.gcd y (x % y)=Nat.gcd x y by rw[Nat.gcd_comm x y,Nat.gcd_rec y x,Nat.gcd_comm]]at nxt
     refine Ae (fun h1=>Ae (fun h2=> ?_) (fun h2=>Aa dm nxt)) (fun h1=>Aa dm nxt)
     have w1:=QH (lb x) (by omega)
     have w2:=QH (lb y) (by omega)
     rw[Bn]at w1 w2
     have b1:x<18446744073709551616:=Ay.1 (show (lb x).length≤2 by omega)
     have b2:y<18446744073709551616:=Ay.1 (show (lb y).length≤2 by omega)
     exact Aa w1 (Aa w2 (Aa (Aew x y b1 b2) (Ac rfl)))
   · have:y=0:=ly0.1 (by omega)
     subst this
     have nm:=Gz (lb x) (by omega)
     rw[Bn]at nm
     rw[Nat.gcd_zero_right]
     exact Aa nm (Ac rfl)
 have la:(lb (nv a)).length≤a.length:=Ay.2 (B6 a)
 have lb_:(lb (nv b)).length≤b.length:=Ay.2 (B6 b)
 refine Af (nv b+1) (Aei _ _ _) (Aa (E9 a (by omega)) (Aa (E9 b (by omega)) ?_))
 exact key (nv b+1) (nv b+1) (nv a) (nv b) (by omega) (by omega) (by omega)
theorem Gc(n:Num):Sp 255 [dN n] [dW ⟨false,n.bot⟩]:=Af 0 (Ag9 _ _) (Ac rfl)
theorem Aad{w:Wh}(h:nv w.mag≠0):decide (zv w<0)=w.neg:=by
 rw[show w.neg=decide (w.neg=true) by simp,decide_eq_decide];exact Sk h
theorem W4(p q:Wh)(hp:p.mag.length≤1000)(hq:q.mag.length≤1000):Sp 305 [dW p,dW q] (C9 (C1 (zv p) (zv q))):=by
 refine Af 0 (Agv _ _ _) (Aa (Gz p.mag (by omega)) (Aa (Gz q.mag (by omega)) ?_))
 have lp:(lb (nv p.mag)).length≤p.mag.length:=Ay.2 (B6 _)
 have lq:(lb (nv q.mag)).length≤q.mag.length:=Ay.2 (B6 _)
 have ap:=Kh p
 have aq:=Kh q
 have sgn : ∀ t:Nat,(0<(lb t).length→nv p.mag≠0)→nv q.mag≠0→(decide (0<(lb t).length)&& !(decide (zv p<0)==decide (zv q<0)))=if 0<(lb t).length then !(p.neg == q.neg) else false:=by
   intro t h1 h2
   split
   · rename_i h3
     rw[decide_eq_true h3,Bool.true_and,Aad (h1 h3),Aad h2]
   · rename_i h3
     rw[decide_eq_false h3,Bool.false_and]
 simp only[Ag,E5,Ep,Bx,Ali,Az,Cc]
 have ly0:=F_ (n:=nv q.mag)
 refine Ae (fun h=>Ac ?_) (fun h=> ?_)
 · have:zv q=0:=Sl.2 (ly0.1 (by omega))
   unfold C1;rw[if_pos this];rfl
 have hq0:nv q.mag≠0:=fun hh=>h (by rw[hh,Cs];rfl)
 have hqz:zv q≠0:=fun hh=>hq0 (Sl.1 hh)
 have fin : ∀ g:Nat,g=Nat.gcd (nv p.mag) (nv q.mag)→∀ (t b:Nat),t=nv p.mag / g→b=nv q.mag / g→Tw (.br (decide (32<((lb t).length:Int))) (.ret [D.agg [D.bool false,D.sl [],D.sl []],D.int 7]) (.br (decide (32<((lb b).length:Int))) (.ret [D.agg [D.bool false,D.sl [],D.sl []],D.int 7]) (.br (decide (0<((lb t).length:Int))) (.ret [D.agg [D.bool (!(p.neg == q.neg)),dL (lb t),dL (lb b)],D.int 0]) (.ret [D.agg [D.bool false,dL (lb t),dL (lb b)],D.int 0])))) (C9 (C1 (zv p) (zv q))):=by
   intro g hg t b ht hb
   have sg:=sgn t (fun h3 hh=>by rw[ht,hh,Nat.zero_div,Cs]at h3;simp at h3) hq0
   unfold C1 C9
   rw[if_neg hqz,ap,aq,← hg,← ht,← hb,sg]
   refine Ae (fun h1=>Ac ?_) (fun h1=>Ae (fun h2=>Ac ?_) (fun h2=>Ae (fun h3=>Ac ?_) (fun h3=>Ac ?_)))
   · rw[if_pos (by omega)];rfl
   · rw[if_pos (by omega)];rfl
   · rw[if_neg (by omega),if_pos (by omega)];rfl
   · rw[if_neg (by omega),if_neg (by omega)];rfl
 refine Aa (J6 _) ?_
 simp only[Ag,Az,Eu]
 have one : ∀ l:List Ao,l = [1]→nv l=1:=fun l h=>by rw[h];simp[nv]
 refine Ae (fun h1=> ?_) (fun h1=> ?_)
 · have gc:=PW (lb (nv p.mag)) (lb (nv q.mag)) (by omega) (by omega)
   rw[Bn,Bn]at gc
   refine Aa gc (Aa (J6 _) ?_)
   simp only[Ag,Az,Eu]
   have hg0:Nat.gcd (nv p.mag) (nv q.mag)≠0:=fun hh=>hq0 (Nat.gcd_eq_zero_iff.1 hh).2
   have hgl:(lb (Nat.gcd (nv p.mag) (nv q.mag))).length≤q.mag.length:=Ay.2 (Nat.lt_of_le_of_lt (Nat.gcd_le_right _ (by omega)) (B6 _))
   refine Ae (fun h2=> ?_) (fun h2=> ?_)
   · have d1:=V0 (lb (nv p.mag)) (lb (Nat.gcd (nv p.mag) (nv q.mag))) (by omega) (by omega) (Vi _ _ (by rw[Bn];omega))
     have d2:=V0 (lb (nv q.mag)) (lb (Nat.gcd (nv p.mag) (nv q.mag))) (by omega) (by omega) (Vi _ _ (by rw[Bn];omega))
     rw[Bn,Bn]at d1 d2
     refine Aa d1 (Aa d2 ?_)
     simp only[Ag,Bx,Ali]
     exact fin _ rfl _ _ rfl rfl
   · have:Nat.gcd (nv p.mag) (nv q.mag)=1:=by have:=one _ (Alt.1 h2);rwa[Bn]at this
     exact fin 1 this.symm _ _ (Nat.div_one _).symm (Nat.div_one _).symm
 · have hq1:nv q.mag=1:=by have:=one _ (Alt.1 h1);rwa[Bn]at this
   exact fin 1 (by rw[hq1,Nat.gcd_one_right]) _ _ (Nat.div_one _).symm (Nat.div_one _).symm
def Gh(n:Num):Prop:=n.top.length≤200∧n.bot.length≤200
theorem RNum.sm {n:Num} {z:Int} {d:Nat} (h:RNum n z d):Gh n:=by have:=h.len;unfold Gh;omega
section
variable {a b:Num}
theorem SZ(ha:Gh a)(hb:Gh b):Sp 277 [dN a,dN b] (C9 (AI a b)):=by
 obtain ⟨a1,a2⟩:=ha
 obtain ⟨b1,b2⟩:=hb
 have at_:=Kv a;have ab:=Ku a;have bt:=Kv b;have bb:=Ku b
 have m1:=H9 (Bm a) (Bi b)
 have m2:=H9 (Bm b) (Bi a)
 have m3:=H9 (Bi a) (Bi b)
 have s1:=Adq (Bm a*Bi b) (Bm b*Bi a)
 have x1:=Hy ⟨a.neg,a.top⟩ ⟨false,b.bot⟩ (by show a.top.length≤_;omega) (by show b.bot.length≤_;omega)
 have x2:=Hy ⟨b.neg,b.top⟩ ⟨false,a.bot⟩ (by show b.top.length≤_;omega) (by show a.bot.length≤_;omega)
 have x3:=Hy ⟨false,a.bot⟩ ⟨false,b.bot⟩ (by show a.bot.length≤_;omega) (by show b.bot.length≤_;omega)
 have x4:=IT (wz (Bm a*Bi b)) (wz (Bm b*Bi a)) (by rw[Fc];omega) (by rw[Fc];omega)
 have x5:=W4 (wz (Bm a*Bi b+Bm b*Bi a)) (wz (Bi a*Bi b)) (by rw[Fc];omega) (by rw[Fc];omega)
 rw[Jq,Ki]at x1 x2
 rw[Ki,Ki]at x3
 rw[Cw,Cw]at x4 x5
 exact Af 0 (Agl _ _ _) (Aa (E_ a) (Aa (Gc b) (Aa x1 (Aa (E_ b) (Aa (Gc a) (Aa x2 (Aa x4 (Aa (Gc a) (Aa (Gc b) (Aa x3 (Aa x5 (Ac rfl))))))))))))
theorem FT(ha:Gh a)(hb:Gh b):Sp 279 [dN a,dN b] (C9 (N7 a b)):=by
 obtain ⟨a1,a2⟩:=ha
 obtain ⟨b1,b2⟩:=hb
 have at_:=Kv a;have ab:=Ku a;have bt:=Kv b;have bb:=Ku b
 have m1:=H9 (Bm a) (Bm b)
 have m3:=H9 (Bi a) (Bi b)
 have x1:=Hy ⟨a.neg,a.top⟩ ⟨b.neg,b.top⟩ (by show a.top.length≤_;omega) (by show b.top.length≤_;omega)
 have x3:=Hy ⟨false,a.bot⟩ ⟨false,b.bot⟩ (by show a.bot.length≤_;omega) (by show b.bot.length≤_;omega)
 have x5:=W4 (wz (Bm a*Bm b)) (wz (Bi a*Bi b)) (by rw[Fc];omega) (by rw[Fc];omega)
 rw[Jq,Jq]at x1
 rw[Ki,Ki]at x3
 rw[Cw,Cw]at x5
 exact Af 0 (Agy _ _ _) (Aa (E_ a) (Aa (E_ b) (Aa x1 (Aa (Gc a) (Aa (Gc b) (Aa x3 (Aa x5 (Ac rfl))))))))
theorem W3(ha:Gh a)(hb:Gh b):Sp 260 [dN a,dN b] (C9 (Ln a b)):=by
 obtain ⟨a1,a2⟩:=ha
 obtain ⟨b1,b2⟩:=hb
 have at_:=Kv a;have ab:=Ku a;have bt:=Kv b;have bb:=Ku b
 have m1:=H9 (Bm a) (Bi b)
 have m3:=H9 (Bi a) (Bm b)
 have x1:=Hy ⟨a.neg,a.top⟩ ⟨false,b.bot⟩ (by show a.top.length≤_;omega) (by show b.bot.length≤_;omega)
 have x3:=Hy ⟨false,a.bot⟩ ⟨b.neg,b.top⟩ (by show a.bot.length≤_;omega) (by show b.top.length≤_;omega)
 have x5:=W4 (wz (Bm a*Bi b)) (wz (Bi a*Bm b)) (by rw[Fc];omega) (by rw[Fc];omega)
 rw[Jq,Ki]at x1
 rw[Ki,Jq]at x3
 rw[Cw,Cw]at x5
 exact Af 0 (Agp _ _ _) (Aa (E_ a) (Aa (Gc b) (Aa x1 (Aa (Gc a) (Aa (E_ b) (Aa x3 (Aa x5 (Ac rfl))))))))
theorem EJ(h:a.bot = [1]):Bi a=1:=by unfold Bi;rw[h];simp[nv]
theorem W2(ha:Gh a)(hb:Gh b):Sp 219 [dN a,dN b] [.int (Gj a b)]:=by
 obtain ⟨a1,a2⟩:=ha
 obtain ⟨b1,b2⟩:=hb
 have at_:=Kv a;have ab:=Ku a;have bt:=Kv b;have bb:=Ku b
 have m1:=H9 (Bm a) (Bi b)
 have m2:=H9 (Bm b) (Bi a)
 have x1:=Hy ⟨a.neg,a.top⟩ ⟨false,b.bot⟩ (by show a.top.length≤_;omega) (by show b.bot.length≤_;omega)
 have x2:=Hy ⟨b.neg,b.top⟩ ⟨false,a.bot⟩ (by show b.top.length≤_;omega) (by show a.bot.length≤_;omega)
 have x4:=ZP (wz (Bm a*Bi b)) (wz (Bm b*Bi a)) (by rw[Fc];omega) (by rw[Fc];omega)
 have x5:=ZP ⟨a.neg,a.top⟩ ⟨b.neg,b.top⟩ (by show a.top.length≤_;omega) (by show b.top.length≤_;omega)
 rw[Jq,Ki]at x1 x2
 rw[Cw,Cw]at x4
 rw[Jq,Jq]at x5
 refine Af 0 (Ago _ _ _) (Aa (J6 a.bot) ?_)
 simp only[Ag,Az]
 refine Ae (fun h=>Aa (J6 b.bot) ?_) (fun h=>Aa (E_ a) (Aa (Gc b) (Aa x1 (Aa (E_ b) (Aa (Gc a) (Aa x2 (Aa x4 (Ac rfl))))))))
 simp only[Ag,Az]
 refine Ae (fun h'=> ?_) (fun h'=>Aa (E_ a) (Aa (Gc b) (Aa x1 (Aa (E_ b) (Aa (Gc a) (Aa x2 (Aa x4 (Ac rfl))))))))
 refine Aa (E_ a) (Aa (E_ b) (Aa x5 (Ac ?_)))
 unfold Gj
 rw[EJ h,EJ h',Int.mul_one,Int.mul_one];rfl
theorem W6(ha:Gh a):Sp 259 [dN a] [.int (Fa (Bm a))]:=by
 obtain ⟨a1,a2⟩:=ha
 exact Af 0 (Ag5 _ _) (Aa (E_ a) (Aa (Z9 ⟨a.neg,a.top⟩ (by show a.top.length≤_;omega)) (Ac rfl)))
end
section
variable {a b:Num} {z y:Int} {d e:Nat}
def Mo(neg:Bool)(n:Num):Num:=⟨neg&&decide (0<n.top.length),n.top,n.bot⟩
theorem FU(neg:Bool)(h:RNum a z d):Sp 304 [.bool neg,dN a] [dN (Mo neg a)]:=by
 obtain ⟨l1,l2⟩:=h.len
 have e1:lb (nv a.top)=a.top:=by rw[h.eq];show lb (nv (lb _))=lb _;rw[Bn]
 have e2:lb (nv a.bot)=a.bot:=by rw[h.eq];show lb (nv (lb _))=lb _;rw[Bn]
 have n1:=Gz a.top (by omega)
 have n2:=Gz a.bot (by omega)
 rw[e1]at n1
 rw[e2]at n2
 refine Af 0 (Ag_ _ _ _) (Aa n1 (Aa n2 ?_))
 simp only[Ag,Bx,Ali,Az]
 unfold Mo
 cases neg with
 | true =>
  refine Ax rfl (Ac ?_)
  rw[Bool.true_and,show decide ((0:Int)<(a.top.length:Int))=decide (0<a.top.length) by rw[decide_eq_decide];omega];rfl
 | false=>exact B_ rfl (Ac rfl)
theorem RNum.top0 (h:RNum a z d):a.top = []↔z=0:=by rw[h.eq];show lb z.natAbs = []↔_;rw[DK];omega
theorem RNum.sgn (h:RNum a z d):a.neg=decide (z<0):=by rw[h.eq];rfl
theorem AiY(h:RNum a z d):Mo (!a.neg) a=Ib a:=by
 unfold Mo Ib
 split
 · rename_i h0
   rw[h0]
   have hz:=h.top0.1 h0
   have hd:d=1:=by
    have:=h.cop
    rw[hz,Int.natAbs_zero,Nat.coprime_zero_left]at this
    exact this
   have hb:a.bot = [1]:=by rw[h.eq,hd];exact L0
   rw[hb];simp[Cm,Cs]
 · rename_i h0
   rw[decide_eq_true (List.length_pos_iff.2 h0),Bool.and_true]
theorem AiZ(h:RNum a z d):Mo a.neg a=a:=by
 unfold Mo
 have:(a.neg&&decide (0<a.top.length))=a.neg:=by
  by_cases h0:a.top = []
  · have:=h.top0.1 h0
    rw[h.sgn,this];simp
  · rw[decide_eq_true (List.length_pos_iff.2 h0),Bool.and_true]
 rw[this]
theorem W5(h:RNum a z d):Sp 258 [dN a] [dN (Ib a)]:=by
 refine Af 0 (Agz _ _) ?_
 simp only[Lk,Az]
 refine Aa (FU _ h) (Ac ?_)
 rw[AiY h];rfl
theorem Agj(h:RNum a z d):Sp 263 [dN a] [dN ⟨false,a.top,a.bot⟩]:=by
 refine Af 0 (Agk _ _) (Aa (FU _ h) (Ac ?_))
 simp[Mo]
theorem TD(ha:Gh a)(h:RNum b z d):Sp 278 [dN a,dN b] (C9 (IB a b)) :=
 Af 0 (Ag7 _ _ _) (Aa (W5 h) (Aa (SZ ha (EH h).sm) (Ac rfl)))
theorem CQ(h:RNum a z d):Br (Dy z (d:Int)).1≤32:=by
 have hd0:=h.d0
 obtain ⟨e1,_,e3,e4,_⟩:=AbG z (d:Int) (by omega)
 have hl:=h.lz
 have hz:=DP z
 have hz2:z.natAbs<B ^ 32:=Ame hz (Nat.pow_le_pow_right Bu hl)
 have e5:=e4 (by omega)
 refine Qj ?_
 generalize (Dy z (d:Int)).1=q at *
 generalize (Dy z (d:Int)).2=r at *
 have hB2:4≤B ^ 32:=by decide
 generalize B ^ 32=P at *
 have hr:r<(d:Int):=by omega
 rcases Nat.lt_or_ge 1 d with h1 | h1
 ·
   rcases Nat.lt_or_ge q.natAbs P with h2 | h2
   · exact h2
   · exfalso
     rcases Int.le_total 0 q with h3 | h3
     · have:q*2≤q*(d:Int):=Int.mul_le_mul_of_nonneg_left (by omega) h3
       omega
     · have:(-q)*2≤(-q)*(d:Int):=Int.mul_le_mul_of_nonneg_left (by omega) (by omega)
       have h4:(-q)*(d:Int) = -(q*(d:Int)):=Int.neg_mul _ _
       have h5:(-q-1)*2≤(-q-1)*(d:Int):=Int.mul_le_mul_of_nonneg_left (by omega) (by omega)
       have h6:(-q-1)*(d:Int) = -(q*(d:Int))-(d:Int):=by rw[Int.sub_mul,Int.neg_mul,Int.one_mul]
       omega
 · obtain rfl:d=1:=by omega
   have:q*((1:Nat):Int)=q:=by simp
   omega
theorem CR(h:RNum a z d):RNum (I0 a) (Dy z (d:Int)).1 1:=by
 have hf:I0 a=Cm (Dy z (d:Int)).1:=by unfold I0;rw[h.top,h.bot]
 exact ⟨by rw[hf,No],by decide,Nat.coprime_one_right _,CQ h,by rw[L0];decide⟩
theorem Acy(h:RNum a z d):Lb (Dy (Bm a) (Bi a)).1=I0 a:=by
 unfold Lb I0
 have:=CQ h
 rw[h.top,h.bot,if_neg (by unfold Br at this;omega)]
theorem AbE(h:RNum a z d):Br (Dy (Bm a) (Bi a)).1≤32:=by rw[h.top,h.bot];exact CQ h
theorem RNum.botnz (h:RNum a z d):Bi a≠0:=by rw[h.bot];have:=h.d0;omega
theorem FR(h:RNum a z d):Sp 262 [dN a] [dN (I0 a)]:=by
 obtain ⟨l1,l2⟩:=h.len
 have dm:=AkH ⟨a.neg,a.top⟩ ⟨false,a.bot⟩ (by show a.top.length≤_;omega) (by show a.bot.length≤_;omega) (Vi _ _ (by have:(lb (nv a.top)).length≤a.top.length:=Ay.2 (B6 _);show (lb (nv a.top)).length≤_;omega))
 rw[Jq,Ki]at dm
 unfold CC at dm
 rw[if_neg h.botnz]at dm
 have dl:=AbE h
 have wh:=W8 (wz (Dy (Bm a) (Bi a)).1) (by rw[Fc];omega)
 rw[Cw,Acy h]at wh
 exact Af 0 (Agq _ _) (Aa (E_ a) (Aa (Gc a) (Aa dm (Aa wh (Ac rfl)))))
theorem Agm(h:RNum a z d):Sp 261 [dN a] [dN (Ib (I0 (Ib a)))] :=
 Af 0 (Agn _ _) (Aa (W5 h) (Aa (FR (EH h)) (Aa (W5 (CR (EH h))) (Ac rfl))))
theorem LQ(ha:RNum a z d)(hb:RNum b y e)(hy:y≠0)(h:(Ln a b).2=0) : ∃ x c,RNum (Ln a b).1 x c:=by
 have hq:Bi a*Bm b≠0:=Int.mul_ne_zero ha.botnz (by rw[hb.top];exact hy)
 obtain ⟨x,c,h1,_⟩:=(PJ hq).1 h
 exact ⟨x,c,h1⟩
theorem Aea(ha:RNum a z d)(hb:RNum b y e)(h:(N7 a b).2=0) : ∃ x c,RNum (N7 a b).1 x c:=by
 have hq:Bi a*Bi b≠0:=Int.mul_ne_zero ha.botnz hb.botnz
 obtain ⟨x,c,h1,_⟩:=(PJ hq).1 h
 exact ⟨x,c,h1⟩
theorem HE{x:Int} : Fa x=0↔x=0:=by unfold Fa;by_cases h1:x<0 <;> by_cases h2:x=0 <;> simp[h1,h2]
theorem Agw(ha:RNum a z d)(hb:RNum b y e):Sp 280 [dN a,dN b] (C9 (EC a b)):=by
 refine Af 0 (Agx _ _ _) (Aa (W6 ha.sm) ?_)
 simp only[Ag,Ak,Cc,Lk,Az]
 unfold EC
 refine Ae (fun h=>Aa (FU _ hb) (Ac ?_)) (fun h=>Aa (W3 hb.sm ha.sm) ?_)
 · rw[if_pos (ha.top0.2 (by rw[← ha.top];exact HE.1 h)),AiZ hb];rfl
 have hz:z≠0:=fun hh=>h (by rw[ha.top,hh];rfl)
 rw[if_neg (fun hh=>hz (ha.top0.1 hh))]
 simp only[C9,Ag,Cl,Ak,Cu,H2]
 unfold M5
 refine Ae (fun h1=>Ac ?_) (fun h1=> ?_)
 · rw[if_neg h1]
 have h1':=Alt.1 h1
 rw[if_pos h1']
 obtain ⟨x,c,hr⟩:=LQ hb ha hz h1'
 refine Aa (FR hr) (Aa (FT ha.sm (CR hr).sm) ?_)
 simp only[C9,Ag,Cl,Ak,Cu]
 refine Ae (fun h2=>Ac ?_) (fun h2=> ?_)
 · rw[if_neg h2]
 have h2':=Alt.1 h2
 rw[if_pos h2']
 obtain ⟨x2,c2,hr2⟩:=Aea ha (CR hr) h2'
 exact Aa (TD hb.sm hr2) (Ac rfl)
end
def Lv:List (Nat×Orc):=[(6,⟨[(2,none),(3,none),(4,none),(5,none),(6,none),(22,none),(23,none)],[(2,true),(3,false),(4,false),(5,false)],[(.slot 6,1060,3)]⟩),(13,⟨[(2,none),(4,none),(5,none),(8,none),(37,none),(38,none),(39,none)],[(2,true),(4,false),(5,false)],[(.slot 8,1130,67),(.slot 37,1131,3)]⟩)]
def NA:List ResultVar:=[.cell 4 26,.cell 5 29]
noncomputable def Uw(n m13:Nat)(told8 t37:List D)(t38 t39:Int)(a2:D)(r4_0 e5:Int):Tree :=
 lA (eA Lv n 69 [1,1,1,1,1,1,1,0,1,0,0]) (Al Lv 13) m13 ⟨(.undef:: .undef:: .ptr 2 []:: .undef:: .ptr 4 []:: .ptr 5 []:: .undef:: .undef:: .row 1130::uA 28++(.row 1131:: .i .i64 t38:: .i .i64 t39::uA 16)),[(2,.var 26 (.d 26 a2) false),(4,.var 26 (.agg 26 [.i .u64 r4_0,.mt,.mt]) true),(5,.var 29 (.i .i64 e5) true),(1130,.row 67 told8 true),(1131,.row 3 t37 true)],[2,4,5,1130,1131],[(154,[.ptr 4 [],.ptr 5 []])],[]⟩
  (Ai 2 (An (jA Lv n 69 [1,1,1,1,1,1,1,1]) (rA 69 [26,4] NA [26,29])))
noncomputable def Ux(n m6:Nat)(places6:List D)(t22 t23:Int)(a2:D)(down3:Bool)(r4_0 e5:Int):Tree :=
 lA (eA Lv n 69 [1,1,1,1,0,1,0,0]) (Al Lv 6) m6 ⟨(.undef:: .undef:: .ptr 2 []:: .ptr 3 []:: .ptr 4 []:: .ptr 5 []:: .row 1060::uA 15++(.i .i64 t22:: .i .i64 t23::uA 32)),[(2,.var 26 (.d 26 a2) true),(3,.var 4 (.b down3) true),(4,.var 26 (.agg 26 [.i .u64 r4_0,.mt,.mt]) true),(5,.var 29 (.i .i64 e5) true),(1060,.row 3 places6 true)],[2,3,4,5,1060],[(154,[.ptr 4 [],.ptr 5 []])],[]⟩
  (Ai 0 (An (jA Lv n 69 [1,1,1,1,1]) (rA 69 [26,4] NA [26,29])))
theorem MY(n m13:Nat)(told8 t37:List D)(t38 t39:Int)(a2:D)(r4_0 e5:Int):Uw n (m13+1) told8 t37 t38 t39 a2 r4_0 e5 =
 bK (t39<t38) (kK (0≤t39) (kK (t39<(t37.length:Int)) (cK 138 [D.int (Ale .i64 (((t37.getD (Alf t39) D.nil).toInt)+1))] fun Y2 =>
 kK (0≤t39) (kK (t39<(told8.length:Int)) (Uw n m13 (told8.set (Alf t39) (qA Y2)) t37 t38 (Ale .i64 (t39+1)) a2 r4_0 e5)))))
 (cK 149 [D.sl told8] fun Y3 =>
 cK 84 [a2] fun Y4 =>
 cK 90 [qA Y3,D.int ((qA Y4).toInt)] fun Y5 =>
 .ret [qA Y5,D.int 0]):=by kernel_rfl
theorem MZ(n m6:Nat)(places6:List D)(t22 t23:Int)(a2:D)(down3:Bool)(r4_0 e5:Int):Ux n (m6+1) places6 t22 t23 a2 down3 r4_0 e5 =
 bK (t23<t22) (kK (0≤t23) (kK (t23<(places6.length:Int)) (Ux n m6 (places6.set (Alf t23) (D.int t23)) t22 (Ale .i64 (t23+1)) a2 down3 r4_0 e5)))
 (cK 155 [D.sl places6,D.fn 156 [.ref 4,.ref 26] [D.ref (D.bool down3),D.ref a2]] fun Y1 =>
 kK (0≤(((qA Y1).els).length:Int)) (kK ((((qA Y1).els).length:Int)≤(((qA Y1).els).length:Int)) (kK ((((qA Y1).els).length:Int)≤Aj) (Uw n n (Alh (Alf (((qA Y1).els).length:Int)) (D.agg [D.int 0,D.int 0,D.agg [D.bool false,D.sl [],D.sl []],D.int 0,D.sl []])) ((qA Y1).els) (((qA Y1).els).length:Int) 0 a2 r4_0 e5)))):=by kernel_rfl
theorem Ac7(n:Nat)(a0 down1:D):fA Lv n 69 [] [a0,down1] =
 .br ((((a0.fld 1).els).length:Int)!=1) (.ret [D.agg [D.int 0,D.sl [],D.sl []],D.int 5])
 (kK (0≤(((a0.fld 2).els).length:Int)) (kK ((((a0.fld 2).els).length:Int)≤(((a0.fld 2).els).length:Int)) (kK ((((a0.fld 2).els).length:Int)≤Aj) (Ux n n (Alh (Alf (((a0.fld 2).els).length:Int)) (D.int 0)) ((Alh (Alf (((a0.fld 2).els).length:Int)) (D.int 0)).length:Int) 0 a0 down1.toBool 0 0)))):=by kernel_rfl
theorem Ac6(n:Nat)(i0 j1:D)(c2 c3:D):fA [] n 156 [.ref 4,.ref 26] [i0,j1,c2,c3] =
 .br c2.unref.toBool (kK (0≤j1.toInt) (kK (j1.toInt<(((c3.unref.fld 2).els).length:Int)) (kK (0≤i0.toInt) (kK (i0.toInt<(((c3.unref.fld 2).els).length:Int)) (cK 157 [((c3.unref.fld 2).els).getD (Alf j1.toInt) D.nil,((c3.unref.fld 2).els).getD (Alf i0.toInt) D.nil] fun Y1 =>
 .ret [D.int ((qA Y1).toInt)])))))
 (kK (0≤i0.toInt) (kK (i0.toInt<(((c3.unref.fld 2).els).length:Int)) (kK (0≤j1.toInt) (kK (j1.toInt<(((c3.unref.fld 2).els).length:Int)) (cK 157 [((c3.unref.fld 2).els).getD (Alf i0.toInt) D.nil,((c3.unref.fld 2).els).getD (Alf j1.toInt) D.nil] fun Y2 =>
 .ret [D.int ((qA Y2).toInt)]))))):=by kernel_rfl
theorem Ac9(n:Nat)(x0 y1:D):fA [] n 157 [] [x0,y1] =
 .br (((x0.fld 1).toInt)!=((y1.fld 1).toInt)) (cK 218 [D.int ((x0.fld 1).toInt),D.int ((y1.fld 1).toInt)] fun Y1 =>
 .ret [D.int ((qA Y1).toInt)])
 (.br (((x0.fld 1).toInt)==0) (cK 219 [x0.fld 2,y1.fld 2] fun Y2 =>
 .ret [D.int ((qA Y2).toInt)])
 (.br (((x0.fld 1).toInt)==1) (cK 218 [D.int ((x0.fld 3).toInt),D.int ((y1.fld 3).toInt)] fun Y3 =>
 .ret [D.int ((qA Y3).toInt)])
 (kK (0≤0) (kK (0<(((x0.fld 4).els).length:Int)) (kK (0≤0) (kK (0<(((y1.fld 4).els).length:Int)) (cK 220 [((x0.fld 4).els).getD (Alf 0) D.nil,((y1.fld 4).els).getD (Alf 0) D.nil] fun Y4 =>
 .ret [D.int ((qA Y4).toInt)]))))))):=by kernel_rfl
def Uz:List (Nat×Orc):=[(8,⟨[(2,none),(3,none),(29,none),(30,none)],[(2,true),(3,true)],[]⟩)]
noncomputable def Uy(n m8:Nat)(t29 t30:Int)(a2 b3:D):Tree :=
 lA (eA Uz n 220 [1,1,1,0,1,0,0]) (Al Uz 8) m8 ⟨(.undef:: .undef:: .ptr 2 []:: .ptr 3 []::uA 25++(.i .i64 t29:: .i .i64 t30::uA 17)),[(2,.var 26 (.d 26 a2) true),(3,.var 26 (.d 26 b3) true)],[2,3],[],[]⟩
  (Ai 0 (An (jA Uz n 220 [1,1,1,1]) (rA 220 [26,26] [.tmp 4] [3])))
theorem NC(n m8:Nat)(t29 t30:Int)(a2 b3:D):Uy n (m8+1) t29 t30 a2 b3 =
 bK (t30<t29) (kK (0≤t30) (kK (t30<(((a2.fld 2).els).length:Int)) (kK (0≤t30) (kK (t30<(((b3.fld 2).els).length:Int)) (cK 157 [((a2.fld 2).els).getD (Alf t30) D.nil,((b3.fld 2).els).getD (Alf t30) D.nil] fun Y3 =>
 .br (((qA Y3).toInt)!=0) (.ret [D.int ((qA Y3).toInt)])
 (Uy n m8 t29 (Ale .i64 (t30+1)) a2 b3))))))
 (.ret [D.int 0]):=by kernel_rfl
theorem Ac8(n:Nat)(a0 b1:D):fA Uz n 220 [] [a0,b1] =
 cK 218 [D.int (((a0.fld 1).els).length:Int),D.int (((b1.fld 1).els).length:Int)] fun Y1 =>
 .br (((qA Y1).toInt)!=0) (.ret [D.int ((qA Y1).toInt)])
 (cK 256 [a0.fld 1,b1.fld 1] fun Y2 =>
 .br (((qA Y2).toInt)!=0) (.ret [D.int ((qA Y2).toInt)])
 (Uy n n (((a0.fld 2).els).length:Int) 0 a0 b1)):=by kernel_rfl
theorem Abi(n:Nat)(x0 y1:D):fA [] n 218 [] [x0,y1] =
 cK 252 [D.int x0.toInt] fun Y1 =>
 cK 252 [D.int y1.toInt] fun Y2 =>
 .br ((qA Y1).toBool) (.br ((qA Y2).toBool) (.ret [D.int 0])
 (.ret [D.int (-1)]))
 (.br ((qA Y2).toBool) (.ret [D.int 1])
 (bK (x0.toInt<y1.toInt) (.ret [D.int (-1)])
 (bK (y1.toInt<x0.toInt) (.ret [D.int 1])
 (.ret [D.int 0])))):=by kernel_rfl
theorem Abj(n:Nat)(x0:D):fA [] n 252 [] [x0] =
 .ret [D.bool (x0.toInt != x0.toInt)]:=by kernel_rfl
structure Row {α:Type} (S:α→Prop) (f:α→α→Int):Prop where
 val : ∀ x y,S x→S y→f x y = -1∨f x y=0∨f x y=1
 flip : ∀ x y,S x→S y→f y x = - f x y
 go : ∀ x y z,S x→S y→S z→f x y≤0→f y z≤0→f x z≤0
section
variable {α:Type} {S:α→Prop} {f g:α→α→Int}
theorem Row.self (h:Row S f) {x:α} (hx:S x):f x x=0:=by have:=h.flip x x hx hx;omega
theorem Row.two (h:Row S f) {x y z:α} (hx:S x) (hy:S y) (hz:S z) (h1:f x y≤0) (h2:f y z≤0) (h3:f x z=0):f x y=0∧f y z=0:=by
 have a1:=h.flip x z hx hz
 have a2:=h.flip x y hx hy
 have a3:=h.flip y z hy hz
 have b1:=h.go y z x hy hz hx h2 (by omega)
 have b2:=h.go z x y hz hx hy (by omega) h1
 omega
theorem Row.mono {T:α→Prop} (h:Row S f) (hs : ∀ x,T x→S x):Row T f:=⟨fun x y hx hy=>h.val x y (hs x hx) (hs y hy),fun x y hx hy=>h.flip x y (hs x hx) (hs y hy),fun x y z hx hy hz=>h.go x y z (hs x hx) (hs y hy) (hs z hz)⟩
theorem Row.congr (h:Row S f) (e : ∀ x y,S x→S y→g x y=f x y):Row S g:=⟨fun x y hx hy=>by rw[e x y hx hy];exact h.val x y hx hy,fun x y hx hy=>by rw[e x y hx hy,e y x hy hx];exact h.flip x y hx hy,fun x y z hx hy hz=>by rw[e x y hx hy,e y z hy hz,e x z hx hz];exact h.go x y z hx hy hz⟩
theorem Row.lex (hf:Row S f) (hg : ∀ x,S x→Row (fun y=>S y∧f x y=0) g):Row S (fun x y=>if f x y≠0 then f x y else g x y) where
 val x y hx hy:=by
  split
  · exact hf.val x y hx hy
  · rename_i h;exact (hg x hx).val x y ⟨hx,hf.self hx⟩ ⟨hy,Alt.1 h⟩
 flip x y hx hy:=by
  have a:=hf.flip x y hx hy
  by_cases h:f x y=0
  · rw[if_neg (by omega),if_neg (by omega)]
    exact (hg x hx).flip x y ⟨hx,hf.self hx⟩ ⟨hy,h⟩
  · rw[if_pos (by omega),if_pos (by omega)];exact a
 go x y z hx hy hz h1 h2:=by
  have p1:f x y≤0:=by
    by_cases h:f x y=0
    · omega
    · rw[if_pos h]at h1;exact h1
  have p2:f y z≤0:=by
    by_cases h:f y z=0
    · omega
    · rw[if_pos h]at h2;exact h2
  have p3:=hf.go x y z hx hy hz p1 p2
  by_cases h:f x z=0
  · obtain ⟨q1,q2⟩:=hf.two hx hy hz p1 p2 h
    rw[if_neg (by omega)]at h1 h2 ⊢
    exact (hg x hx).go x y z ⟨hx,hf.self hx⟩ ⟨hy,q1⟩ ⟨hz,h⟩ h1 h2
  · rw[if_pos h];exact p3
def Dg(f:α→α→Int):List (α×α)→Int
 | []=>0
 | (x,y)::r=>if f x y≠0 then f x y else Dg f r
theorem OP(h:Row S f) : ∀ (l m:List α),(∀ x∈l,S x)→(∀ x∈m,S x)→Dg f (l.zip m) = -1∨Dg f (l.zip m)=0∨Dg f (l.zip m)=1
 | [],_,_,_=> .inr (.inl rfl)
 | _::_,[],_,_=> .inr (.inl rfl)
 | x::xs,y::ys,hl,hm=>by
  simp only[List.zip_cons_cons,Dg]
  split
  · exact h.val x y (hl x (by simp)) (hm y (by simp))
  · exact OP h xs ys (fun z hz=>hl z (by simp[hz])) (fun z hz=>hm z (by simp[hz]))
theorem ON(h:Row S f) : ∀ (l m:List α),(∀ x∈l,S x)→(∀ x∈m,S x)→Dg f (m.zip l) = - Dg f (l.zip m)
 | [],[],_,_=>rfl
 | [],_::_,_,_=>rfl
 | _::_,[],_,_=>rfl
 | x::xs,y::ys,hl,hm=>by
  have a:=h.flip x y (hl x (by simp)) (hm y (by simp))
  have b:=ON h xs ys (fun z hz=>hl z (by simp[hz])) (fun z hz=>hm z (by simp[hz]))
  simp only[List.zip_cons_cons,Dg]
  by_cases hh:f x y=0
  · rw[if_neg (by omega),if_neg (by omega)];exact b
  · rw[if_pos (by omega),if_pos (by omega)];exact a
theorem OO(h:Row S f) : ∀ (l m k:List α),l.length=m.length→m.length=k.length→(∀ x∈l,S x)→(∀ x∈m,S x)→(∀ x∈k,S x)→Dg f (l.zip m)≤0→Dg f (m.zip k)≤0→Dg f (l.zip k)≤0
 | [],_,_,_,_,_,_,_,_,_=>by simp[Dg]
 | x::xs,[],_,e,_,_,_,_,_,_=>by simp at e
 | x::xs,y::ys,[],_,e,_,_,_,_,_=>by simp at e
 | x::xs,y::ys,z::zs,e1,e2,hl,hm,hk,h1,h2=>by
  simp only[List.zip_cons_cons,Dg]at h1 h2 ⊢
  have hx:=hl x (by simp)
  have hy:=hm y (by simp)
  have hz:=hk z (by simp)
  have p1:f x y≤0:=by
    by_cases h:f x y=0
    · omega
    · rw[if_pos h]at h1;exact h1
  have p2:f y z≤0:=by
    by_cases h:f y z=0
    · omega
    · rw[if_pos h]at h2;exact h2
  have p3:=h.go x y z hx hy hz p1 p2
  by_cases hh:f x z=0
  · obtain ⟨q1,q2⟩:=h.two hx hy hz p1 p2 hh
    rw[if_neg (by omega)]at h1 h2 ⊢
    exact OO h xs ys zs (by simpa using e1) (by simpa using e2) (fun z hz=>hl z (by simp[hz])) (fun z hz=>hm z (by simp[hz])) (fun z hz=>hk z (by simp[hz])) h1 h2
  · rw[if_pos hh];exact p3
theorem Row.list (h:Row S f) (n:Nat):Row (fun l:List α=>l.length=n∧∀ x∈l,S x) (fun l m=>Dg f (l.zip m)) :=
 ⟨fun l m hl hm=>OP h l m hl.2 hm.2,fun l m hl hm=>ON h l m hl.2 hm.2,fun l m k hl hm hk=>OO h l m k (hl.1.trans hm.1.symm) (hm.1.trans hk.1.symm) hl.2 hm.2 hk.2⟩
theorem OQ{β:Type}{r:α→β}(h0 : ∀ x y,S x→S y→(f x y=0↔r x=r y)) : ∀ (l m:List α),l.length=m.length→(∀ x∈l,S x)→(∀ x∈m,S x)→(Dg f (l.zip m)=0↔l.map r=m.map r)
 | [],[],_,_,_=>by simp[Dg]
 | [],_::_,e,_,_=>by simp at e
 | _::_,[],e,_,_=>by simp at e
 | x::xs,y::ys,e,hl,hm=>by
  have a:=h0 x y (hl x (by simp)) (hm y (by simp))
  have b:=OQ h0 xs ys (by simpa using e) (fun z hz=>hl z (by simp[hz])) (fun z hz=>hm z (by simp[hz]))
  simp only[List.zip_cons_cons,Dg,Aml,List.cons.injEq]
  by_cases hh:f x y=0
  · rw[if_neg (by omega),b]
    exact ⟨fun h=>⟨a.1 hh,h⟩,fun h=>h.2⟩
  · rw[if_pos hh]
    exact ⟨fun h=>absurd h hh,fun h=>absurd (a.2 h.1) hh⟩
end
theorem Gk(x y:Int):(Cg x y = -1∧x<y)∨(Cg x y=0∧x=y)∨(Cg x y=1∧y<x):=by
 unfold Cg
 split
 · exact .inl ⟨rfl,by assumption⟩
 · split
   · exact .inr (.inl ⟨rfl,by assumption⟩)
   · exact .inr (.inr ⟨rfl,by omega⟩)
theorem E0{x y:Int} : Cg x y=0↔x=y:=by rcases Gk x y with ⟨h,h'⟩ | ⟨h,h'⟩ | ⟨h,h'⟩ <;> omega
theorem Yg{α:Type}{S:α→Prop}(k:α→Int):Row S (fun x y=>Cg (k x) (k y)) :=
 ⟨fun x y _ _=>by rcases Gk (k x) (k y) with h | h | h <;> simp[h.1],
  fun x y _ _=>by rcases Gk (k x) (k y) with h | h | h <;> rcases Gk (k y) (k x) with h' | h' | h' <;> omega,
  fun x y z _ _ _ h1 h2=>by rcases Gk (k x) (k y) with h | h | h <;> rcases Gk (k y) (k z) with h' | h' | h' <;> rcases Gk (k x) (k z) with h'' | h'' | h'' <;> omega⟩
def BH(r:Arr→Arr→Int)(x y:Cell):Int:=if Cg x.kind y.kind≠0 then Cg x.kind y.kind else if x.kind=0 then Gj x.n y.n else if x.kind=1 then Cg x.c y.c else r (x.inn.headD .none) (y.inn.headD .none)
def Jg(a b:Arr):Int:=if Cg a.shape.length b.shape.length≠0 then Cg a.shape.length b.shape.length else Dg Cg (a.shape.zip b.shape)
def Iu:Nat→Arr→Arr→Int
 | 0,_,_=>0
 | d+1,a,b=>if Jg a b≠0 then Jg a b else Dg (BH (Iu d)) (a.cells.zip b.cells)
def H1(d:Nat):Cell→Cell→Int:=BH (Iu d)
theorem Abh(d:Nat)(a b:Arr):Iu (d+1) a b=if Jg a b≠0 then Jg a b else Dg (H1 d) (a.cells.zip b.cells):=rfl
theorem Rm{d:Nat}{c:Cell}(h:B7 d c=true):(c.kind=0∧c.c=0∧c.inn = []∧Ej c.n=true)∨(c.kind=1∧c.n = .zero∧c.inn = [])∨(c.kind=2∧c.n = .zero∧c.c=0∧∃ e x,d=e+1∧c.inn = [x]∧Ba e x=true):=by
 have hinn:=Rn h
 have key : ∀ k r,D0 k r c=true→(c.kind=0∧c.c=0∧c.inn = []∧Ej c.n=true)∨(c.kind=1∧c.n = .zero∧c.inn = [])∨(c.kind=2∧c.n = .zero∧c.c=0∧∃ x,c.inn = [x]):=by
   intro k r h
   unfold D0 at h
   split at h
   · simp only[Alp,decide_eq_true_eq]at h
     exact .inl ⟨by assumption,h.1.1,Al7.1 h.1.2,h.2⟩
   split at h
   · simp only[Alp,decide_eq_true_eq]at h
     exact .inr (.inl ⟨by assumption,h.1.1,Al7.1 h.1.2⟩)
   · simp only[Alp,decide_eq_true_eq]at h
     have hb:=h.2.2
     unfold Kl at hb
     split at hb
     · rename_i hi;exact .inr (.inr ⟨h.1.1,h.1.2.1,h.1.2.2,_,hi⟩)
     · cases hb
 have h2:(c.kind=0∧c.c=0∧c.inn = []∧Ej c.n=true)∨(c.kind=1∧c.n = .zero∧c.inn = [])∨(c.kind=2∧c.n = .zero∧c.c=0∧∃ x,c.inn = [x]):=by
   cases d with
   | zero=>exact key _ _ h
   | succ d=>exact key _ _ h
 rcases h2 with h2 | h2 | ⟨h1,h2,h3,x,h4⟩
 · exact .inl h2
 · exact .inr (.inl h2)
 · obtain ⟨e,he,_,hr,_⟩:=hinn x (by rw[h4];simp)
   exact .inr (.inr ⟨h1,h2,h3,e,x,he,h4,hr⟩)
theorem Aip:Row (fun x:Cell=>Ej x.n=true) (fun x y=>Gj x.n y.n):=by
 refine ⟨fun x y _ _=> ?_,fun x y _ _=> ?_,fun x y z hx hy hz=> ?_⟩
 · have:=Gk (Bm x.n*Bi y.n) (Bm y.n*Bi x.n);unfold Gj;omega
 · have:=Gk (Bm x.n*Bi y.n) (Bm y.n*Bi x.n)
   have:=Gk (Bm y.n*Bi x.n) (Bm x.n*Bi y.n);unfold Gj;omega
 · obtain ⟨a,p,ra⟩:=Ot hx
   obtain ⟨b,q,rb⟩:=Ot hy
   obtain ⟨c,r,rc⟩:=Ot hz
   unfold Gj
   rw[ra.top,ra.bot,rb.top,rb.bot,rc.top,rc.bot]
   have p0:(0:Int)<p:=by have:=ra.d0;omega
   have q0:(0:Int)<q:=by have:=rb.d0;omega
   have r0:(0:Int)<r:=by have:=rc.d0;omega
   intro h1 h2
   have g1:a*q≤b*p:=by rcases Gk (a*q) (b*p) with h | h | h <;> omega
   have g2:b*r≤c*q:=by rcases Gk (b*r) (c*q) with h | h | h <;> omega
   have g3:a*r≤c*p:=by
    have e1:a*q*r≤b*p*r:=Int.mul_le_mul_of_nonneg_right g1 (by omega)
    have e2:b*r*p≤c*q*p:=Int.mul_le_mul_of_nonneg_right g2 (by omega)
    have e3:(a*r)*q≤(c*p)*q:=by
     have i1:a*q*r=a*r*q:=by rw[Int.mul_assoc,Int.mul_comm (q:Int) r,← Int.mul_assoc]
     have i2:b*p*r=b*r*p:=by rw[Int.mul_assoc,Int.mul_comm (p:Int) r,← Int.mul_assoc]
     have i3:c*q*p=c*p*q:=by rw[Int.mul_assoc,Int.mul_comm (q:Int) p,← Int.mul_assoc]
     omega
    exact Int.le_of_mul_le_mul_right e3 q0
   rcases Gk (a*r) (c*p) with h | h | h <;> omega
theorem Air:Row (fun _:Arr=>True) Jg:=by
 refine Row.lex (f:=fun a b:Arr=>Cg a.shape.length b.shape.length) (Yg fun a:Arr=>(a.shape.length:Int)) (fun a _=> ?_)
 have h:Row (fun _:Int=>True) Cg:=Yg (fun x:Int=>x)
 have:=h.list a.shape.length
 exact ⟨fun x y hx hy=>this.val x.shape y.shape ⟨by have:=E0.1 hx.2;omega,fun _ _=>trivial⟩ ⟨by have:=E0.1 hy.2;omega,fun _ _=>trivial⟩,
  fun x y hx hy=>this.flip x.shape y.shape ⟨by have:=E0.1 hx.2;omega,fun _ _=>trivial⟩ ⟨by have:=E0.1 hy.2;omega,fun _ _=>trivial⟩,
  fun x y z hx hy hz=>this.go x.shape y.shape z.shape ⟨by have:=E0.1 hx.2;omega,fun _ _=>trivial⟩ ⟨by have:=E0.1 hy.2;omega,fun _ _=>trivial⟩ ⟨by have:=E0.1 hz.2;omega,fun _ _=>trivial⟩⟩
theorem XB{a b:Arr} : Jg a b=0↔a.shape=b.shape:=by
 unfold Jg
 by_cases h:a.shape.length=b.shape.length
 · rw[if_neg (by rw[Ne,E0];omega)]
   have:=OQ (S:=fun _:Int=>True) (f:=Cg) (r:=fun x=>x) (fun x y _ _=>E0) a.shape b.shape h (fun _ _=>trivial) (fun _ _=>trivial)
   rw[this];simp
 · rw[if_pos (by rw[Ne,E0];omega)]
   constructor
   · intro h';have:=E0.1 h';omega
   · intro h';rw[h']at h;exact absurd rfl h
theorem VV{d:Nat}{a b:Arr}(ha:Ba d a=true)(hb:Ba d b=true)(h:a.shape=b.shape):a.cells.length=b.cells.length:=by
 have h1:=(Dv ha).1
 have h2:=(Dv hb).1
 rw[h,h2]at h1
 have:=(Prod.mk.inj h1).1
 omega
theorem WA{d:Nat}(h:Row (fun x=>B7 d x=true) (H1 d)):Row (fun a=>Ba d a=true) (Iu (d+1)):=by
 refine Row.lex (Air.mono fun _ _=>trivial) (fun a ha=> ?_)
 have:=h.list a.cells.length
 have ok : ∀ x,Ba d x=true∧Jg a x=0→x.cells.length=a.cells.length∧∀ c∈x.cells,B7 d c=true:=fun x hx=>⟨(VV ha hx.1 (XB.1 hx.2)).symm,(Dv hx.1).2⟩
 exact ⟨fun x y hx hy=>this.val _ _ (ok x hx) (ok y hy),fun x y hx hy=>this.flip _ _ (ok x hx) (ok y hy),fun x y z hx hy hz=>this.go _ _ _ (ok x hx) (ok y hy) (ok z hz)⟩
theorem VZ{d:Nat}(h : ∀ e,d=e+1→Row (fun a=>Ba e a=true) (Iu d)):Row (fun x=>B7 d x=true) (H1 d):=by
 refine Row.lex (f:=fun x y:Cell=>Cg x.kind y.kind) (Yg fun x:Cell=>x.kind) (fun x hx=> ?_)
 rcases Rm hx with h0 | h0 | ⟨h0,h1,h2,e,x',he,h3,h4⟩
 · have ok : ∀ y:Cell,B7 d y=true∧Cg x.kind y.kind=0→Ej y.n=true∧y.kind=0:=fun y hy=>by
    have:=E0.1 hy.2
    rcases Rm hy.1 with g | g | g
    · exact ⟨g.2.2.2,g.1⟩
    · omega
    · omega
   exact (Aip.mono (fun y hy=>(ok y hy).1)).congr (fun y z hy hz=>by rw[if_pos (ok y hy).2])
 · have ok : ∀ y:Cell,B7 d y=true∧Cg x.kind y.kind=0→y.kind=1:=fun y hy=>by have:=E0.1 hy.2;omega
   exact (Yg (fun y:Cell=>y.c)).congr (fun y z hy hz=>by rw[if_neg (by have:=ok y hy;omega),if_pos (ok y hy)])
 · subst he
   have ok : ∀ y:Cell,B7 (e+1) y=true∧Cg x.kind y.kind=0→y.kind=2∧Ba e (y.inn.headD .none)=true:=fun y hy=>by
    have:=E0.1 hy.2
    rcases Rm hy.1 with g | g | ⟨g0,_,_,e',y',he',h5,h6⟩
    · omega
    · omega
    · have:e'=e:=by omega
      subst this
      exact ⟨g0,by rw[h5];exact h6⟩
   have hr:=h e rfl
   have:Row (fun y:Cell=>B7 (e+1) y=true∧Cg x.kind y.kind=0) (fun y z=>Iu (e+1) (y.inn.headD .none) (z.inn.headD .none)):=⟨fun y z hy hz=>hr.val _ _ (ok y hy).2 (ok z hz).2,fun y z hy hz=>hr.flip _ _ (ok y hy).2 (ok z hz).2,fun y z w hy hz hw=>hr.go _ _ _ (ok y hy).2 (ok z hz).2 (ok w hw).2⟩
   exact this.congr (fun y z hy hz=>by rw[if_neg (by have:=(ok y hy).1;omega),if_neg (by have:=(ok y hy).1;omega)])
theorem VY : ∀ d:Nat,Row (fun x=>B7 d x=true) (H1 d)∧Row (fun a=>Ba d a=true) (Iu (d+1))
 | 0=>by
  have h:=VZ (d:=0) (fun e he=>by omega)
  exact ⟨h,WA h⟩
 | d+1=>by
  have h:=VZ (d:=d+1) (fun e he=>by cases he;exact (VY d).2)
  exact ⟨h,WA h⟩
theorem NT(x:Int):Sp 252 [.int x] [.bool false]:=Af 0 (Abj _ _) (Ac (by simp))
theorem S9(x y:Int):Sp 218 [.int x,.int y] [.int (Cg x y)]:=by
 refine Af 0 (Abi _ _ _) (Aa (NT x) (Aa (NT y) (B_ rfl (B_ rfl ?_))))
 simp only[Ak]
 refine Ae (fun h=>Ac (by unfold Cg;rw[if_pos h])) (fun h=>Ae (fun h'=>Ac (by unfold Cg;rw[if_neg h,if_neg (by omega)])) (fun h'=>Ac (by unfold Cg;rw[if_neg h,if_pos (by omega)])))
theorem Aac{α β:Type}{l:List α}{m:List β}{k:Nat}{x:α}{y:β}(h:(l.zip m)[k]? = some (x,y)):l[k]? = some x∧m[k]? = some y:=by
 rw[List.getElem?_zip_eq_some]at h;exact h
theorem OU{α:Type}{l:List α}{k:Nat}{x:α}(h:l[k]? = some x):k<l.length:=(Alj.1 h).1
theorem Ajg(l m:List Int)(hl:l.length≤1048576)(e:l.length=m.length):Sp 256 [dI l,dI m] [.int (Dg Cg (l.zip m))]:=by
 refine Af 1048577 (Ajf _ _ _) ?_
 have hz:(l.zip m).length=l.length:=by simp[List.length_zip,e]
 have key:=B1 (l.zip m) (fun q k (_:Unit)=>Yy 1048577 q (dI l) (dI m) (dI l) (l.length:Int) (k:Int)) (fun rest _=>[.int (Dg Cg rest)]) (fun _ _=>True)
  (fun q k s hk _=>by
   simp only[XL,B0,Ali]
   exact Aq (Aq (Ac rfl)))
  (fun q k s p rest hd _ ih=>by
   obtain ⟨h1,h2,h3⟩:=Bv hd
   obtain ⟨x,y⟩:=p
   obtain ⟨g1,g2⟩:=Aac h2
   have l1:=OU g1
   simp only[XL,B0,Ali,Aln,Ar g1,Ar g2,Ak,Bb k]
   refine Ad (Ad (Ad (Aq (Ad (Ad (Aa (S9 x y) ?_))))))
   simp only[Ag,Ak,Cu,Dg]
   exact Ae (fun h=>Ac (by rw[if_pos h])) (fun h=>by rw[if_neg h];exact ih () trivial))
  1048577 0 () (by omega) (by omega) trivial
 simp only[B0,Ali]
 exact key
theorem YC{n:Num}(h:Ej n=true):Gh n:=⟨by have:=(Yf h).1;omega,by have:=(Yf h).2;omega⟩
theorem JZ{d:Nat}(h : ∀ x y:Cell,B7 d x=true→B7 d y=true→Sp 157 [dC x,dC y] [.int (H1 d x y)])(a b:Arr)(ha:Ba d a=true)(hb:Ba d b=true):Sp 220 [dA a,dA b] [.int (Iu (d+1) a b)]:=by
 have la:=Ev ha
 have lb:=Ev hb
 refine Af 1048577 (Ac8 _ _ _) ?_
 simp only[Ah]
 refine Aa (S9 _ _) ?_
 rw[Abh]
 unfold Jg
 simp only[Ag,Ak,Cu]
 refine Ae (fun h=>Ac (by simp only[if_pos h])) (fun h1=> ?_)
 simp only[if_neg h1]
 have hl:a.shape.length=b.shape.length:=by have:=E0.1 (Alt.1 h1);omega
 refine Aa (Ajg a.shape b.shape (by omega) hl) ?_
 simp only[Ag,Ak]
 refine Ae (fun h=>Ac (by simp only[if_pos h])) (fun h2=> ?_)
 simp only[if_neg h2]
 have hs:a.shape=b.shape:=XB.1 (by unfold Jg;rw[if_neg h1];exact Alt.1 h2)
 have hc:=VV ha hb hs
 have hz:(a.cells.zip b.cells).length=a.cells.length:=by simp[List.length_zip,hc]
 have key:=B1 (a.cells.zip b.cells) (fun q k (_:Unit)=>Uy 1048577 q (a.cells.length:Int) (k:Int) (dA a) (dA b)) (fun rest _=>[.int (Dg (H1 d) rest)]) (fun _ _=>True)
  (fun q k s hk _=>by
   simp only[NC,Ah]
   exact Aq (Ac rfl))
  (fun q k s p rest hd _ ih=>by
   obtain ⟨_,k2,k3⟩:=Bv hd
   obtain ⟨x,y⟩:=p
   obtain ⟨g1,g2⟩:=Aac k2
   have l1:=OU g1
   simp only[NC,Ah,Ar g1,Ar g2,Bb k]
   refine Ad (Ad (Ad (Ad (Ad (Aa (h x y ((Dv ha).2 x (Alm g1)) ((Dv hb).2 y (Alm g2))) ?_)))))
   simp only[Ag,Ak,Dg]
   exact Ae (fun h=>Ac (by rw[if_pos h])) (fun h=>by rw[if_neg h];exact ih () trivial))
  1048577 0 () (by omega) (by omega) trivial
 exact key
theorem MW{d:Nat}(h : ∀ e,d=e+1→∀ a b:Arr,Ba e a=true→Ba e b=true→Sp 220 [dA a,dA b] [.int (Iu d a b)])(x y:Cell)(hx:B7 d x=true)(hy:B7 d y=true):Sp 157 [dC x,dC y] [.int (H1 d x y)]:=by
 refine Af 0 (Ac9 _ _ _) ?_
 unfold H1 BH
 simp only[Ah]
 refine Ae (fun hk=>Aa (S9 _ _) (Ac (by rw[if_pos (by rw[Ne,E0];exact hk)];rfl))) (fun hk=> ?_)
 have hk:=Alt.1 hk
 rw[if_neg (by rw[Ne,E0];omega)]
 rcases Rm hx with h0 | h0 | ⟨h0,h1,h2,e,x',he,h3,h4⟩ <;> rcases Rm hy with g0 | g0 | ⟨g0,g1,g2,e',y',he',g3,g4⟩
 · exact Av h0.1 (Aa (W2 (YC h0.2.2.2) (YC g0.2.2.2)) (Ac (by rw[if_pos h0.1];rfl)))
 · omega
 · omega
 · omega
 · exact Aq (Av h0.1 (Aa (S9 _ _) (Ac (by rw[if_neg (by omega),if_pos h0.1];rfl))))
 · omega
 · omega
 · omega
 · subst he
   have:e'=e:=by omega
   subst this
   simp only[BV,h3,g3,Dp,Aml,List.map_nil,All,Alz,Int.toNat_zero,Ag]
   exact Aq (Aq (Ad (Ad (Ad (Ad (Aa (h _ rfl x' y' h4 g4) (Ac (by rw[if_neg (by omega),if_neg (by omega)];rfl))))))))
theorem CW : ∀ d:Nat,(∀ x y:Cell,B7 d x=true→B7 d y=true→Sp 157 [dC x,dC y] [.int (H1 d x y)])∧∀ a b:Arr,Ba d a=true→Ba d b=true→Sp 220 [dA a,dA b] [.int (Iu (d+1) a b)]
 | 0=>by
  have h:=MW (d:=0) (fun e he=>by omega)
  exact ⟨h,JZ h⟩
 | d+1=>by
  have h:=MW (d:=d+1) (fun e he=>by cases he;exact (CW d).2)
  exact ⟨h,JZ h⟩
def Bs(k:Nat→Nat→Int)(i j:Nat):Prop:=k i j<0∨(k i j=0∧i≤j)
instance (k:Nat→Nat→Int) (i j:Nat):Decidable (Bs k i j):=by unfold Bs;infer_instance
abbrev Sm(f:Nat→Nat→Int):Prop:=Row (fun _:Nat=>True) f
section
variable {k:Nat→Nat→Int} (hk:Sm k)
include hk
theorem Adn(i j:Nat):Bs k i j∨Bs k j i:=by
 have:=hk.flip i j trivial trivial
 unfold Bs;omega
theorem Adm{i j:Nat}(h1:Bs k i j)(h2:Bs k j i):i=j:=by
 have:=hk.flip i j trivial trivial
 unfold Bs at h1 h2;omega
theorem Nx{i j m:Nat}(h1:Bs k i j)(h2:Bs k j m):Bs k i m:=by
 have g1:k i j≤0:=by unfold Bs at h1;omega
 have g2:k j m≤0:=by unfold Bs at h2;omega
 have g3:=hk.go i j m trivial trivial trivial g1 g2
 by_cases h:k i m=0
 · obtain ⟨q1,q2⟩:=hk.two (x:=i) (y:=j) (z:=m) trivial trivial trivial g1 g2 h
   unfold Bs at h1 h2 ⊢; omega
 · unfold Bs;omega
theorem Kr{i j:Nat}(h:i<j):(k j i<0)↔¬ Bs k i j:=by
 have:=hk.flip i j trivial trivial
 unfold Bs;omega
omit hk in
theorem L5(hk:Sm k){i j:Nat}(h : ¬ Bs k i j):Bs k j i:=(Adn hk i j).resolve_left h
end
def Lx(k:Nat→Nat→Int)(x:Nat):List Nat→List Nat
 | []=>[x]
 | y::ys=>if Bs k x y then x::y::ys else y::Lx k x ys
def Bg(k:Nat→Nat→Int):List Nat→List Nat
 | []=>[]
 | x::xs=>Lx k x (Bg k xs)
theorem DE(k:Nat→Nat→Int)(x:Nat) : ∀ l,(Lx k x l).Perm (x::l)
 | []=>List.Perm.refl _
 | y::ys=>by
  rw[Lx]
  split
  · exact List.Perm.refl _
  · exact ((DE k x ys).cons y).trans (List.Perm.swap x y ys)
theorem Jj(k:Nat→Nat→Int) : ∀ l,(Bg k l).Perm l
 | []=>List.Perm.refl _
 | x::xs=>by rw[Bg];exact (DE k x _).trans ((Jj k xs).cons x)
theorem Dc(k:Nat→Nat→Int)(l:List Nat):(Bg k l).length=l.length:=(Jj k l).length_eq
theorem G8{k:Nat→Nat→Int}{l:List Nat}{x:Nat} : x∈Bg k l↔x∈l:=(Jj k l).mem_iff
section
variable {k:Nat→Nat→Int} (hk:Sm k)
include hk
theorem NQ(x:Nat) : ∀ l,l.Pairwise (Bs k)→(Lx k x l).Pairwise (Bs k)
 | [],_=>by simp[Lx]
 | y::ys,h=>by
  rw[Lx]
  rw[List.pairwise_cons]at h
  split
  · rename_i hxy
    refine List.pairwise_cons.2 ⟨fun z hz=> ?_,List.pairwise_cons.2 h⟩
    rcases Alx.1 hz with rfl | hz
    · exact hxy
    · exact Nx hk hxy (h.1 z hz)
  · rename_i hxy
    refine List.pairwise_cons.2 ⟨fun z hz=> ?_,NQ x ys h.2⟩
    rcases Alx.1 ((DE k x ys).mem_iff.1 hz) with rfl | hz
    · exact L5 hk hxy
    · exact h.1 z hz
theorem Jk : ∀ l,(Bg k l).Pairwise (Bs k)
 | []=>List.Pairwise.nil
 | x::xs=>NQ hk x _ (Jk xs)
theorem YE : ∀ {l m:List Nat},l.Perm m→l.Pairwise (Bs k)→m.Pairwise (Bs k)→l=m
 | [],m,hp,_,_=>(List.Perm.nil_eq hp)
 | x::xs,[],hp,_,_=>by have:=hp.length_eq;simp at this
 | x::xs,y::ys,hp,h1,h2=>by
  rw[List.pairwise_cons]at h1 h2
  have hx:x∈y::ys:=hp.mem_iff.1 (by simp)
  have hy:y∈x::xs:=hp.mem_iff.2 (by simp)
  have e:x=y:=by
   rcases Alx.1 hx with e | hx
   · exact e
   · rcases Alx.1 hy with e | hy
     · exact e.symm
     · exact Adm hk (h1.1 y hy) (h2.1 x hx)
  subst e
  rw[YE ((List.perm_cons x).1 hp) h1.2 h2.2]
theorem J_{l z:List Nat}(hp:z.Perm l)(hs:z.Pairwise (Bs k)):Bg k l=z:=(YE hk (hp.trans (Jj k l).symm) hs (Jk hk l)).symm
omit hk in
theorem AjI{l:List Nat}(h:l.length≤1):Bg k l=l:=by
 match l with
 | []=>rfl
 | [x]=>rfl
 | _::_::_=>simp at h
omit hk in
theorem Zs{l m:List Nat}(h1:l.Pairwise (Bs k))(h2:m.Pairwise (Bs k))(h : ∀ x∈l,∀ y∈m,Bs k x y):(l++m).Pairwise (Bs k):=List.pairwise_append.2 ⟨h1,h2,h⟩
theorem R_{l:List Nat}{i:Nat}{y z:Nat}(hs:l.Pairwise (Bs k))(hi:l[i]? = some y)(h:Bs k y z) : ∀ x∈l.take (i+1),Bs k x z:=by
 intro x hx
 obtain ⟨j,hj,rfl⟩:=List.mem_iff_getElem.1 hx
 obtain ⟨hi',rfl⟩:=Alj.1 hi
 rw[Alw]at hj
 rw[List.getElem_take]
 by_cases e:j=i
 · subst e;exact h
 · exact Nx hk (List.pairwise_iff_getElem.1 hs j i (by omega) hi' (by omega)) h
theorem Us{l:List Nat}{i:Nat}{y z:Nat}(hs:l.Pairwise (Bs k))(hi:l[i]? = some y)(h:Bs k z y) : ∀ x∈l.drop i,Bs k z x:=by
 intro x hx
 obtain ⟨j,hj,rfl⟩:=List.mem_iff_getElem.1 hx
 obtain ⟨hi',rfl⟩:=Alj.1 hi
 rw[Alu]at hj
 rw[List.getElem_drop]
 by_cases e:j=0
 · subst e;exact h
 · exact Nx hk h (List.pairwise_iff_getElem.1 hs i (i+j) hi' (by omega) (by omega))
end
def sg(k:Nat→Nat→Int)(bs:Nat):Nat→List Nat→List Nat
 | 0,l=>Bg k l
 | q+1,l=>if l.length<bs then Bg k l else Bg k (l.take bs)++sg k bs q (l.drop bs)
theorem GZ{k:Nat→Nat→Int}{bs:Nat}(hb:1≤bs) : ∀ {q q':Nat} {l:List Nat},l.length≤q→l.length≤q'→sg k bs q l=sg k bs q' l
 | 0,0,l,_,_=>rfl
 | 0,q'+1,l,h,_=>by rw[sg,sg,if_pos (by omega)]
 | q+1,0,l,_,h=>by rw[sg,sg,if_pos (by omega)]
 | q+1,q'+1,l,h,h'=>by
  rw[sg,sg]
  split
  · rfl
  · rw[GZ hb (q:=q) (q':=q') (by rw[Alu];omega) (by rw[Alu];omega)]
def SG(k:Nat→Nat→Int)(bs:Nat)(l:List Nat):List Nat:=sg k bs l.length l
theorem Jt{k:Nat→Nat→Int}{bs:Nat}(hb:1≤bs)(l:List Nat):SG k bs l=if l.length<bs then Bg k l else Bg k (l.take bs)++SG k bs (l.drop bs):=by
 unfold SG
 rw[GZ hb (q:=l.length) (q':=l.length+1) (by omega) (by omega),sg]
 split
 · rfl
 · rw[GZ hb (q:=l.length) (q':=(l.drop bs).length) (by rw[Alu];omega) (by omega)]
theorem Mw{k:Nat→Nat→Int}{bs:Nat}(hb:1≤bs){l:List Nat}(h:l.length≤bs):SG k bs l=Bg k l:=by
 rw[Jt hb]
 split
 · rfl
 · have h1:l.take bs=l:=Amb h
   have h2:l.drop bs = []:=List.drop_of_length_le h
   rw[h1,h2,Jt hb,if_pos (by simp;omega)]
   simp[Bg]
theorem JB{k:Nat→Nat→Int}{bs:Nat}(hb:1≤bs) : ∀ (q:Nat) (l:List Nat),l.length≤q→(SG k bs l).length=l.length
 | 0,l,h=>by rw[Jt hb,if_pos (by omega),Dc]
 | q+1,l,h=>by
  rw[Jt hb]
  split
  · rw[Dc]
  · rw[Alr,Dc,JB hb q _ (by rw[Alu];omega),Alw,Alu];omega
def dP(i:Nat):D:= .int (i:Int)
theorem LL(i:Nat):(dP i).toInt=(i:Int):=rfl
theorem Pj{A:List Nat}{x:Nat}{B:List Nat}{i:Nat}(h:i=A.length):((A++x::B).map dP).getD i D.nil=dP x:=by
 subst h;simp[Alk]
theorem S2{A M:List Nat}{x y:Nat}{B:List Nat}{i:Nat}(h:i=A.length+1+M.length):((A++x::(M++y::B)).map dP).getD i D.nil=dP y:=by
 rw[show A++x::(M++y::B)=(A++x::M)++y::B by simp]
 exact Pj (by simp;omega)
theorem GW{A:List Nat}{x y:Nat}{B:List Nat}{i:Nat}(h:i=A.length):((A++x::B).map dP).set i (dP y)=(A++y::B).map dP:=by
 subst h;simp
theorem WY{A M:List Nat}{x y z:Nat}{B:List Nat}{i:Nat}(h:i=A.length+1+M.length):((A++x::(M++y::B)).map dP).set i (dP z)=(A++x::(M++z::B)).map dP:=by
 rw[show A++x::(M++y::B)=(A++x::M)++y::B by simp,GW (by simp;omega)]
 simp
theorem YN{A M:List Nat}{x y:Nat}{B:List Nat}{i j:Nat}(hi:i=A.length)(hj:j=A.length+1+M.length):(((A++x::(M++y::B)).map dP).set i (dP y)).set j (dP x)=(A++y::(M++x::B)).map dP:=by
 rw[GW hi,WY hj]
theorem YM{A M:List Nat}{x y:Nat}{B:List Nat}{i j:Nat}(hi:i=A.length)(hj:j=A.length+1+M.length):(((A++x::(M++y::B)).map dP).set j (dP x)).set i (dP y)=(A++y::(M++x::B)).map dP:=by
 rw[WY hj,GW hi]
theorem U0{i j:Nat}(h:i+j≤1000000):Ale .i64 (Al8 (Ale .u64 (Ale .i64 ((i:Int)+(j:Int)))) (2 ^ (min (Alf 1) (Alq .u64))))=(((i+j) / 2:Nat):Int):=by
 rw[As (x:=(i:Int)+(j:Int)) (by omega) (by omega),Bq (by omega) (by omega),show (2:Int) ^ (min (Alf 1) (Alq .u64))=2 by decide,Int.fdiv_eq_ediv_of_nonneg _ (by decide),As (by omega) (by omega)]
 omega
def kk(d:Nat)(cs:List Cell)(dn:Bool)(i j:Nat):Int:=if dn then H1 d (cs.getD j (Be 0)) (cs.getD i (Be 0)) else H1 d (cs.getD i (Be 0)) (cs.getD j (Be 0))
theorem KC{d:Nat}{cs:List Cell}(h : ∀ c∈cs,B7 d c=true)(i:Nat):B7 d (cs.getD i (Be 0))=true:=by
 rw[Alk]
 cases hg:cs[i]? with
 | none=>exact Ro d U4
 | some c=>exact h c (Alm hg)
theorem Rr{d:Nat}{cs:List Cell}{dn:Bool}(h : ∀ c∈cs,B7 d c=true):Sm (kk d cs dn):=by
 have r:=(VY d).1
 have o:=KC h
 cases dn with
 | false=>exact ⟨fun x y _ _=>r.val _ _ (o x) (o y),fun x y _ _=>r.flip _ _ (o x) (o y),fun x y z _ _ _=>r.go _ _ _ (o x) (o y) (o z)⟩
 | true=>exact ⟨fun x y _ _=>r.val _ _ (o y) (o x),fun x y _ _=>r.flip _ _ (o y) (o x),fun x y z _ _ _ h1 h2=>r.go _ _ _ (o z) (o y) (o x) h2 h1⟩
abbrev Dz(dn:Bool)(a:Arr):D:=D.fn 156 [.ref 4,.ref 26] [.ref (.bool dn),.ref (dA a)]
section
variable {d:Nat} {a:Arr} {dn:Bool} (ha : ∀ c∈a.cells,B7 d c=true)
include ha
theorem Ut{i j:Nat}(hi:i<a.cells.length)(hj:j<a.cells.length):Dn Tryz.prog md 156 [.ref 4,.ref 26] [dP i,dP j,.ref (.bool dn),.ref (dA a)] [.int (kk d a.cells dn i j)]:=by
 have cell : ∀ i,i<a.cells.length→(a.cells.map dC).getD i D.nil=dC (a.cells.getD i (Be 0)):=fun i hi=>by
   rw[Ar (Alg hi),Alk,Alg hi];rfl
 have o:=KC ha
 refine Af 0 (Ac6 _ _ _ _ _) ?_
 simp only[Z3,Az,BT,Dp,LL,Aln,Ali,cell i hi,cell j hj]
 refine Ch (fun h=> ?_) (fun h=> ?_)
 · refine Ad (Ad (Ad (Ad (Aa ((CW d).1 _ _ (o j) (o i)) (Ac ?_)))))
   simp only[Ag,Ak,kk,if_pos h]
 · refine Ad (Ad (Ad (Ad (Aa ((CW d).1 _ _ (o i) (o j)) (Ac ?_)))))
   simp only[Ag,Ak,kk,h]
   rfl
theorem NR(A X B:List Nat)(hX:X.Pairwise (· < ·))(hin : ∀ x∈X,x<a.cells.length)(hlen:A.length+X.length+B.length≤100000):Sp 250 [.sl ((A++X++B).map dP),.int (A.length:Int),.int ((A.length+X.length:Nat):Int),Dz dn a] [.sl ((A++Bg (kk d a.cells dn) X++B).map dP)]:=by
 have hk:=Rr (dn:=dn) ha
 generalize hkk:kk d a.cells dn=k at *
 refine Af 200000 (Ajy _ _ _ _ _ _) ?_
 simp only[Dp,Ak]
 have outer : ∀ (m t:Nat),t≤X.length→1≤t∨X.length=0→X.length-t<m→Tw (Ox 200000 m ((A++Bg k (X.take t)++X.drop t++B).map dP) (A.length:Int) ((A.length+X.length:Nat):Int) (Dz dn a) ((A.length+t:Nat):Int)) [.sl ((A++Bg k X++B).map dP)]:=by
   intro m
   induction m with
   | zero=>intro t _ _ h;omega
   | succ m ih =>
    intro t ht h1 hm
    simp only[XV]
    by_cases he:t<X.length
    · refine Ad ?_
      have hd:X.drop t=X[t]::X.drop (t+1):=Al6 he
      have hy:X[t]∈X:=Amj he
      have hyl:=hin _ hy
      have htk:X.take (t+1)=X.take t++[X[t]]:=by rw[List.take_add_one,Alg he];rfl
      have hlt : ∀ z∈X.take t,z<X[t]:=fun z hz=>by
       obtain ⟨j,hj,rfl⟩:=List.mem_iff_getElem.1 hz
       rw[Alw]at hj
       rw[List.getElem_take]
       exact List.pairwise_iff_getElem.1 hX j t (by omega) he (by omega)
      have hZs:=Jk hk (X.take t)
      have hZm : ∀ z∈Bg k (X.take t),z<X[t]∧z<a.cells.length:=fun z hz=>⟨hlt z (G8.1 hz),hin z (List.mem_of_mem_take (G8.1 hz))⟩
      have hZl:(Bg k (X.take t)).length=t:=by rw[Dc,Alw];omega
      have hZp:=Jj k (X.take t)
      have nxt : ∀ Z,Z.Perm (X.take (t+1))→Z.Pairwise (Bs k)→Tw (Ox 200000 m ((A++Z++X.drop (t+1)++B).map dP) (A.length:Int) ((A.length+X.length:Nat):Int) (Dz dn a) ((A.length+(t+1):Nat):Int)) [.sl ((A++Bg k X++B).map dP)]:=fun Z h1 h2=>by
       rw[← J_ hk h1 h2]
       exact ih (t+1) (by omega) (by omega) (by omega)
      rw[hd]
      generalize X[t]=y at *
      generalize Bg k (X.take t)=Z at *
      have hw:Ale .i64 (((A.length+t:Nat):Int)+1)=((A.length+(t+1):Nat):Int):=by rw[As (by omega) (by omega)];omega
      have inner:=H_ (P:=Tryz.prog) (md:=md) (fun q j (_:Unit)=>Zk 200000 m q ((A++Z.take j++y::(Z.drop j++X.drop (t+1)++B)).map dP) (A.length:Int) ((A.length+X.length:Nat):Int) (Dz dn a) ((A.length+t:Nat):Int) ((A.length+j:Nat):Int)) (fun _ _=>[.sl ((A++Bg k X++B).map dP)]) (fun j _=>j≤t∧∀ z∈Z.drop j,¬ Bs k z y)
       (fun q s hI=>by
        simp only[XW,hw]
        refine Aq ?_
        have:=nxt (y::Z) (by rw[htk];exact (hZp.cons y).trans (List.perm_append_singleton y _).symm) (List.pairwise_cons.2 ⟨fun z hz=>L5 hk (hI.2 z (by simpa using hz)),hZs⟩)
        simpa using this)
       (fun q j s hI ih'=>by
        obtain ⟨hj,hd2⟩:=hI
        have hjl:j<Z.length:=by omega
        have hz:Z[j]∈Z:=Amj hjl
        have e1:Z.take (j+1)=Z.take j++[Z[j]]:=by rw[List.take_add_one,Alg hjl];rfl
        have e2:Z.drop j=Z[j]::Z.drop (j+1):=Al6 hjl
        have hzl:=hZm _ hz
        have hsl:=R_ hk (z:=y) hZs (Alg hjl)
        rw[e1]
        rw[e2]at ih'
        generalize Z[j]=z at *
        have tl:(Z.take j).length=j:=by rw[Alw];omega
        have hdl:(Z.drop (j+1)).length=t-(j+1):=by rw[Alu];omega
        have ed:A++(Z.take j++[z])++y::(Z.drop (j+1)++X.drop (t+1)++B)=(A++Z.take j)++z::([]++y::(Z.drop (j+1)++X.drop (t+1)++B)):=by simp
        have w1:Ale .i64 (((A.length+(j+1):Nat):Int)-1)=((A.length+j:Nat):Int):=by rw[As (by omega) (by omega)];omega
        have al:(A++Z.take j).length=A.length+j:=by rw[Alr,tl]
        have bl:A.length+(t+1)≤A.length+X.length:=by omega
        have dl:(X.drop (t+1)).length=X.length-(t+1):=by rw[Alu]
        rw[ed]
        simp only[XW,w1,hw,Aln,Gs,Gq,Gr,List.cons_append,Pj (show A.length+j=(A++Z.take j).length from al.symm),S2 (M:=[]) (show A.length+(j+1)=(A++Z.take j).length+1+([]:List Nat).length by rw[al];simp;omega),Ali,List.length_set]
        have hll:(A++Z.take j++z::([]++y::(Z.drop (j+1)++X.drop (t+1)++B))).length=A.length+X.length+B.length:=by simp only[Alr,All,Alz,tl,hdl,dl];omega
        simp only[List.cons_append,Amo]at hll
        simp only[Amo,hll]
        refine Ad (Ad (Ad (Ad (Ad (Aa (Ut (dn:=dn) ha hyl hzl.2) ?_)))))
        simp only[Ag,Ak,hkk]
        refine Ae (fun h=> ?_) (fun h=> ?_)
        · have hn:=(Kr hk hzl.1).1 h
          refine Ad (Ad (Ad (Ad (Ad (Ad (Ad (Ad ?_)))))))
          have sw:=YM (A:=A++Z.take j) (M:=[]) (x:=z) (y:=y) (B:=Z.drop (j+1)++X.drop (t+1)++B) (i:=A.length+j) (j:=A.length+(j+1)) al.symm (by rw[al];simp;omega)
          simp only[Amo]at sw
          have sw2:(((A++Z.take j++z::y::(Z.drop (j+1)++X.drop (t+1)++B)).map dP).set (A.length+(j+1)) (D.int (dP z).toInt)).set (A.length+j) (D.int (dP y).toInt)=_:=sw
          rw[sw2]
          have:=ih' () ⟨by omega,fun x hx=>by
           rcases Alx.1 hx with rfl | hx
           · exact hn
           · exact hd2 x hx⟩
          simpa using this
        · have hp:Bs k z y:=Alt.1 (fun hh=>h ((Kr hk hzl.1).2 hh))
          have:=nxt (Z.take (j+1)++y::Z.drop (j+1)) (by
            rw[htk]
            refine List.Perm.trans ?_ (hZp.append_right [y])
            refine List.Perm.trans List.perm_middle ?_
            rw[Ama]
            exact (List.perm_append_singleton y _).symm) (Zs (hZs.sublist (List.take_sublist _ _)) (List.pairwise_cons.2 ⟨fun x hx=>L5 hk (hd2 x hx),hZs.sublist (List.drop_sublist _ _)⟩) (fun x hx w hw=>by
            have h1:=hsl hp x hx
            rcases Alx.1 hw with rfl | hw
            · exact h1
            · exact Nx hk h1 (L5 hk (hd2 w hw))))
          rw[e1]at this
          simpa using this)
       200000 t () (by omega) ⟨Als _,fun z hz=>by rw[List.drop_of_length_le (by omega)]at hz;cases hz⟩
      rw[Amb (by omega),List.drop_of_length_le (by omega)]at inner
      simpa using inner
    · refine Aq (Ac ?_)
      rw[Amb (by omega),List.drop_of_length_le (by omega)]
      simp
 by_cases h0:X.length=0
 · have hX0:=Al7.1 h0
   subst hX0
   rw[As (by omega) (by simp at hlen;omega)]
   simp only[XV]
   exact Mu (by simp only[Alz];omega) (Ac (by simp[Bg]))
 · have:=outer 200000 1 (by omega) (by omega) (by omega)
   rw[AjI (by rw[Alw];omega)]at this
   rw[show A++X.take 1++X.drop 1++B=A++X++B by rw[Al4 A,Ama]]at this
   rw[show Ale .i64 ((A.length:Int)+1)=((A.length+1:Nat):Int) by rw[As (by omega) (by omega)];rfl]
   exact this
omit ha in
theorem IC(A U M V B:List Nat)(n:Nat)(hu:U.length=n)(hv:V.length=n)(hlen:A.length+n+M.length+n+B.length≤100000):Sp 322 [.sl ((A++U++M++V++B).map dP),.int (A.length:Int),.int ((A.length+n+M.length:Nat):Int),.int (n:Int),Dz dn a] [.sl ((A++V++M++U++B).map dP)]:=by
 refine Af 200000 (Aj5 _ _ _ _ _ _ _) ?_
 simp only[Dp,Ak]
 have key:=Da n (fun m i (_:Unit)=>Zp 200000 m ((A++(V.take i++U.drop i)++M++(U.take i++V.drop i)++B).map dP) (A.length:Int) ((A.length+n+M.length:Nat):Int) (n:Int) (i:Int)) (fun _ _=>[.sl ((A++V++M++U++B).map dP)]) (fun _ _=>True)
  (fun m s _=>by
   simp only[XX]
   refine Aq (Ac ?_)
   rw[Amb (by omega),Amb (by omega),List.drop_of_length_le (by omega),List.drop_of_length_le (by omega)]
   simp)
  (fun m i s hi _ ih=>by
   have ih:=ih () trivial
   have e1:U.take (i+1)=U.take i++[U[i]'(by omega)]:=by rw[List.take_add_one,Alg (by omega)];rfl
   have e2:V.take (i+1)=V.take i++[V[i]'(by omega)]:=by rw[List.take_add_one,Alg (by omega)];rfl
   have e3:U.drop i=U[i]'(by omega)::U.drop (i+1):=Al6 (by omega)
   have e4:V.drop i=V[i]'(by omega)::V.drop (i+1):=Al6 (by omega)
   rw[e1,e2]at ih
   rw[e3,e4]
   generalize U[i]'(by omega)=u at *
   generalize V[i]'(by omega)=v at *
   have t1:(V.take i).length=i:=by rw[Alw];omega
   have t2:(U.take i).length=i:=by rw[Alw];omega
   have t3:(U.drop (i+1)).length=n-(i+1):=by rw[Alu];omega
   have t4:(V.drop (i+1)).length=n-(i+1):=by rw[Alu];omega
   have al:(A++V.take i).length=A.length+i:=by rw[Alr,t1]
   have ml:(U.drop (i+1)++M++U.take i).length=n-1+M.length:=by simp only[Alr,t3,t2];omega
   have ed:A++(V.take i++u::U.drop (i+1))++M++(U.take i++v::V.drop (i+1))++B=(A++V.take i)++u::((U.drop (i+1)++M++U.take i)++v::(V.drop (i+1)++B)):=by simp
   have hll:((A++V.take i)++u::((U.drop (i+1)++M++U.take i)++v::(V.drop (i+1)++B))).length=A.length+n+M.length+n+B.length:=by rw[Alr,al,All,Alr,ml,All,Alr,t4];omega
   have w1:Ale .i64 (((A.length+n+M.length:Nat):Int)+(i:Int))=((A.length+n+M.length+i:Nat):Int):=by rw[As (by omega) (by omega)];omega
   have w2:Ale .i64 ((A.length:Int)+(i:Int))=((A.length+i:Nat):Int):=by rw[As (by omega) (by omega)];omega
   rw[ed]
   have sw:=YN (A:=A++V.take i) (M:=U.drop (i+1)++M++U.take i) (x:=u) (y:=v) (B:=V.drop (i+1)++B) (i:=A.length+i) (j:=A.length+n+M.length+i) al.symm (by rw[al,ml];omega)
   simp only[XX,w1,w2,Aln,Pj (show A.length+i=(A++V.take i).length from al.symm),S2 (show A.length+n+M.length+i=(A++V.take i).length+1+(U.drop (i+1)++M++U.take i).length by rw[al,ml];omega),Ali,List.length_set,hll,Bb i]
   have sw2:((((A++V.take i)++u::((U.drop (i+1)++M++U.take i)++v::(V.drop (i+1)++B))).map dP).set (A.length+i) (D.int (dP v).toInt)).set (A.length+n+M.length+i) (D.int (dP u).toInt)=_:=sw
   rw[sw2]
   refine Ad (Ad (Ad (Ad (Ad (Ad (Ad (Ad (Ad ?_))))))))
   simpa using ih)
  200000 0 () (by omega) (by omega) trivial
 simpa using key
omit ha in
theorem Ain(A X Y B:List Nat)(hx:1≤X.length)(hy:1≤Y.length)(hlen:A.length+X.length+Y.length+B.length≤100000):Sp 300 [.sl ((A++X++Y++B).map dP),.int (A.length:Int),.int ((A.length+X.length:Nat):Int),.int ((A.length+X.length+Y.length:Nat):Int),Dz dn a] [.sl ((A++Y++X++B).map dP)]:=by
 refine Af 200000 (Aj0 _ _ _ _ _ _ _) ?_
 simp only[Dp,Ak]
 have key : ∀ (m:Nat) (mm:Nat) (A U V B:List Nat),U.length+V.length<m→1≤U.length→1≤V.length→A.length+U.length=mm→A.length+U.length+V.length+B.length≤100000→Tw (Ru 200000 m ((A++U++V++B).map dP) (mm:Int) (Dz dn a) (U.length:Int) (V.length:Int)) [.sl ((A++V++U++B).map dP)]:=by
  intro m
  induction m with
  | zero=>intro mm A U V B h;omega
  | succ m ih =>
   intro mm A U V B hm h1 h2 hmm hl
   simp only[Ajz,Cu]
   have w1:Ale .i64 ((mm:Int)-(U.length:Int))=(A.length:Int):=by rw[As (by omega) (by omega)];omega
   rw[w1]
   refine Ae (fun hne=>Ae (fun hlt=> ?_) (fun hlt=> ?_)) (fun he=> ?_)
   ·
     have hsp:=IC (dn:=dn) (a:=a) A (U.take V.length) (U.drop V.length) V B V.length (by rw[Alw];omega) rfl (by rw[Alu];omega)
     rw[show A++U.take V.length++U.drop V.length++V++B=A++U++V++B by rw[Al4 A,Ama]]at hsp
     rw[show A.length+V.length+(U.drop V.length).length=mm by rw[Alu];omega]at hsp
     refine Aa hsp ?_
     have:=ih mm (A++V) (U.drop V.length) (U.take V.length) B (by rw[Alu,Alw];omega) (by rw[Alu];omega) (by rw[Alw];omega) (by rw[Alr,Alu];omega) (by rw[Alr,Alu,Alw];omega)
     rw[show (A++V)++U.take V.length++U.drop V.length++B=A++V++U++B by rw[Al4 (A++V),Ama]]at this
     rw[show (U.drop V.length).length=U.length-V.length by rw[Alu],show (U.take V.length).length=V.length by rw[Alw];omega]at this
     rw[show Ale .i64 ((U.length:Int)-(V.length:Int))=((U.length-V.length:Nat):Int) by rw[As (by omega) (by omega)];omega]
     exact this
   · have hq:U.length<V.length:=by omega
     have hsp:=IC (dn:=dn) (a:=a) A U (V.take (V.length-U.length)) (V.drop (V.length-U.length)) B U.length rfl (by rw[Alu];omega) (by rw[Alw];omega)
     rw[show A++U++V.take (V.length-U.length)++V.drop (V.length-U.length)++B=A++U++V++B by rw[Al4 (A++U),Ama]]at hsp
     rw[show A.length+U.length+(V.take (V.length-U.length)).length=mm+V.length-U.length by rw[Alw];omega]at hsp
     rw[show Ale .i64 ((Ale .i64 ((mm:Int)+(V.length:Int)))-(U.length:Int))=((mm+V.length-U.length:Nat):Int) by rw[As (x:=(mm:Int)+(V.length:Int)) (by omega) (by omega),As (by omega) (by omega)];omega]
     refine Aa hsp ?_
     have:=ih mm A (V.drop (V.length-U.length)) (V.take (V.length-U.length)) (U++B) (by rw[Alu,Alw];omega) (by rw[Alu];omega) (by rw[Alw];omega) (by rw[Alu];omega) (by rw[Alr,Alu,Alw];omega)
     rw[show A++V.take (V.length-U.length)++V.drop (V.length-U.length)++(U++B)=A++V++U++B by rw[Al4 A,Ama];simp]at this
     rw[show A++V.drop (V.length-U.length)++V.take (V.length-U.length)++(U++B)=A++V.drop (V.length-U.length)++V.take (V.length-U.length)++U++B by simp]at this
     rw[show (V.drop (V.length-U.length)).length=U.length by rw[Alu];omega,show (V.take (V.length-U.length)).length=V.length-U.length by rw[Alw];omega]at this
     rw[show Ale .i64 ((V.length:Int)-(U.length:Int))=((V.length-U.length:Nat):Int) by rw[As (by omega) (by omega)];omega]
     exact this
   · have he:U.length=V.length:=by omega
     have hsp:=IC (dn:=dn) (a:=a) A U [] V B U.length rfl he.symm (by simp;omega)
     simp only[Al2,Alz,Nat.add_zero,hmm]at hsp
     exact Aa hsp (Ac rfl)
 rw[show Ale .i64 (((A.length+X.length:Nat):Int)-(A.length:Int))=(X.length:Int) by rw[As (by omega) (by omega)];omega,show Ale .i64 (((A.length+X.length+Y.length:Nat):Int)-((A.length+X.length:Nat):Int))=(Y.length:Int) by rw[As (by omega) (by omega)];omega]
 exact key 200000 _ A X Y B (by omega) hx hy rfl hlen
end
end Go.Proofs.YtokkbgpgaheakaaGreat
