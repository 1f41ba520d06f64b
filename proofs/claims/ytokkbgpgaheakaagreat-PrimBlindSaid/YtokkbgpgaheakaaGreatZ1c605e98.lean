/- Proved: lemmas for the law of this folder, part 6. No condition. -/
import Derived.Test.YtokkbgpgaheakaaGreatRows
import Derived.WalkKit
import Derived.WalkSpells
import Derived.WalkLawsBesides
import Derived.Lib.Hide
import Derived.Laws.CopyOwn
import Derived.Deep.QuietTactic
import Derived.BigQuiet
import Derived.Orders
import Derived.Defers
import Derived.Recover
import Derived.Test.YtokkbgpgaheakaaGreatProg
import Derived.KernelRfl
import Derived.ProofKit
import Derived.OpenShut
import Derived.Maps.OwnRows
import Derived.Maps.Views
import Derived.Deep.RegionHeld3
import Derived.Deep.AppendLies
import Derived.Test.YtokkbgpgaheakaaGreatZdd28de59
set_option linter.unusedSimpArgs false
set_option linter.unusedVariables false
set_option maxRecDepth 100000
open Array renaming getElem?_eq_getElem → Apy, getElem?_eq_some_iff → Aqa, getD_eq_getD_getElem? → Aqf
open BitVec renaming ofNat → Apw
open Bool renaming and_eq_true → Api
open Classical renaming not_not → Apm
open Int renaming toNat → Apa, toNat_natCast → Apj, fdiv → Ap3
open Go.IntKind renaming wrap → Aom, bits → Apl
open List renaming getElem?_eq_getElem → Apb, replicate → Apc, length_map → Apd, getD_eq_getElem?_getD → Ape, getElem?_eq_some_iff → Apf, length_cons → Apg, mem_of_getElem? → Aph, length_append → Apn, length_drop → App, length_take → Apr, getElem?_map → Aps, mem_cons → Apt, length_nil → Apv, append_nil → Apx, append_assoc → Apz, getElem?_append_left → Ap0, drop_eq_getElem_cons → Ap1, length_eq_zero_iff → Ap2, take_append_drop → Ap5, map_cons → Ap7, range → Ap8, take_of_length_le → Ap_, getElem_mem → Aqc, getElem?_append_right → Aqe, length_replicate → Aqg, mem_append → Aqh, length → Aql, all_eq_true → Aqm, nil_append → Aqp
open Nat renaming le_refl → Apo, mul_le_mul_right → Apu, mod_lt → Ap4, mod_eq_of_lt → Ap6, mul_comm → Ap9, lt_of_lt_of_le → Aqb, div_div_eq_div_mul → Aqd, pow_succ → Aqj, div_lt_iff_lt_mul → Aqk, lt_or_ge → Aqn, zero_add → Aqo
open Option renaming map_eq_some_iff → Apq, bind_eq_some_iff → Aqi
open Option.some renaming injEq → Apk
namespace Go.Proofs.YtokkbgpgaheakaaGreat
def Wl:List (Nat×Orc):=[(12,⟨[(1,none),(2,none),(6,none),(39,none),(40,none)],[(1,true),(2,false)],[(.slot 6,1120,67)]⟩)]
noncomputable def Wk(n m12:Nat)(cells6:List D)(t39 t40:Int)(nn1:D)(t2_0:Int):Tree :=
 lA (eA Wl n 65 [1,1,1,1,1,0,1,0,0]) (An Wl 12) m12 ⟨(.undef:: .ptr 1 []:: .ptr 2 []::uA 3++(.row 1120::uA 32++(.i .i64 t39:: .i .i64 t40::uA 14))),[(1,.var 26 (.d 26 nn1) true),(2,.var 26 (.agg 26 [.i .u64 t2_0,.mt,.mt]) true),(1120,.row 67 cells6 true)],[1,2,1120],[],[]⟩
  (Ak 1 (Aq (jA Wl n 65 [1,1,1,1,1,1]) (rA 65 [26] [.cell 2 26,.tmp 3] [26,29])))
theorem QZ(n m12:Nat)(cells6:List D)(t39 t40:Int)(nn1:D)(t2_0:Int):Wk n (m12+1) cells6 t39 t40 nn1 t2_0 =
 bK (t40<t39) (cK 138 [D.int (Aom .i64 (t40+1))] fun Y2 =>
 kK (0≤t40) (kK (t40<(cells6.length:Int)) (Wk n m12 (cells6.set (Apa t40) (qA Y2)) t39 (Aom .i64 (t40+1)) nn1 t2_0)))
 (cK 149 [D.sl cells6] fun Y3 =>
 cK 84 [nn1] fun Y4 =>
 cK 90 [qA Y3,D.int ((qA Y4).toInt)] fun Y5 =>
 .ret [qA Y5,D.int 0]):=by kernel_rfl
theorem Afb(n:Nat)(nn0:D):fA Wl n 65 [] [nn0] =
 cK 80 [nn0] fun Y1 =>
 .br (((qB Y1).toInt)!=0) (.ret [D.agg [D.int 0,D.sl [],D.sl []],D.int ((qB Y1).toInt)])
 (.br ((((qA Y1).els).length:Int)!=1) (.ret [D.agg [D.int 0,D.sl [],D.sl []],D.int 4])
 (kK (0≤0) (kK (0<(((qA Y1).els).length:Int)) (bK (((((qA Y1).els).getD (Apa 0) D.nil).toInt)<0) (.ret [D.agg [D.int 0,D.sl [],D.sl []],D.int 3])
 (kK (0≤0) (kK (0<(((qA Y1).els).length:Int)) (bK (2048<((((qA Y1).els).getD (Apa 0) D.nil).toInt)) (.ret [D.agg [D.int 0,D.sl [],D.sl []],D.int 7])
 (kK (0≤0) (kK (0<(((qA Y1).els).length:Int)) (kK (0≤(((qA Y1).els).getD (Apa 0) D.nil).toInt) (kK ((((qA Y1).els).getD (Apa 0) D.nil).toInt≤(((qA Y1).els).getD (Apa 0) D.nil).toInt) (kK ((((qA Y1).els).getD (Apa 0) D.nil).toInt≤Am) (Wk n n (Apc (Apa ((((qA Y1).els).getD (Apa 0) D.nil).toInt)) (D.agg [D.int 0,D.int 0,D.agg [D.bool false,D.sl [],D.sl []],D.int 0,D.sl []])) ((Apc (Apa ((((qA Y1).els).getD (Apa 0) D.nil).toInt)) (D.agg [D.int 0,D.int 0,D.agg [D.bool false,D.sl [],D.sl []],D.int 0,D.sl []])).length:Int) 0 nn0 0))))))))))))):=by kernel_rfl
def Wn:List (Nat×Orc):=[(7,⟨[(1,none),(2,none),(3,none),(4,some 128),(5,none),(19,some 24),(20,none),(21,none)],[(1,true),(2,false),(3,false)],[(.slot 5,1070,67)]⟩)]
noncomputable def R4(n m7:Nat)(place4:D)(cells5:List D)(t19:D)(t20 t21:Int)(a1:D)(r2_0 e3:Int):Tree :=
 lA (eA Wn n 67 [1,1,1,1,1,0,1,0,0]) (An Wn 7) m7 ⟨(.undef:: .ptr 1 []:: .ptr 2 []:: .ptr 3 []:: .d 128 place4:: .row 1070::uA 13++(.d 24 t19:: .i .i64 t20:: .i .i64 t21::uA 19)),[(1,.var 26 (.d 26 a1) true),(2,.var 26 (.agg 26 [.i .u64 r2_0,.mt,.mt]) true),(3,.var 29 (.i .i64 e3) true),(1070,.row 67 cells5 true)],[1,2,3,1070],[(151,[.ptr 2 [],.ptr 3 []])],[]⟩
  (Ak 0 (Aq (jA Wn n 67 [1,1,1,1,1,1]) (rA 67 [26] [.cell 2 26,.cell 3 29] [26,29])))
theorem RC(n m7:Nat)(place4_c0 place4_c1:D)(cells5:List D)(t19:D)(t20 t21:Int)(a1:D)(r2_0 e3:Int):R4 n (m7+1) (D.fn 216 [.ref 173,.ref 24] [place4_c0,place4_c1]) cells5 t19 t20 t21 a1 r2_0 e3 =
 bK (t21<t20) (kK (0≤t21) (kK (t21<(t19.els.length:Int)) (.call (D.fn 216 [.ref 173,.ref 24] [place4_c0,place4_c1]).fnId (D.fn 216 [.ref 173,.ref 24] [place4_c0,place4_c1]).fnCts ([t19.els.getD (Apa t21) D.nil]++(D.fn 216 [.ref 173,.ref 24] [place4_c0,place4_c1]).fnDs) fun Y2 =>
 .br (((qA Y2).toInt)==t21) (kK (cells5.length + [t19.els.getD (Apa t21) D.nil].length≤Am) (R4 n m7 (D.fn 216 [.ref 173,.ref 24] [place4_c0,place4_c1]) (cells5++[t19.els.getD (Apa t21) D.nil]) t19 t20 (Aom .i64 (t21+1)) a1 r2_0 e3))
 (R4 n m7 (D.fn 216 [.ref 173,.ref 24] [place4_c0,place4_c1]) cells5 t19 t20 (Aom .i64 (t21+1)) a1 r2_0 e3))))
 (cK 149 [D.sl cells5] fun Y3 =>
 cK 84 [a1] fun Y4 =>
 cK 90 [qA Y3,D.int ((qA Y4).toInt)] fun Y5 =>
 .ret [qA Y5,D.int 0]):=by kernel_rfl
theorem Afi(n:Nat)(a0:D):fA Wn n 67 [] [a0] =
 bK (1<(((a0.fld 1).els).length:Int)) (.ret [D.agg [D.int 0,D.sl [],D.sl []],D.int 5])
 (cK 152 [a0.fld 2] fun Y1 =>
 R4 n n (qA Y1) [] (a0.fld 2) (((a0.fld 2).els).length:Int) 0 a0 0 0):=by kernel_rfl
def Wj:List (Nat×Orc):=[(7,⟨[(2,none),(3,none),(4,none),(5,none),(6,some 128),(7,none),(25,some 24),(26,none),(27,none)],[(2,true),(3,true),(4,false),(5,false)],[(.slot 7,1070,67)]⟩)]
noncomputable def Pk(n m7:Nat)(place6:D)(cells7:List D)(t25:D)(t26 t27:Int)(a2 b3:D)(r4_0 e5:Int):Tree :=
 lA (eA Wj n 106 [1,1,1,1,1,0,1,0,0]) (An Wj 7) m7 ⟨(.undef:: .undef:: .ptr 2 []:: .ptr 3 []:: .ptr 4 []:: .ptr 5 []:: .d 128 place6:: .row 1070::uA 17++(.d 24 t25:: .i .i64 t26:: .i .i64 t27::uA 26)),[(2,.var 26 (.d 26 a2) true),(3,.var 26 (.d 26 b3) true),(4,.var 26 (.agg 26 [.i .u64 r4_0,.mt,.mt]) true),(5,.var 29 (.i .i64 e5) true),(1070,.row 67 cells7 true)],[2,3,4,5,1070],[(180,[.ptr 4 [],.ptr 5 []])],[]⟩
  (Ak 0 (Aq (jA Wj n 106 [1,1,1,1,1,1]) (rA 106 [26,26] [.cell 4 26,.cell 5 29] [26,29])))
theorem QY(n m7:Nat)(place6_c0 place6_c1:D)(cells7:List D)(t25:D)(t26 t27:Int)(a2 b3:D)(r4_0 e5:Int):Pk n (m7+1) (D.fn 216 [.ref 173,.ref 24] [place6_c0,place6_c1]) cells7 t25 t26 t27 a2 b3 r4_0 e5 =
 bK (t27<t26) (kK (0≤t27) (kK (t27<(t25.els.length:Int)) (.call (D.fn 216 [.ref 173,.ref 24] [place6_c0,place6_c1]).fnId (D.fn 216 [.ref 173,.ref 24] [place6_c0,place6_c1]).fnCts ([t25.els.getD (Apa t27) D.nil]++(D.fn 216 [.ref 173,.ref 24] [place6_c0,place6_c1]).fnDs) fun Y2 =>
 bK (((qA Y2).toInt)<0) (cK 138 [D.int (Aom .i64 ((((a2.fld 2).els).length:Int)+1))] fun Y3 =>
 kK (0≤t27) (kK (t27<(cells7.length:Int)) (Pk n m7 (D.fn 216 [.ref 173,.ref 24] [place6_c0,place6_c1]) (cells7.set (Apa t27) (qA Y3)) t25 t26 (Aom .i64 (t27+1)) a2 b3 r4_0 e5)))
 (cK 138 [D.int (Aom .i64 (((qA Y2).toInt)+1))] fun Y4 =>
 kK (0≤t27) (kK (t27<(cells7.length:Int)) (Pk n m7 (D.fn 216 [.ref 173,.ref 24] [place6_c0,place6_c1]) (cells7.set (Apa t27) (qA Y4)) t25 t26 (Aom .i64 (t27+1)) a2 b3 r4_0 e5))))))
 (cK 182 [a2,b3] fun Y5 =>
 cK 181 [D.int ((qA Y5).toInt),b3.fld 1,D.sl cells7] fun Y6 =>
 .ret [qA Y6,D.int 0]):=by kernel_rfl
theorem AeZ(n:Nat)(a0 b1:D):fA Wj n 106 [] [a0,b1] =
 .br ((((a0.fld 1).els).length:Int)!=1) (.ret [D.agg [D.int 0,D.sl [],D.sl []],D.int 5])
 (cK 152 [a0.fld 2] fun Y1 =>
 kK (0≤(((b1.fld 2).els).length:Int)) (kK ((((b1.fld 2).els).length:Int)≤(((b1.fld 2).els).length:Int)) (kK ((((b1.fld 2).els).length:Int)≤Am) (Pk n n (qA Y1) (Apc (Apa (((b1.fld 2).els).length:Int)) (D.agg [D.int 0,D.int 0,D.agg [D.bool false,D.sl [],D.sl []],D.int 0,D.sl []])) (b1.fld 2) (((b1.fld 2).els).length:Int) 0 a0 b1 0 0)))):=by kernel_rfl
def Wm:List (Nat×Orc):=[(5,⟨[(2,none),(3,none),(4,none),(5,some 128),(6,none),(19,some 24),(20,none),(21,none)],[(2,true),(3,true),(4,false)],[(.slot 6,1050,67)]⟩)]
noncomputable def Pl(n m5:Nat)(place5:D)(cells6:List D)(t19:D)(t20 t21:Int)(a2 b3:D)(r4_0:Int):Tree :=
 lA (eA Wm n 107 [1,1,1,1,0,1,0,0]) (An Wm 5) m5 ⟨(.undef:: .undef:: .ptr 2 []:: .ptr 3 []:: .ptr 4 []:: .d 128 place5:: .row 1050::uA 12++(.d 24 t19:: .i .i64 t20:: .i .i64 t21::uA 21)),[(2,.var 26 (.d 26 a2) true),(3,.var 26 (.d 26 b3) true),(4,.var 26 (.agg 26 [.i .u64 r4_0,.mt,.mt]) true),(1050,.row 67 cells6 true)],[2,3,4,1050],[(183,[.ptr 4 []])],[]⟩
  (Ak 0 (Aq (jA Wm n 107 [1,1,1,1,1]) (rA 107 [26,26] [.cell 4 26] [26])))
theorem RA(n m5:Nat)(place5_c0 place5_c1:D)(cells6:List D)(t19:D)(t20 t21:Int)(a2 b3:D)(r4_0:Int):Pl n (m5+1) (D.fn 216 [.ref 173,.ref 24] [place5_c0,place5_c1]) cells6 t19 t20 t21 a2 b3 r4_0 =
 bK (t21<t20) (kK (0≤t21) (kK (t21<(t19.els.length:Int)) (.call (D.fn 216 [.ref 173,.ref 24] [place5_c0,place5_c1]).fnId (D.fn 216 [.ref 173,.ref 24] [place5_c0,place5_c1]).fnCts ([t19.els.getD (Apa t21) D.nil]++(D.fn 216 [.ref 173,.ref 24] [place5_c0,place5_c1]).fnDs) fun Y2 =>
 bK (0≤((qA Y2).toInt)) (cK 138 [D.int 1] fun Y3 =>
 kK (0≤t21) (kK (t21<(cells6.length:Int)) (Pl n m5 (D.fn 216 [.ref 173,.ref 24] [place5_c0,place5_c1]) (cells6.set (Apa t21) (qA Y3)) t19 t20 (Aom .i64 (t21+1)) a2 b3 r4_0)))
 (cK 138 [D.int 0] fun Y4 =>
 kK (0≤t21) (kK (t21<(cells6.length:Int)) (Pl n m5 (D.fn 216 [.ref 173,.ref 24] [place5_c0,place5_c1]) (cells6.set (Apa t21) (qA Y4)) t19 t20 (Aom .i64 (t21+1)) a2 b3 r4_0))))))
 (cK 182 [a2,b3] fun Y5 =>
 cK 181 [D.int ((qA Y5).toInt),a2.fld 1,D.sl cells6] fun Y6 =>
 .ret [qA Y6]):=by kernel_rfl
theorem Afd(n:Nat)(a0 b1:D):fA Wm n 107 [] [a0,b1] =
 cK 152 [b1.fld 2] fun Y1 =>
 kK (0≤(((a0.fld 2).els).length:Int)) (kK ((((a0.fld 2).els).length:Int)≤(((a0.fld 2).els).length:Int)) (kK ((((a0.fld 2).els).length:Int)≤Am) (Pl n n (qA Y1) (Apc (Apa (((a0.fld 2).els).length:Int)) (D.agg [D.int 0,D.int 0,D.agg [D.bool false,D.sl [],D.sl []],D.int 0,D.sl []])) (a0.fld 2) (((a0.fld 2).els).length:Int) 0 a0 b1 0))):=by kernel_rfl
theorem Afg(n:Nat)(a0 b1:D):fA [] n 108 [] [a0,b1] =
 bK (1<(((a0.fld 1).els).length:Int)) (.ret [D.agg [D.int 0,D.sl [],D.sl []],D.int 5])
 (bK (1<(((b1.fld 1).els).length:Int)) (.ret [D.agg [D.int 0,D.sl [],D.sl []],D.int 5])
 (cK 185 [b1.fld 2,a0.fld 2,D.bool false] fun Y1 =>
 bK (2048<(Aom .i64 ((((a0.fld 2).els).length:Int)+(((qA Y1).els).length:Int)))) (.ret [D.agg [D.int 0,D.sl [],D.sl []],D.int 7])
 (kK (0≤0) (kK (0≤Aom .i64 ((((a0.fld 2).els).length:Int)+(((qA Y1).els).length:Int))) (kK (Aom .i64 ((((a0.fld 2).els).length:Int)+(((qA Y1).els).length:Int))≤Am) (kK ((Apc (Apa 0) (D.agg [D.int 0,D.int 0,D.agg [D.bool false,D.sl [],D.sl []],D.int 0,D.sl []])).length+((a0.fld 2).els).length≤Am) (kK (((Apc (Apa 0) (D.agg [D.int 0,D.int 0,D.agg [D.bool false,D.sl [],D.sl []],D.int 0,D.sl []]))++((a0.fld 2).els)).length+((qA Y1).els).length≤Am) (cK 149 [D.sl (((Apc (Apa 0) (D.agg [D.int 0,D.int 0,D.agg [D.bool false,D.sl [],D.sl []],D.int 0,D.sl []]))++((a0.fld 2).els))++((qA Y1).els))] fun Y2 =>
 cK 182 [a0,b1] fun Y3 =>
 cK 90 [qA Y2,D.int ((qA Y3).toInt)] fun Y4 =>
 .ret [qA Y4,D.int 0])))))))):=by kernel_rfl
theorem Afe(n:Nat)(a0 b1 in2:D):fA [] n 109 [] [a0,b1,in2] =
 bK (1<(((a0.fld 1).els).length:Int)) (.ret [D.agg [D.int 0,D.sl [],D.sl []],D.int 5])
 (cK 185 [a0.fld 2,b1.fld 2,D.bool in2.toBool] fun Y1 =>
 cK 149 [qA Y1] fun Y2 =>
 cK 182 [a0,b1] fun Y3 =>
 cK 90 [qA Y2,D.int ((qA Y3).toInt)] fun Y4 =>
 .ret [qA Y4,D.int 0]):=by kernel_rfl
theorem Afn(n:Nat)(l0 s1 cells2:D):fA [] n 181 [] [l0,s1,cells2] =
 kK (s1.els.length≤Am) (.ret [D.agg [D.int l0.toInt,D.sl s1.els,cells2]]):=by kernel_rfl
theorem Afj(n:Nat)(a0 b1:D):fA [] n 182 [] [a0,b1] =
 cK 84 [a0] fun Y1 =>
 cK 84 [b1] fun Y2 =>
 cK 83 [D.int ((qA Y1).toInt),D.int ((qA Y2).toInt)] fun Y3 =>
 .ret [D.int ((qA Y3).toInt)]:=by kernel_rfl
def Wt:List (Nat×Orc):=[(4,⟨[(2,none),(7,some 128),(8,none),(14,some 24),(15,none),(16,none)],[],[(.slot 8,1040,67)]⟩)]
noncomputable def R7(n m4:Nat)(in2:Bool)(place7:D)(r8:List D)(t14:D)(t15 t16:Int):Tree :=
 lA (eA Wt n 185 [1,1,1,0,1,0,0]) (An Wt 4) m4 ⟨(.undef:: .undef:: .b in2::uA 4++(.d 128 place7:: .row 1040::uA 5++(.d 24 t14:: .i .i64 t15:: .i .i64 t16::uA 15))),[(1040,.row 67 r8 true)],[1040],[],[]⟩
  (Ak 0 (Aq (jA Wt n 185 [1,1,1,1]) (rA 185 [24,24,4] [.tmp 6] [24])))
theorem RK(n m4:Nat)(in2:Bool)(place7_c0 place7_c1:D)(r8:List D)(t14:D)(t15 t16:Int):R7 n (m4+1) in2 (D.fn 216 [.ref 173,.ref 24] [place7_c0,place7_c1]) r8 t14 t15 t16 =
 bK (t16<t15) (kK (0≤t16) (kK (t16<(t14.els.length:Int)) (.call (D.fn 216 [.ref 173,.ref 24] [place7_c0,place7_c1]).fnId (D.fn 216 [.ref 173,.ref 24] [place7_c0,place7_c1]).fnCts ([t14.els.getD (Apa t16) D.nil]++(D.fn 216 [.ref 173,.ref 24] [place7_c0,place7_c1]).fnDs) fun Y2 =>
 .br ((decide (0≤((qA Y2).toInt)))==in2) (kK (r8.length + [t14.els.getD (Apa t16) D.nil].length≤Am) (R7 n m4 in2 (D.fn 216 [.ref 173,.ref 24] [place7_c0,place7_c1]) (r8++[t14.els.getD (Apa t16) D.nil]) t14 t15 (Aom .i64 (t16+1))))
 (R7 n m4 in2 (D.fn 216 [.ref 173,.ref 24] [place7_c0,place7_c1]) r8 t14 t15 (Aom .i64 (t16+1))))))
 (.ret [D.sl r8]):=by kernel_rfl
theorem Afo(n:Nat)(l0 others1 in2:D):fA Wt n 185 [] [l0,others1,in2] =
 cK 152 [others1] fun Y1 =>
 R7 n n in2.toBool (qA Y1) [] l0 (l0.els.length:Int) 0:=by kernel_rfl
def Dp:List (Nat×Orc):=[(5,⟨[(0,none),(3,none),(31,some 62),(32,none),(33,none)],[(3,true)],[]⟩),(10,⟨[(0,none),(3,none),(44,some 62),(45,none),(46,none)],[(3,true)],[]⟩),(15,⟨[(0,none),(56,some 65),(57,none),(58,none)],[],[]⟩),(18,⟨[(0,none),(10,none),(56,some 65),(57,none),(58,none),(63,some 23),(64,none),(65,none)],[(10,true)],[]⟩),(23,⟨[(0,none),(56,some 65),(57,none),(58,none),(75,some 24),(76,none),(77,none)],[],[]⟩)]
def Ns:List Nat:=[22,67]
def Nt:List ResultVar:=[.tmp 4]
noncomputable def Ws(n m15 m23:Nat)(k0:Int)(t56:D)(t57 t58:Int)(t75:D)(t76 t77:Int):Tree :=
 lA (eA Dp n 215 [1,1,1,1,1,0,1,0,0,1,1,0,0,1,1,1,0,0]) (An Dp 23) m23 ⟨(.i .u64 k0::uA 55++(.d 65 t56:: .i .i64 t57:: .i .i64 t58::uA 16++(.d 24 t75:: .i .i64 t76:: .i .i64 t77::uA 9))),[],[],[],[]⟩
  (Ak 8 (Ak 5 (Aq (jA Dp n 215 [1,1,1,1,1,0,1,0,0,1,1,1]) (Gb Tryz.prog md (An Dp 15) (fun s1=>lA (eA Dp n 215 [1,1,1,1,1,0,1,0,0]) (An Dp 15) m15 s1 (Ak 4 (Aq (jA Dp n 215 [1,1,1,1,1,1]) (rA 215 Ns Nt [22])))) (Ak 4 (Aq (jA Dp n 215 [1,1,1,1,1,1]) (rA 215 Ns Nt [22])))))))
noncomputable def Wr(n m15 m18:Nat)(k0:Int)(t56:D)(t57 t58:Int)(t63:D)(t64 t65:Int)(a10:D):Tree :=
 lA (eA Dp n 215 [1,1,1,1,1,0,1,0,0,1,1,0,0,1,0,1,0,0]) (An Dp 18) m18 ⟨(.i .u64 k0::uA 9++(.ptr 10 []::uA 45++(.d 65 t56:: .i .i64 t57:: .i .i64 t58::uA 4++(.d 23 t63:: .i .i64 t64:: .i .i64 t65::uA 21)))),[(10,.var 26 (.d 26 a10) true)],[10],[],[]⟩
  (Ak 6 (Aq (jA Dp n 215 [1,1,1,1,1,0,1,0,0,1,1,0,0,1,1]) (Ak 5 (Aq (jA Dp n 215 [1,1,1,1,1,0,1,0,0,1,1,1]) (Gb Tryz.prog md (An Dp 15) (fun s1=>lA (eA Dp n 215 [1,1,1,1,1,0,1,0,0]) (An Dp 15) m15 s1 (Ak 4 (Aq (jA Dp n 215 [1,1,1,1,1,1]) (rA 215 Ns Nt [22])))) (Ak 4 (Aq (jA Dp n 215 [1,1,1,1,1,1]) (rA 215 Ns Nt [22]))))))))
noncomputable def R6(n m15:Nat)(k0:Int)(t56:D)(t57 t58:Int):Tree :=
 lA (eA Dp n 215 [1,1,1,1,1,0,1,0,0]) (An Dp 15) m15 ⟨(.i .u64 k0::uA 55++(.d 65 t56:: .i .i64 t57:: .i .i64 t58::uA 28)),[],[],[],[]⟩
  (Ak 4 (Aq (jA Dp n 215 [1,1,1,1,1,1]) (rA 215 Ns Nt [22])))
noncomputable def R5(n m10:Nat)(k0:Int)(t44:D)(t45 t46:Int)(c3:D):Tree :=
 lA (eA Dp n 215 [1,1,1,1,0,1,0,0]) (An Dp 10) m10 ⟨(.i .u64 k0:: .undef:: .undef:: .ptr 3 []::uA 40++(.d 62 t44:: .i .i64 t45:: .i .i64 t46::uA 40)),[(3,.var 67 (.d 67 c3) true)],[3],[],[]⟩
  (Ak 2 (Aq (jA Dp n 215 [1,1,1,1,1]) (rA 215 Ns Nt [22])))
noncomputable def Pm(n m5:Nat)(k0:Int)(t31:D)(t32 t33:Int)(c3:D):Tree :=
 lA (eA Dp n 215 [1,1,1,0,1,0,0]) (An Dp 5) m5 ⟨(.i .u64 k0:: .undef:: .undef:: .ptr 3 []::uA 27++(.d 62 t31:: .i .i64 t32:: .i .i64 t33::uA 53)),[(3,.var 67 (.d 67 c3) true)],[3],[],[]⟩
  (Ak 0 (Aq (jA Dp n 215 [1,1,1,1]) (rA 215 Ns Nt [22])))
theorem RH(n m15 m23:Nat)(k0:Int)(t56:D)(t57 t58:Int)(t75:D)(t76 t77:Int):Ws n m15 (m23+1) k0 t56 t57 t58 t75 t76 t77 =
 bK (t77<t76) (kK (0≤t77) (kK (t77<(t75.els.length:Int)) (cK 215 [D.int k0,t75.els.getD (Apa t77) D.nil] fun Y7 =>
 Ws n m15 m23 ((qA Y7).toInt) t56 t57 t58 t75 t76 (Aom .i64 (t77+1)))))
 (R6 n m15 k0 t56 t57 (Aom .i64 (t58+1))):=by kernel_rfl
theorem RG(n m15 m18:Nat)(k0:Int)(t56:D)(t57 t58:Int)(t63:D)(t64 t65:Int)(a10:D):Wr n m15 (m18+1) k0 t56 t57 t58 t63 t64 t65 a10 =
 bK (t65<t64) (kK (0≤t65) (kK (t65<(t63.els.length:Int)) (cK 249 [D.int k0,D.int (Aom .u64 ((t63.els.getD (Apa t65) D.nil).toInt))] fun Y6 =>
 Wr n m15 m18 ((qA Y6).toInt) t56 t57 t58 t63 t64 (Aom .i64 (t65+1)) a10)))
 (Ws n m15 n k0 t56 t57 t58 (a10.fld 2) (((a10.fld 2).els).length:Int) 0):=by kernel_rfl
theorem RF(n m15:Nat)(k0:Int)(t56:D)(t57 t58:Int):R6 n (m15+1) k0 t56 t57 t58 =
 bK (t58<t57) (kK (0≤t58) (kK (t58<(t56.els.length:Int)) (Wr n m15 n k0 t56 t57 t58 ((t56.els.getD (Apa t58) D.nil).fld 1) ((((t56.els.getD (Apa t58) D.nil).fld 1).els).length:Int) 0 (t56.els.getD (Apa t58) D.nil))))
 (.ret [D.int k0]):=by kernel_rfl
theorem RE(n m10:Nat)(k0:Int)(t44:D)(t45 t46:Int)(c3:D):R5 n (m10+1) k0 t44 t45 t46 c3 =
 bK (t46<t45) (kK (0≤t46) (kK (t46<(t44.els.length:Int)) (cK 249 [D.int k0,D.int (Aom .u64 ((t44.els.getD (Apa t46) D.nil).toInt))] fun Y5 =>
 R5 n m10 ((qA Y5).toInt) t44 t45 (Aom .i64 (t46+1)) c3)))
 (R6 n n k0 (c3.fld 4) (((c3.fld 4).els).length:Int) 0):=by kernel_rfl
theorem RI(n m5:Nat)(k0:Int)(t31:D)(t32 t33:Int)(c3:D):Pm n (m5+1) k0 t31 t32 t33 c3 =
 bK (t33<t32) (kK (0≤t33) (kK (t33<(t31.els.length:Int)) (cK 249 [D.int k0,D.int (Aom .u64 ((t31.els.getD (Apa t33) D.nil).toInt))] fun Y4 =>
 Pm n m5 ((qA Y4).toInt) t31 t32 (Aom .i64 (t33+1)) c3)))
 (R5 n n k0 ((c3.fld 2).fld 2) ((((c3.fld 2).fld 2).els).length:Int) 0 c3):=by kernel_rfl
theorem Afl(n:Nat)(k0 c1:D):fA Dp n 215 [] [k0,c1] =
 cK 249 [D.int k0.toInt,D.int (Aom .u64 ((c1.fld 1).toInt))] fun Y1 =>
 cK 249 [D.int ((qA Y1).toInt),D.int (Aom .u64 ((c1.fld 3).toInt))] fun Y2 =>
 .br (((c1.fld 2).fld 0).toBool) (cK 249 [D.int ((qA Y2).toInt),D.int 1] fun Y3 =>
 Pm n n ((qA Y3).toInt) ((c1.fld 2).fld 1) ((((c1.fld 2).fld 1).els).length:Int) 0 c1)
 (Pm n n ((qA Y2).toInt) ((c1.fld 2).fld 1) ((((c1.fld 2).fld 1).els).length:Int) 0 c1):=by kernel_rfl
def Wq:List (Nat×Orc):=[(3,⟨[(2,none),(5,none),(13,some 23),(14,none),(15,none)],[(5,true)],[]⟩)]
noncomputable def Wp(n m3:Nat)(t2 t13:D)(t14 t15:Int)(alone5:D):Tree :=
 lA (eA Wq n 216 [1,1,0,1,0,0]) (An Wq 3) m3 ⟨(.undef:: .undef:: .at_ 24 t2:: .undef:: .undef:: .ptr 5 []::uA 7++(.d 23 t13:: .i .i64 t14:: .i .i64 t15::uA 12)),[(5,.var 26 (.d 26 alone5) true)],[5],[],[]⟩
  (Ak 0 (Aq (jA Wq n 216 [1,1,1]) (rA 216 [67] [.tmp 4] [3])))
theorem RD(n m3:Nat)(t2 t13:D)(t14 t15:Int)(alone5:D):Wp n (m3+1) t2 t13 t14 t15 alone5 =
 bK (t15<t14) (kK (0≤t15) (kK (t15<(t13.els.length:Int)) (kK (0≤(t13.els.getD (Apa t15) D.nil).toInt) (kK ((t13.els.getD (Apa t15) D.nil).toInt<(t2.els.length:Int)) (cK 178 [t2.els.getD (Apa ((t13.els.getD (Apa t15) D.nil).toInt)) D.nil] fun Y3 =>
 cK 179 [alone5,qA Y3] fun Y4 =>
 .br ((qA Y4).toBool) (.ret [D.int ((t13.els.getD (Apa t15) D.nil).toInt)])
 (Wp n m3 t2 t13 t14 (Aom .i64 (t15+1)) alone5))))))
 (.ret [D.int (-1)]):=by kernel_rfl
theorem Afk(n:Nat)(c0 c1 c2:D):fA Wq n 216 [.ref 173,.ref 24] [c0,c1,c2] =
 cK 178 [c0] fun Y1 =>
 cK 215 [D.int 0,c0] fun Y2 =>
 Wp n n c2.unref (D.sl ((c1.unref.grpI ((qA Y2).toInt)).map D.int)) (((c1.unref.grpI ((qA Y2).toInt)).map D.int).length:Int) 0 (qA Y1):=by kernel_rfl
theorem Afm(n:Nat)(k0 nn1:D):fA [] n 249 [] [k0,nn1] =
 kK (0≤29) (.ret [D.int (Br .xor .u64 (Aom .u64 ((Br .xor .u64 k0.toInt nn1.toInt)*11400714819323198485)) (Ap3 (Aom .u64 ((Br .xor .u64 k0.toInt nn1.toInt)*11400714819323198485)) (2 ^ (min (Apa 29) (Apl .u64)))))]):=by kernel_rfl
def wU(x:Int):Int:=Aom .u64 x
def F1(k n:Int):Int:=Br .xor .u64 (Aom .u64 ((Br .xor .u64 k n)*11400714819323198485)) (Ap3 (Aom .u64 ((Br .xor .u64 k n)*11400714819323198485)) (2 ^ (min (Apa 29) (Apl .u64))))
theorem P7(k n:Int):Sp 249 [.int k,.int n] [.int (F1 k n)]:=Af 0 (Afm _ _ _) (A0 (by decide) (Ac rfl))
def Jj(k:Int)(l:List Ar):Int:=l.foldl (fun k x=>F1 k (wU (x.toNat:Int))) k
def IT(k:Int)(l:List Int):Int:=l.foldl (fun k x=>F1 k (wU x)) k
mutual
def Cb:Int→CellF Arr→Int
 | k,⟨_,kd,n,c,inn⟩=>Su (Jj (Jj (if n.neg then F1 (F1 (F1 k (wU kd)) (wU c)) 1 else F1 (F1 k (wU kd)) (wU c)) n.top) n.bot) inn
def Su:Int→List Arr→Int
 | k,[]=>k
 | k,a::as_=>Su (F0 k a) as_
def F0:Int→Arr→Int
 | k,.mk _ sh cs=>Sv (IT k sh) cs
def Sv:Int→List (CellF Arr)→Int
 | k,[]=>k
 | k,c::cs=>Sv (Cb k c) cs
end
theorem UG : ∀ (as_:List Arr) (k:Int),Su k as_=as_.foldl F0 k
 | [],k=>by rw[Su];rfl
 | a::as_,k=>by rw[Su,UG as_];rfl
theorem UJ : ∀ (cs:List Cell) (k:Int),Sv k cs=cs.foldl Cb k
 | [],k=>by rw[Sv];rfl
 | c::cs,k=>by rw[Sv,UJ cs];rfl
theorem Xv(k:Int)(a:Arr):F0 k a=a.cells.foldl Cb (IT k a.shape):=by cases a;rw[F0,UJ];rfl
theorem P3(k:Int)(c:Cell):Cb k c=c.inn.foldl F0 (Jj (Jj (if c.n.neg then F1 (F1 (F1 k (wU c.kind)) (wU c.c)) 1 else F1 (F1 k (wU c.kind)) (wU c.c)) c.n.top) c.n.bot):=by cases c;rw[Cb,UG]
theorem Wz{α:Type}{f:Int→α→Int}{r:α→α} : ∀ {l:List α} {k:Int},(∀ x∈l,∀ k,f k (r x)=f k x)→(l.map r).foldl f k=l.foldl f k
 | [],_,_=>rfl
 | x::xs,k,h=>by
  simp only[Ap7,List.foldl_cons,h x (by simp)]
  exact Wz (fun y hy=>h y (List.mem_cons_of_mem _ hy))
theorem Ag9(g:Al→Al)(a:Arr) : ∀ k,F0 k (Ge g a)=F0 k a:=by
 induction a using Arr.ind with
 | h s sh cs IH =>
  intro k
  rw[Xv,Xv,Oi]
  simp only[Arr.cells_mk,Arr.shape_mk]
  refine Wz (fun c hc k=> ?_)
  rw[P3,P3,AX]
  exact Wz (fun x hx k=>IH c hc x hx k)
theorem UI(g:Al→Al)(c:Cell)(k:Int):Cb k (Ff g c)=Cb k c:=by
 rw[P3,P3,AX]
 exact Wz (fun x _ k=>Ag9 g x k)
noncomputable def Jq(x y:Cell):Bool:=Jd (Ff (fun _=>0) x) (Ff (fun _=>0) y)
theorem Ok{x y:Cell} : Jq x y=true↔Ff (fun _=>0) x=Ff (fun _=>0) y:=Nq
theorem AlF(x:Cell):Jq x x=true:=AeI _
theorem AlD(x y:Cell):Jq x y=Jq y x:=by
 cases h:Jq y x with
 | true=>exact Ok.2 (Ok.1 h).symm
 | false =>
  cases h2:Jq x y with
  | false=>rfl
  | true=>rw[Ok.2 (Ok.1 h2).symm]at h;cases h
theorem AlE{x y:Cell}(h:Jq x y=true)(k:Int):Cb k x=Cb k y:=by
 rw[← UI (fun _=>0) x,← UI (fun _=>0) y,Ok.1 h]
theorem AgB(x y:Cell):Xw (Fd x) (Fd y)=Jq x y:=by
 cases h:Jq x y with
 | true=>exact Mf.2 (by unfold We Fd;rw[Oi,Oi];simp only[Arr.cells_mk,Arr.s_mk,Arr.shape_mk,Ap7,List.map_nil,Ok.1 h])
 | false =>
  cases h2:Xw (Fd x) (Fd y) with
  | false=>rfl
  | true =>
   have:=Mf.1 h2
   unfold We Fd at this
   rw[Oi,Oi,U9]at this
   have h3:=this.2.2
   simp only[Arr.cells_mk,Ap7,List.map_nil,List.cons.injEq,and_true]at h3
   rw[Ok.2 h3]at h;cases h
noncomputable def D7:List Cell→Cell→Nat→Int
 | [],_,_=> -1
 | x::xs,c,k=>if Jq x c then (k:Int) else D7 xs c (k+1)
theorem XO : ∀ (l:List Cell) (c:Cell) (k:Nat),D7 l c k = -1∨((k:Int)≤D7 l c k∧D7 l c k<(k+l.length:Nat))
 | [],c,k=> .inl rfl
 | x::xs,c,k=>by
  simp only[D7]
  split
  · right;simp only[Apg];omega
  · rcases XO xs c (k+1) with h | h
    · exact .inl h
    · right;simp only[Apg];omega
def D0:List Cell→Int→Nat→List Int
 | [],_,_=>[]
 | x::xs,n,k=>if Cb 0 x=n then (k:Int)::D0 xs n (k+1) else D0 xs n (k+1)
theorem SN : ∀ (l:List Cell) (n:Int) (k:Nat),(∀ j∈D0 l n k,(k:Int)≤j∧j<(k+l.length:Nat))∧(D0 l n k).length≤l.length
 | [],n,k=>by simp[D0]
 | x::xs,n,k=>by
  obtain ⟨h1,h2⟩:=SN xs n (k+1)
  simp only[D0]
  split
  · refine ⟨fun j hj=> ?_,by simp only[Apg];omega⟩
    simp only[Apg]
    rcases Apt.1 hj with rfl | hj
    · omega
    · have:=h1 j hj;omega
  · refine ⟨fun j hj=> ?_,by simp only[Apg];omega⟩
    simp only[Apg]
    have:=h1 j hj;omega
noncomputable def Sb(l:List Cell)(c:Cell):List Int→Int
 | []=> -1
 | j::js=>if Jq c (l.getD j.toNat Cell.none) then j else Sb l c js
theorem RT(l:List Cell)(c:Cell) : ∀ (xs:List Cell) (k:Nat),l.drop k=xs→Sb l c (D0 xs (Cb 0 c) k)=D7 xs c k
 | [],k,_=>rfl
 | x::xs,k,h=>by
  obtain ⟨h1,h2,h3⟩:=B6 h
  have ih:=RT l c xs (k+1) h3
  have hg:l.getD k Cell.none=x:=by rw[Ape,h2];rfl
  simp only[D0,D7]
  by_cases hm:Cb 0 x=Cb 0 c
  · rw[if_pos hm]
    simp only[Sb,Apj,hg]
    rw[AlD c x,ih]
  · rw[if_neg hm,if_neg (fun hs=>hm (AlE hs 0)),ih]
theorem UK : ∀ (d:Nat) (c:Cell) (k:Int),SmlC d c→Sp 215 [.int k,dC c] [.int (Cb k c)]:=by
 suffices key : ∀ (d:Nat),(∀ e,d=e+1→∀ (c:Cell) (k:Int),SmlC e c→Sp 215 [.int k,dC c] [.int (Cb k c)])→∀ (c:Cell) (k:Int),SmlC d c→Sp 215 [.int k,dC c] [.int (Cb k c)] by
   intro d
   induction d with
   | zero=>exact key 0 (fun e he=>by omega)
   | succ d ih=>exact key (d+1) (fun e he=>by
          have:e=d:=by omega
          subst this;exact ih)
 intro d IH c k hc
 obtain ⟨c1,c2,c3,c4⟩:=hc
 rw[P3]
 have inn : ∀ k0:Int,Tw (R6 1048577 1048577 k0 (.sl (c.inn.map dA)) (c.inn.length:Int) 0) [.int (c.inn.foldl F0 k0)]:=by
   intro k0
   have key:=Ca c.inn (fun m k (s:Int)=>R6 1048577 m s (.sl (c.inn.map dA)) (c.inn.length:Int) (k:Int)) (fun rest s=>[.int (rest.foldl F0 s)]) (fun _ _=>True)
    (fun m k s hk _=>by
     simp only[RF]
     exact At (Ac rfl))
    (fun m k s x rest hdr _ ih=>by
     obtain ⟨h1,h2,h3⟩:=B6 hdr
     have hx:=c4 x (Aph h2)
     obtain ⟨e,rfl⟩:=hx.succ
     have hxs:=hx.1
     have hxc:=hx.2.1
     simp only[RF,Ai,Aw h2]
     refine Ad (Ad (Ad ?_))
     have key2:=Ca x.shape (fun m' j (s:Int)=>Wr 1048577 m m' s (.sl (c.inn.map dA)) (c.inn.length:Int) (k:Int) (dI x.shape) (x.shape.length:Int) (j:Int) (dA x)) (fun rest' s=>[.int (rest.foldl F0 (x.cells.foldl Cb (IT s rest')))]) (fun _ _=>True)
      (fun m' j s hj _=>by
       simp only[RG,Ai]
       refine At ?_
       have key3:=Ca x.cells (fun m'' i (s:Int)=>Ws 1048577 m m'' s (.sl (c.inn.map dA)) (c.inn.length:Int) (k:Int) (.sl (x.cells.map dC)) (x.cells.length:Int) (i:Int)) (fun rest'' s=>[.int (rest.foldl F0 (rest''.foldl Cb s))]) (fun _ _=>True)
        (fun m'' i s hi _=>by
         simp only[RH,Bh k]
         exact At (ih s trivial))
        (fun m'' i s y rest'' hdr'' _ ih''=>by
         obtain ⟨g1,g2,g3⟩:=B6 hdr''
         simp only[RH,Ai,Aw g2,Bh i]
         exact Ad (Ad (Ad (Aa (IH e rfl y s (hx.cell y (Aph g2))) (ih'' _ trivial)))))
        1048577 0 s (by omega) (by omega) trivial
       exact key3)
      (fun m' j s y rest' hdr' _ ih'=>by
       obtain ⟨g1,g2,g3⟩:=B6 hdr'
       simp only[RG,Ai,Aw g2,Bh j]
       exact Ad (Ad (Ad (Aa (P7 s (wU y)) (ih' _ trivial)))))
      1048577 0 s (by omega) (by omega) trivial
     rw[List.foldl_cons,Xv]
     exact key2)
    1048577 0 k0 (by omega) (by omega) trivial
   exact key
 have bot : ∀ k0:Int,Tw (R5 1048577 1048577 k0 (dL c.n.bot) (c.n.bot.length:Int) 0 (dC c)) [.int (c.inn.foldl F0 (Jj k0 c.n.bot))]:=by
   intro k0
   have key:=Ca c.n.bot (fun m k (s:Int)=>R5 1048577 m s (dL c.n.bot) (c.n.bot.length:Int) (k:Int) (dC c)) (fun rest s=>[.int (c.inn.foldl F0 (Jj s rest))]) (fun _ _=>True)
    (fun m k s hk _=>by
     simp only[RE,Ai]
     exact At (inn s))
    (fun m k s x rest hdr _ ih=>by
     obtain ⟨h1,h2,h3⟩:=B6 hdr
     simp only[RE,B3,Apd,Apj,Aw h2,En,Bh k]
     exact Ad (Ad (Ad (Aa (P7 s (wU (x.toNat:Int))) (ih _ trivial)))))
    1048577 0 k0 (by omega) (by omega) trivial
   exact key
 have top : ∀ k0:Int,Tw (Pm 1048577 1048577 k0 (dL c.n.top) (c.n.top.length:Int) 0 (dC c)) [.int (c.inn.foldl F0 (Jj (Jj k0 c.n.top) c.n.bot))]:=by
   intro k0
   have key:=Ca c.n.top (fun m k (s:Int)=>Pm 1048577 m s (dL c.n.top) (c.n.top.length:Int) (k:Int) (dC c)) (fun rest s=>[.int (c.inn.foldl F0 (Jj (Jj s rest) c.n.bot))]) (fun _ _=>True)
    (fun m k s hk _=>by
     simp only[RI,Ai]
     exact At (bot s))
    (fun m k s x rest hdr _ ih=>by
     obtain ⟨h1,h2,h3⟩:=B6 hdr
     simp only[RI,B3,Apd,Apj,Aw h2,En,Bh k]
     exact Ad (Ad (Ad (Aa (P7 s (wU (x.toNat:Int))) (ih _ trivial)))))
    1048577 0 k0 (by omega) (by omega) trivial
   exact key
 refine Af 1048577 (Afl _ _ _) ?_
 simp only[Ai]
 refine Aa (P7 k (wU c.kind)) ?_
 simp only[Ah,Ao]
 refine Aa (P7 (F1 k (wU c.kind)) (wU c.c)) ?_
 simp only[Ah,Ao]
 refine B7 (fun h=> ?_) (fun h=> ?_)
 · have hn:c.n.neg=true:=by simpa using h
   rw[if_pos hn]
   exact Aa (P7 _ 1) (top _)
 · have hn : ¬ c.n.neg=true:=by simpa using h
   rw[if_neg hn]
   exact top _
abbrev Nv(g:List (Int×List Int))(l:List Cell):D:=D.fn 216 [.ref 173,.ref 24] [.ref (.mp g),.ref (.sl (l.map dC))]
theorem Wu{d e:Nat}(g:List (Int×List Int))(l:List Cell)(c:Cell)(hg : ∀ n,Hw g n=D0 l n 0)(hc:SmlC d c)(hl : ∀ x∈l,SmlC e x)(hlen:l.length≤1048576):D_ Tryz.prog md 216 [.ref 173,.ref 24] [dC c,.ref (.mp g),.ref (.sl (l.map dC))] [.int (D7 l c 0)]:=by
 refine Af 1048577 (Afk _ _ _ _) (Aa (Rl c hc) (Aa (UK d c 0 hc) ?_))
 have hgm:(D.mp g).grpI (Cb 0 c)=D0 l (Cb 0 c) 0:=hg _
 simp only[DJ,Ah,Ao,hgm]
 have hr:=SN l (Cb 0 c) 0
 have hp:=RT l c l 0 rfl
 generalize D0 l (Cb 0 c) 0=js at *
 have key:=Ca js (fun m k (_:Unit)=>Wp 1048577 m (.sl (l.map dC)) (.sl (js.map D.int)) (((js.map D.int).length:Nat):Int) (k:Int) (dA (Fd c))) (fun rest _=>[.int (Sb l c rest)]) (fun _ _=>True)
  (fun m k s hk _=>by
   simp only[RD,Apd]
   exact At (Ac rfl))
  (fun m k s j rest hdr _ ih=>by
   obtain ⟨h1,h2,h3⟩:=B6 hdr
   have hj:=hr.1 j (Aph h2)
   obtain ⟨J,rfl⟩ : ∃ J:Nat,j=(J:Int):=⟨j.toNat,by omega⟩
   have hJ:J<l.length:=by omega
   have hcell:(l.map dC).getD J D.nil=dC (l.getD J Cell.none):=by
    rw[Aw (Apb hJ),Ape,Apb hJ];rfl
   have hmem:l.getD J Cell.none∈l:=by
    rw[Ape,Apb hJ];exact Aqc hJ
   simp only[RD,Ai,Aw h2,hcell,Bh k]
   have hm:=OG (d:=d+1) (Fd c) (Fd (l.getD J Cell.none)) (Sml.of (by simp[Fd]) (by simp[Fd]) (by simp[Fd]) (fun x hx=>by simp[Fd]at hx;subst hx;exact hc))
   rw[AgB]at hm
   refine Ad (Ad (Ad (Ad (Ad (Aa (Rl _ (hl _ hmem)) (Aa hm ?_))))))
   simp only[Ah,Ba,Sb,Apj]
   refine B7 (fun h=>Ac (by rw[if_pos h])) (fun h=> ?_)
   rw[if_neg (by rw[h];decide)]
   have:=ih () trivial
   simp only[Apd]at this
   exact this)
  1048577 0 () (by omega) (by omega) trivial
 rw[List.drop_zero,hp]at key
 exact key
def Nd:Prop:=∀ (e:Nat) (l:List Cell),(∀ x∈l,SmlC e x)→l.length≤2048→∃ g,(∀ n,Hw g n=D0 l n 0)∧Sp 152 [.sl (l.map dC)] [Nv g l]
def Eu(a b:Arr):Al:=Au a|||Au b
theorem XN{l:List Cell}{c:Cell}(h:l.length≤2048) : -1≤D7 l c 0∧D7 l c 0<(l.length:Int):=by
 have:=XO l c 0
 omega
noncomputable def Ip(l:List Cell)(c:Cell):Cell:=Bf (if D7 l c 0<0 then (l.length:Int)+1 else D7 l c 0+1)
noncomputable def Kd(a b:Arr):Arr×Int:=if a.shape.length=1 then (.mk (Eu a b) b.shape (b.cells.map (Ip a.cells)),0) else (.none,5)
noncomputable def Kh(l:List Cell)(c:Cell):Cell:=Bf (if 0≤D7 l c 0 then 1 else 0)
noncomputable def P6(a b:Arr):Arr:= .mk (Eu a b) a.shape (a.cells.map (Kh b.cells))
noncomputable def I4(l:List Cell):List Cell→Nat→List Cell
 | [],_=>[]
 | c::cs,k=>if D7 (l.take k) c 0<0 then c::I4 l cs (k+1) else I4 l cs (k+1)
def Kg(s:Al)(l:List Cell):Arr:= .mk s [(l.length:Int)] l
noncomputable def K1(a:Arr):Arr×Int:=if 1<a.shape.length then (.none,5) else (Kg (Au a) (I4 a.cells a.cells 0),0)
noncomputable def Hi(l others:List Cell)(in_:Bool):List Cell:=l.filter (fun c=>decide (0≤D7 others c 0)==in_)
noncomputable def Jr(a b:Arr)(in_:Bool):Arr×Int:=if 1<a.shape.length then (.none,5) else (Kg (Eu a b) (Hi a.cells b.cells in_),0)
noncomputable def K0(a b:Arr):Arr×Int:=if 1<a.shape.length then (.none,5) else if 1<b.shape.length then (.none,5) else if 2048<a.cells.length+(Hi b.cells a.cells false).length then (.none,7) else (Kg (Eu a b) (a.cells++Hi b.cells a.cells false),0)
def H_(k:Nat):List Int:=(Ap8 k).map (fun (i:Nat)=>(i:Int)+1)
def Gn(n:Arr):Arr×Int:=if (A9 n).2=0 then (match (A9 n).1 with
 | [k]=>if k<0 then (.none,3) else if 2048<k then (.none,7) else (Db (H_ k.toNat) (Au n),0)
 | _=>(.none,4)) else (.none,(A9 n).2)
theorem KI(l:List Cell)(s:Al):C2 (K2 l) s=Kg s l:=by simp[C2,K2,Kg]
theorem LS{α:Type}{f:α→D}{z:D}(pre:List α)(x:α)(k:Nat){i:Nat}(hi:i=pre.length):((pre.map f)++Apc (k+1) z).set i (f x)=((pre++[x]).map f)++Apc k z:=by
 subst hi;exact M6 pre x k
theorem Wo(a b:Arr)(ha:Fits a)(hb:Fits b):Sp 182 [dA a,dA b] [dB (Eu a b)]:=by
 refine Af 0 (Afj _ _ _) (Aa (Fi a ha) (Aa (Fi b hb) ?_))
 simp only[Ai]
 exact Aa (Ha _ _) (Ac rfl)
theorem RJ(s:Al)(sh:List Int)(cs:List Cell)(h:sh.length≤1048576):Sp 181 [dB s,dI sh,.sl (cs.map dC)] [dA (.mk s sh cs)]:=by
 refine Af 0 (Afn _ _ _ _) (A0 (by simp only[Ch,Apd,Am];omega) (Ac ?_))
 rw[D5];rfl
theorem AeY(hF:Nd){d:Nat}(a b:Arr)(ha:Sml (d+1) a)(hb:Sml (d+1) b)(la:a.cells.length≤2048)(lb:b.cells.length≤2048):Sp 106 [dA a,dA b] [dA (Kd a b).1,.int (Kd a b).2]:=by
 refine Af 4096 (AeZ _ _ _) ?_
 unfold Kd
 simp only[Ai,C8,Hq]
 refine Ae (fun h=>Ac (by rw[if_neg (by omega)])) (fun h=> ?_)
 rw[if_pos (by omega)]
 obtain ⟨g,hg,hsp⟩:=hF d a.cells ha.cell la
 refine Aa hsp (Ad (Ad (A0 (by simp only[Am];omega) ?_)))
 have key:=Ca b.cells (fun m k (cs:List D)=>Pk 4096 m (Nv g a.cells) cs (.sl (b.cells.map dC)) (b.cells.length:Int) (k:Int) (dA a) (dA b) 0 0) (fun _ _=>[dA (.mk (Eu a b) b.shape (b.cells.map (Ip a.cells))),.int 0])
  (fun rest cs=>∃ pre:List Cell,b.cells=pre++rest∧cs=(pre.map (Ip a.cells)).map dC++Apc rest.length (dC Cell.none))
  (fun m k cs hk hI=>by
   obtain ⟨pre,h1,rfl⟩:=hI
   rw[Apx]at h1
   simp only[QY,Ai]
   refine At (Aa (Wo a b ha.fits hb.fits) ?_)
   simp only[Ai,Apv,List.replicate_zero,Apx]
   exact Aa (RJ (Eu a b) b.shape _ hb.1) (Ac (by rw[h1];rfl)))
  (fun m k cs c rest hdr hI ih=>by
   obtain ⟨h1,h2,h3⟩:=B6 hdr
   obtain ⟨pre,hp,rfl⟩:=hI
   have hk:k=(pre.map (Ip a.cells)).length:=by
     have:=congrArg Aql hdr
     rw[hp]at this h1
     simp at this h1 ⊢; omega
   have hcl:((pre.map (Ip a.cells)).map dC++Apc (rest.length+1) (dC Cell.none)).length=b.cells.length:=by rw[hp];simp
   have hpl:=XN (c:=c) la
   have nxt:Tw (Pk 4096 m (Nv g a.cells) (((pre.map (Ip a.cells)).map dC++Apc (rest.length+1) (dC Cell.none)).set k (dC (Ip a.cells c))) (.sl (b.cells.map dC)) (b.cells.length:Int) ((k+1:Nat):Int) (dA a) (dA b) 0 0) [dA (.mk (Eu a b) b.shape (b.cells.map (Ip a.cells))),.int 0]:=by
     rw[LS (f:=dC) (z:=dC Cell.none) _ _ _ hk]
     exact ih _ ⟨pre++[c],by rw[hp];simp,by simp⟩
   simp only[QY,Ai,Aw h2,Bh k,Hu,Hs,Ht,List.singleton_append,Apg,hcl]
   refine Ad (Ad (Ad (Aa (Wu g a.cells c hg (hb.cell c (Aph h2)) ha.cell (by omega)) ?_)))
   simp only[Ah,Ao]
   refine Ae (fun hlt=> ?_) (fun hlt=> ?_)
   · have w1:Aom .i64 ((a.cells.length:Int)+1)=(a.cells.length:Int)+1:=Ax (by omega) (by omega)
     have e1:Ip a.cells c=Bf ((a.cells.length:Int)+1):=by unfold Ip;rw[if_pos hlt]
     rw[w1]
     rw[e1]at nxt
     refine Aa (I7 _ (Dk (by omega) (by omega))) (Ad (Ad nxt))
   · have w1:Aom .i64 (D7 a.cells c 0+1)=D7 a.cells c 0+1:=Ax (by omega) (by omega)
     have e1:Ip a.cells c=Bf (D7 a.cells c 0+1):=by unfold Ip;rw[if_neg hlt]
     rw[w1]
     rw[e1]at nxt
     exact Aa (I7 _ (Dk (by omega) (by omega))) (Ad (Ad nxt)))
  4096 0 (Apc b.cells.length (dC Cell.none)) (by omega) (by omega) ⟨[],by simp,by simp⟩
 exact key
theorem Afc(hF:Nd){d:Nat}(a b:Arr)(ha:Sml (d+1) a)(hb:Sml (d+1) b)(la:a.cells.length≤2048)(lb:b.cells.length≤2048):Sp 107 [dA a,dA b] [dA (P6 a b)]:=by
 refine Af 4096 (Afd _ _ _) ?_
 simp only[Ai,C8,Hq]
 obtain ⟨g,hg,hsp⟩:=hF d b.cells hb.cell lb
 refine Aa hsp (Ad (Ad (A0 (by simp only[Am];omega) ?_)))
 have key:=Ca a.cells (fun m k (cs:List D)=>Pl 4096 m (Nv g b.cells) cs (.sl (a.cells.map dC)) (a.cells.length:Int) (k:Int) (dA a) (dA b) 0) (fun _ _=>[dA (P6 a b)])
  (fun rest cs=>∃ pre:List Cell,a.cells=pre++rest∧cs=(pre.map (Kh b.cells)).map dC++Apc rest.length (dC Cell.none))
  (fun m k cs hk hI=>by
   obtain ⟨pre,h1,rfl⟩:=hI
   rw[Apx]at h1
   simp only[RA,Ai]
   refine At (Aa (Wo a b ha.fits hb.fits) ?_)
   simp only[Ai,Apv,List.replicate_zero,Apx]
   exact Aa (RJ (Eu a b) a.shape _ ha.1) (Ac (by unfold P6;rw[h1];rfl)))
  (fun m k cs c rest hdr hI ih=>by
   obtain ⟨h1,h2,h3⟩:=B6 hdr
   obtain ⟨pre,hp,rfl⟩:=hI
   have hk:k=(pre.map (Kh b.cells)).length:=by
     have:=congrArg Aql hdr
     rw[hp]at this h1
     simp at this h1 ⊢; omega
   have hcl:((pre.map (Kh b.cells)).map dC++Apc (rest.length+1) (dC Cell.none)).length=a.cells.length:=by rw[hp];simp
   have nxt:Tw (Pl 4096 m (Nv g b.cells) (((pre.map (Kh b.cells)).map dC++Apc (rest.length+1) (dC Cell.none)).set k (dC (Kh b.cells c))) (.sl (a.cells.map dC)) (a.cells.length:Int) ((k+1:Nat):Int) (dA a) (dA b) 0) [dA (P6 a b)]:=by
     rw[LS (f:=dC) (z:=dC Cell.none) _ _ _ hk]
     exact ih _ ⟨pre++[c],by rw[hp];simp,by simp⟩
   simp only[RA,Ai,Aw h2,Bh k,Hu,Hs,Ht,List.singleton_append,Apg,hcl]
   refine Ad (Ad (Ad (Aa (Wu g b.cells c hg (ha.cell c (Aph h2)) hb.cell (by omega)) ?_)))
   simp only[Ah,Ao]
   refine Ae (fun hlt=> ?_) (fun hlt=> ?_)
   · have e1:Kh b.cells c=Bf 1:=by unfold Kh;rw[if_pos hlt]
     rw[e1]at nxt
     exact Aa (I7 _ (Dk (by omega) (by omega))) (Ad (Ad nxt))
   · have e1:Kh b.cells c=Bf 0:=by unfold Kh;rw[if_neg hlt]
     rw[e1]at nxt
     exact Aa (I7 _ (Dk (by omega) (by omega))) (Ad (Ad nxt)))
  4096 0 (Apc a.cells.length (dC Cell.none)) (by omega) (by omega) ⟨[],by simp,by simp⟩
 exact key
theorem XP : ∀ (l:List Cell) (c:Cell) (k i:Nat),l[i]? = some c→(D7 l c k=((k+i:Nat):Int)↔D7 (l.take i) c k<0)
 | [],c,k,i,h=>by simp at h
 | x::xs,c,k,0,h=>by
  simp at h
  subst h
  simp[D7,AlF]
 | x::xs,c,k,i+1,h=>by
  simp only[List.take_succ_cons,D7]
  have ih:=XP xs c (k+1) i (by simpa using h)
  split
  · constructor <;> intro hh <;> omega
  · rw[← ih,show k+1+i=k+(i+1) by omega]
theorem MY : ∀ {l cs:List Cell} {k:Nat},∀ c∈I4 l cs k,c∈cs
 | l,[],k,c,h=>by simp[I4]at h
 | l,x::xs,k,c,h=>by
  simp only[I4]at h
  split at h
  · rcases Apt.1 h with rfl | h
    · simp
    · exact List.mem_cons_of_mem _ (MY c h)
  · exact List.mem_cons_of_mem _ (MY c h)
theorem MX : ∀ {l cs:List Cell} {k:Nat},(I4 l cs k).length≤cs.length
 | l,[],k=>by simp[I4]
 | l,x::xs,k=>by
  simp only[I4]
  split
  · simp only[Apg];have:=MX (l:=l) (cs:=xs) (k:=k+1);omega
  · simp only[Apg];have:=MX (l:=l) (cs:=xs) (k:=k+1);omega
theorem MD{d:Nat}{l:List Cell}(h : ∀ c∈l,SmlC d c)(hl:l.length≤100000){s:Al} : Sml (d+1) (Kg s l):=Sml.of (by simp[Kg]) (by simp only[Kg,Arr.cells_mk];omega) (fun x hx=>by simp[Kg]at hx;subst hx;exact Dk (by omega) (by omega)) h
theorem Afh(hF:Nd){d:Nat}(a:Arr)(ha:Sml (d+1) a)(la:a.cells.length≤2048):Sp 67 [dA a] [dA (K1 a).1,.int (K1 a).2]:=by
 refine Af 4096 (Afi _ _) ?_
 unfold K1
 simp only[Ai,C8,Hq]
 refine Ae (fun h=>Ac (by rw[if_pos (by omega)])) (fun h=> ?_)
 rw[if_neg (by omega)]
 obtain ⟨g,hg,hsp⟩:=hF d a.cells ha.cell la
 refine Aa hsp ?_
 have key:=Ca a.cells (fun m k (out:List Cell)=>R4 4096 m (Nv g a.cells) (out.map dC) (.sl (a.cells.map dC)) (a.cells.length:Int) (k:Int) (dA a) 0 0) (fun rest out=>[dA (Kg (Au a) (out++I4 a.cells rest (a.cells.length-rest.length))),.int 0])
  (fun rest out=>out.length+rest.length≤2048∧∀ c∈out,SmlC d c)
  (fun m k out hk hI=>by
   simp only[RC,Ai]
   refine At (Aa (O4 out hI.2 (by have:=hI.1;omega)) (Aa (Fi a ha.fits) ?_))
   simp only[Ai]
   refine Aa (Gz (K2 out) (Au a)) (Ac ?_)
   simp only[I4,Apx,Ah]
   rw[KI])
  (fun m k out c rest hdr hI ih=>by
   obtain ⟨h1,h2,h3⟩:=B6 hdr
   have hle:=congrArg Aql hdr
   rw[App,Apg]at hle
   have hk:a.cells.length-(c::rest).length=k:=by rw[Apg];omega
   have hk':a.cells.length-rest.length=k+1:=by omega
   have hcm:=Aph h2
   have hpt:=XP a.cells c 0 k h2
   rw[Aqo]at hpt
   have hI1:=hI.1
   rw[Apg]at hI1
   simp only[RC,Ai,Aw h2,Bh k,Hu,Hs,Ht,List.singleton_append]
   refine Ad (Ad (Ad (Aa (Wu g a.cells c hg (ha.cell c hcm) ha.cell (by omega)) ?_)))
   simp only[Ah,Ao,hk,I4]
   refine Ae (fun he=>A0 (by simp only[Apg,Apv,Am];omega) ?_) (fun he=> ?_)
   · have:=ih (out++[c]) ⟨by simp;omega,fun x hx=>by rcases Aqh.1 hx with hx | hx;exact hI.2 x hx;simp at hx;subst hx;exact ha.cell _ hcm⟩
     rw[List.map_append,hk']at this
     rw[if_pos (hpt.1 he)]
     refine Tree.wp_mono this (fun ys hy=>hy.trans ?_)
     simp
   · have:=ih out ⟨by omega,hI.2⟩
     rw[hk']at this
     rw[if_neg (fun hh=>he (hpt.2 hh))]
     exact this)
  4096 0 [] (by omega) (by omega) ⟨by simpa using la,by simp⟩
 simpa using key
theorem CY{l o:List Cell}{i:Bool} : ∀ c∈Hi l o i,c∈l:=fun c h=>(List.mem_filter.1 h).1
theorem ML{l o:List Cell}{i:Bool} : (Hi l o i).length≤l.length:=List.length_filter_le _ _
theorem Anx{l o:List Cell}{c:Cell}{i:Bool}(h:(decide (0≤D7 o c 0)==i)=true):Hi (c::l) o i=c::Hi l o i:=List.filter_cons_of_pos h
theorem Anw{l o:List Cell}{c:Cell}{i:Bool}(h:(decide (0≤D7 o c 0)==i)=false):Hi (c::l) o i=Hi l o i:=List.filter_cons_of_neg (by rw[h];decide)
theorem RL(hF:Nd){d e:Nat}(l o:List Cell)(in_:Bool)(hl : ∀ x∈l,SmlC d x)(ho : ∀ x∈o,SmlC e x)(ll:l.length≤2048)(lo:o.length≤2048):Sp 185 [.sl (l.map dC),.sl (o.map dC),.bool in_] [.sl ((Hi l o in_).map dC)]:=by
 refine Af 4096 (Afo _ _ _ _) ?_
 simp only[Ai]
 obtain ⟨g,hg,hsp⟩:=hF e o ho lo
 refine Aa hsp ?_
 have key:=Ca l (fun m k (out:List Cell)=>R7 4096 m in_ (Nv g o) (out.map dC) (.sl (l.map dC)) (l.length:Int) (k:Int)) (fun rest out=>[.sl ((out++Hi rest o in_).map dC)]) (fun rest out=>out.length+rest.length≤2048)
  (fun m k out hk hI=>by
   simp only[RK]
   exact At (Ac (by simp[Hi])))
  (fun m k out c rest hdr hI ih=>by
   obtain ⟨h1,h2,h3⟩:=B6 hdr
   rw[Apg]at hI
   simp only[RK,Ai,Aw h2,Bh k,Hu,Hs,Ht,List.singleton_append]
   refine Ad (Ad (Ad (Aa (Wu g o c hg (hl c (Aph h2)) ho (by omega)) ?_)))
   simp only[Ah,Ao]
   refine B7 (fun hb=>A0 (by simp only[Apg,Apv,Am];omega) ?_) (fun hb=> ?_)
   · have:=ih (out++[c]) (by simp;omega)
     rw[List.map_append]at this
     refine Tree.wp_mono this (fun ys hy=>hy.trans ?_)
     rw[Anx hb]
     simp
   · have:=ih out (by omega)
     refine Tree.wp_mono this (fun ys hy=>hy.trans ?_)
     rw[Anw hb])
  4096 0 [] (by omega) (by omega) (by simpa using ll)
 simpa using key
theorem RB(hF:Nd){d e:Nat}(a b:Arr)(in_:Bool)(ha:Sml (d+1) a)(hb:Sml (e+1) b)(la:a.cells.length≤2048)(lb:b.cells.length≤2048):Sp 109 [dA a,dA b,.bool in_] [dA (Jr a b in_).1,.int (Jr a b in_).2]:=by
 refine Af 0 (Afe _ _ _ _) ?_
 unfold Jr
 simp only[Ai,C8]
 refine Ae (fun h=>Ac (by rw[if_pos (by omega)])) (fun h=> ?_)
 rw[if_neg (by omega)]
 have hs:=ML (l:=a.cells) (o:=b.cells) (i:=in_)
 refine Aa (RL hF a.cells b.cells in_ ha.cell hb.cell la lb) (Aa (O4 _ (fun c hc=>ha.cell c (CY c hc)) (by omega)) (Aa (Wo a b ha.fits hb.fits) ?_))
 simp only[Ai]
 refine Aa (Gz _ (Eu a b)) (Ac ?_)
 rw[Ah,KI]
theorem Aff(hF:Nd){d:Nat}(a b:Arr)(ha:Sml (d+1) a)(hb:Sml (d+1) b)(la:a.cells.length≤2048)(lb:b.cells.length≤2048):Sp 108 [dA a,dA b] [dA (K0 a b).1,.int (K0 a b).2]:=by
 refine Af 0 (Afg _ _ _) ?_
 unfold K0
 simp only[Ai,C8,Hq,List.replicate_zero,Aqp,Apv]
 refine Ae (fun h=>Ac (by rw[if_pos (by omega)])) (fun h=> ?_)
 rw[if_neg (by omega)]
 refine Ae (fun h=>Ac (by rw[if_pos (by omega)])) (fun h=> ?_)
 rw[if_neg (by omega)]
 have hs:=ML (l:=b.cells) (o:=a.cells) (i:=false)
 refine Aa (RL hF b.cells a.cells false hb.cell ha.cell lb la) ?_
 simp only[Ai]
 have w1:Aom .i64 ((a.cells.length:Int)+((Hi b.cells a.cells false).length:Int))=(a.cells.length:Int)+((Hi b.cells a.cells false).length:Int):=Ax (by omega) (by omega)
 simp only[w1]
 refine Ae (fun h=>Ac (by rw[if_pos (by omega)])) (fun h=> ?_)
 rw[if_neg (by omega)]
 refine Ad (Ad (A0 (by simp only[Am];omega) (A0 (by simp only[Am];omega) (A0 (by simp only[Apd,Am];omega) ?_))))
 rw[← List.map_append]
 refine Aa (O4 _ (fun c hc=>by
  rcases Aqh.1 hc with hc | hc
  · exact ha.cell c hc
  · exact hb.cell c (CY c hc)) (by rw[Apn];omega)) (Aa (Wo a b ha.fits hb.fits) ?_)
 simp only[Ai]
 refine Aa (Gz _ (Eu a b)) (Ac ?_)
 rw[Ah,KI]
theorem Aoe(k:Nat):H_ (k+1)=H_ k++[(k:Int)+1]:=by simp[H_,List.range_succ]
theorem DK(k:Nat):(H_ k).length=k:=by simp[H_]
theorem Acv{k:Nat}(h:k≤2048) : ∀ x∈H_ k,Bd x:=fun x hx=>by
 simp only[H_,List.mem_map,List.mem_range]at hx
 obtain ⟨i,hi,rfl⟩:=hx
 exact Dk (by omega) (by omega)
theorem Ajv(l:List Int)(s:Al):C2 (K2 (l.map Bf)) s=Db l s:=by simp[C2,K2,Db]
theorem AfL{n:Arr}(h : ¬ (A9 n).1.length=1)(h0:(A9 n).2=0):Gn n=(.none,4):=by
 unfold Gn
 rw[if_pos h0]
 split
 · rename_i k hk;rw[hk]at h;exact absurd rfl h
 · rfl
theorem Afa(n:Arr)(hn:Fits n)(hnl:n.cells.length≤2048)(hnt : ∀ c∈n.cells,c.n.top.length≤32):Sp 65 [dA n] [dA (Gn n).1,.int (Gn n).2]:=by
 refine Af 4096 (Afb _ _) (Aa (K9 n hnl hnt) ?_)
 simp only[Ai,C8,Hq]
 refine Ae (fun h=>Ac (by unfold Gn;rw[if_neg h])) (fun h=> ?_)
 have h0:(A9 n).2=0:=Apm.1 h
 refine Ae (fun h1=>Ac (by rw[AfL (by omega) h0])) (fun h1=> ?_)
 obtain ⟨k,hk⟩:=Is (l:=(A9 n).1) (by omega)
 unfold Gn
 rw[if_pos h0,hk]
 simp only[Ap7,List.map_nil,Apg,Apv,Ah,Ao]
 refine Ad (Ad (Ae (fun h2=>Ac (by rw[if_pos h2])) (fun h2=> ?_)))
 rw[if_neg h2]
 refine Ad (Ad (Ae (fun h3=>Ac (by rw[if_pos h3])) (fun h3=> ?_)))
 rw[if_neg h3]
 refine Ad (Ad (Ad (Ad (A0 (by simp only[Am];omega) ?_))))
 obtain ⟨K,rfl⟩ : ∃ K:Nat,k=(K:Int):=⟨k.toNat,by omega⟩
 simp only[Apj,Aqg]
 have key:=Dl K (fun m k (cs:List D)=>Wk 4096 m cs (K:Int) (k:Int) (dA n) 0) (fun _ _=>[dA (Db (H_ K) (Au n)),.int 0])
  (fun k cs=>cs=((H_ k).map Bf).map dC++Apc (K-k) (dC Cell.none))
  (fun m cs hI=>by
   simp only[QZ]
   rw[hI,Nat.sub_self,List.replicate_zero,Apx]
   refine At (Aa (O4 (d:=0) _ (fun c hc=>by
    obtain ⟨z,hz,rfl⟩:=List.mem_map.1 hc
    exact Ku (Acv (by omega) z hz) 0) (by rw[Apd,DK];omega)) (Aa (Fi n hn) ?_))
   simp only[Ai]
   refine Aa (Gz _ (Au n)) (Ac ?_)
   rw[Ah,Ajv])
  (fun m k cs hkK hI ih=>by
   have hcl:cs.length=K:=by rw[hI];simp[DK];omega
   have w1:=Bh k
   simp only[QZ,hcl,w1,Apj]
   refine Ad (Aa (I7 _ (Dk (by omega) (by omega))) (Ad (Ad ?_)))
   refine ih _ ?_
   rw[hI,show K-k=(K-(k+1))+1 by omega,Ah,LS (f:=dC) (z:=dC Cell.none) ((H_ k).map Bf) (Bf ((k+1:Nat):Int)) (K-(k+1)) (by simp[DK]),Aoe]
   simp)
  4096 0 (Apc K (dC Cell.none)) (by omega) (by omega) (by simp[H_])
 exact key
open Go.RowKit Go.WideMaps Go.Maps Go.ChangeShapes
theorem SO : ∀ (l:List Cell) (c:Cell) (n:Int) (k:Nat),D0 (l++[c]) n k=D0 l n k++(if Cb 0 c=n then [((k+l.length:Nat):Int)] else [])
 | [],c,n,k=>by simp only[Aqp,D0,Apv,Nat.add_zero]
 | x::xs,c,n,k=>by
  simp only[List.cons_append,D0,Apg]
  rw[SO xs c n (k+1),show k+1+xs.length=k+(xs.length+1) by omega]
  split <;> simp
theorem IA : ∀ (l:List Cell) (n:Int) (k:Nat),(∀ c∈l,Cb 0 c≠n)→D0 l n k = []
 | [],_,_,_=>rfl
 | x::xs,n,k,h=>by
  simp only[D0]
  rw[if_neg (h x (by simp)),IA xs n (k+1) (fun c hc=>h c (by simp[hc]))]
def g0(l:List Cell):List (Int×List Int):=l.map (fun c=>(Cb 0 c,D0 l (Cb 0 c) 0))
theorem HN(l:List Cell)(n:Int):Hw (g0 l) n=D0 l n 0:=by
 have key : ∀ ms:List Cell,Hw (ms.map (fun c=>(Cb 0 c,D0 l (Cb 0 c) 0))) n=if (∃ c∈ms,Cb 0 c=n) then D0 l n 0 else []:=by
   intro ms
   induction ms with
   | nil=>simp[Hw]
   | cons x xs ih =>
    simp only[Ap7,Hw]
    by_cases h:Cb 0 x=n
    · rw[if_pos h,if_pos ⟨x,by simp,h⟩,h]
    · rw[if_neg h,ih]
      by_cases h2 : ∃ c∈xs,Cb 0 c=n
      · obtain ⟨c,hc,h3⟩:=h2
        rw[if_pos ⟨c,hc,h3⟩,if_pos ⟨c,by simp[hc],h3⟩]
      · rw[if_neg h2,if_neg (fun ⟨c,hc,h3⟩=>by
         rcases Apt.1 hc with rfl | hc
         · exact h h3
         · exact h2 ⟨c,hc,h3⟩)]
 have:=key l
 unfold g0
 rw[this]
 split
 · rfl
 · rename_i h
   exact (IA l n 0 (fun c hc he=>h ⟨c,hc,he⟩)).symm
def TD:DataW Unit→List (DataW Unit) | .slice es _=>es | _=>[]
theorem IS{q:IntKind}{a b:List Int}(h:(lits q a:List (DataW Unit))=lits q b):a=b:=by
 unfold lits at h
 exact (List.map_inj_right (fun x y hxy=>by simpa using hxy)).1 h
theorem Kz:Tryz.prog.underlying 22=some (.int .u64):=by kernel_rfl
theorem Q8:Tryz.prog.underlying 173=some (.map 22 23):=by kernel_rfl
theorem DG:Tryz.prog.underlying 23=some (.slice 3):=by kernel_rfl
theorem Sn:Keyed Tryz.prog 22:=int_keyed Kz
theorem EA(w:World):(zeroValue 23).run Tryz.prog w = .ok (.slice none 0 0) w:=by kernel_rfl
theorem II{n:Int}(h0:0≤n)(h1:n≤18446744073709551615):keyOf Tryz.prog 22 (.int .u64 n)=some (.int .u64 n):=by
 have hb:(Lit.int .u64 n).wf=true:=by
  unfold Lit.wf
  simp only[Api,decide_eq_true_eq]
  exact ⟨h0,h1⟩
 unfold keyOf
 rw[Kz]
 simp only[mapKey,Kz]
 simp[hb]
theorem TM{v:Value}{kl:Lit}(h:keyOf Tryz.prog 22 v=some kl) : ∃ n:Int,v = .int .u64 n∧0≤n∧n≤18446744073709551615∧kl = .int .u64 n:=by
 unfold keyOf at h
 rw[Kz]at h
 simp only[mapKey,Kz]at h
 cases v <;> simp only[reduceCtorEq]at h
 rename_i q n
 split at h
 · rename_i hc
   obtain ⟨rfl,hw⟩:=hc
   unfold Lit.wf at hw
   simp only[Api,decide_eq_true_eq]at hw
   injection h with h
   exact ⟨n,rfl,hw.1,hw.2,h.symm⟩
 · cases h
theorem Mi{w:World}{o:Obj}{b:Nat}{z:Obj}(h:w.heap[b]? = some z):(w.alloc o).heap[b]? = some z:=(heap_alloc_old w o (Aqa.1 h).1).trans h
structure FI (w:World) (l:List Cell) (A:Option Addr) (c k:Nat) (wr:World):Prop where
 groups : ∃ D,wr.ownsGroups (H:=Unit) Tryz.prog 22 (w.heap.size+3) 3 .i64 (w.heap.size+1) k D∧∀ n:Int,0≤n→n<18446744073709551616→TD (D.atKey (.int .u64 n) .nil)=lits .i64 (D0 (l.take k) n 0)
 below:Below w.heap.size w wr
 lbox:wr.heap[w.heap.size]? = some (.cells #[.slice A l.length c] 24 (0,0))
 mbox:wr.heap[w.heap.size+2]? = some (.cells #[.map (some (w.heap.size+1))] 173 (0,0))
 size:w.heap.size+3≤wr.heap.size
theorem IF{w:World}{base:Nat}{e:TypeId}{v:Value}{zs:List Int}(h:w.ownsInts base e .i64 v zs):TD (rowDatum .i64 v zs)=lits .i64 zs:=by
 rcases h.datum (H:=Unit) with ⟨h1,h2⟩ | h1
 · rw[h1,h2];rfl
 · rw[h1];rfl
theorem Af6{w w':World}{base b n:Nat}{D:DataW Unit}(h:w.ownsGroups Tryz.prog 22 base 3 .i64 b n D)(hx:Ext w w'):w'.ownsGroups Tryz.prog 22 base 3 .i64 b n D:=by
 obtain ⟨es,clock,hb,F,hs,rfl,hbb,hlen,hap⟩:=h
 have hg:w.grownBy w' none:=⟨hx.os,hx.tape,hx.output,hx.size,fun k hk _=>hx.block k hk⟩
 have hk : ∀ {v:Value} {zs:List Int},w.ownsInts base 3 .i64 v zs→w'.ownsInts base 3 .i64 v zs:=fun ho=>ho.kept hg (by cases hv:Value.ownBlock _ with | none=>exact .inl rfl | some g=>exact .inr (by simp))
 obtain ⟨F2,hmap,_⟩:=F.stay (R':=rowElem w' base 3 .i64) (fun x _ z hz=>by
  obtain ⟨zs,ho,rfl⟩:=rowElem_inv hz
  exact rowElem_mk (hk ho))
 refine ⟨es,clock,(hx.block b (Aqa.1 hb).1).trans hb,F2,hs,by rw[hmap],hbb,fun x hx' zs ho=> ?_,hap⟩
 obtain ⟨y,hy⟩:=F.reads x hx'
 obtain ⟨z,hz,_⟩:=Go.WideElems.rd_val hy
 obtain ⟨zs',ho',_⟩:=rowElem_inv hz
 rw[ho.unique (hk ho')]
 exact hlen x hx' zs' ho'
theorem FI.ext {w wr w':World} {l:List Cell} {A:Option Addr} {c k:Nat} (h:FI w l A c k wr) (hx:Ext wr w'):FI w l A c k w':=by
 obtain ⟨⟨D,h1,h2⟩,h3,h4,h5,h6⟩:=h
 have hs:=hx.size
 exact ⟨⟨D,Af6 h1 hx,h2⟩,Below.trans h3 (Below.mono hx (by omega)),(hx.block _ (by omega)).trans h4,(hx.block _ (by omega)).trans h5,by omega⟩
theorem FI.look {w wr:World} {l:List Cell} {A:Option Addr} {c k:Nat} (h:FI w l A c k wr) (hk:k<l.length) (hlen:l.length≤2048) (h0:0≤Cb 0 l[k]) (h1:Cb 0 l[k]≤18446744073709551615) :
   ∃ (es:Array MapEntry) (clk:Nat) (v:Value) (zs:List Int),wr.heap[w.heap.size+1]? = some (.map es clk)∧(∀ y:World,y.heap[w.heap.size+1]? = some (.map es clk)→(Instr.lookup 173 (.map (some (w.heap.size+1))) (.int .u64 (Cb 0 l[k])) false).run Tryz.prog y = .ok v y)∧wr.ownsInts (w.heap.size+3) 3 .i64 v zs∧zs.length≤k ∧
     ∀ (wc:World) (v':Value),wr.grownBy wc v.ownBlock→wc.ownsInts (w.heap.size+3) 3 .i64 v' (zs++[(k:Int)])→(v'.ownBlock=v.ownBlock∨∃ g,v'.ownBlock=some g∧wr.heap.size≤g)→∃ w2,(Instr.mapUpdate 173 (.map (some (w.heap.size+1))) (.int .u64 (Cb 0 l[k])) v').run Tryz.prog wc = .ok () w2∧FI w l A c (k+1) w2:=by
 obtain ⟨⟨D,hg,hD⟩,hbel,hbox,mbox,hsz⟩:=h
 have hkey:=II h0 h1
 obtain ⟨v,zs,hrun,hat,ho,hzl,hback⟩:=hg.at Sn Q8 (EA wr) (by unfold maxLen;omega) hkey
 have hg':=hg
 obtain ⟨es,clk,hb,F,_,hDm,_,_,_⟩:=hg
 have hzs:zs=D0 (l.take k) (Cb 0 l[k]) 0:=by
   have:=hD (Cb 0 l[k]) h0 (by omega)
   rw[hat,IF ho]at this
   exact IS this
 have hks : ∀ x∈es.toList,∃ m,x.key = .int .u64 m:=fun x hx=>by
   obtain ⟨y,hy⟩:=F.reads x hx
   obtain ⟨n,hn,_⟩:=TM (Go.WideElems.rd_key hy)
   exact ⟨n,hn⟩
 have lk : ∀ y:World,y.heap[w.heap.size+1]? = some (.map es clk)→∃ u,(∀ y':World,y'.heap[w.heap.size+1]? = some (.map es clk)→(Instr.lookup 173 (.map (some (w.heap.size+1))) (.int .u64 (Cb 0 l[k])) false).run Tryz.prog y' = .ok u y'):=by
   intro y hy
   rcases GN (q':= .u64) (n:=Cb 0 l[k]) es.toList 0 hks with ⟨f1,f2⟩ | ⟨j,ex,f1,f2,f3⟩
   · refine ⟨.slice none 0 0,fun y' hy'=> ?_⟩
     unfold Instr.lookup
     have hck:=fun em=>BF (P:=Tryz.prog) (w:=y') em 9999 (q':= .u64) (i:=Cb 0 l[k]) Kz
     simp[run_underlying Q8,run_underlying Kz,BG hy',hck,Instr.findKey,f1,EA y']
   · refine ⟨ex.val,fun y' hy'=> ?_⟩
     unfold Instr.lookup
     have hck:=fun em=>BF (P:=Tryz.prog) (w:=y') em 9999 (q':= .u64) (i:=Cb 0 l[k]) Kz
     simp[run_underlying Q8,run_underlying Kz,BG hy',hck,Instr.findKey,f1]
 obtain ⟨u,hu⟩:=lk wr hb
 have huv:u=v:=by
   have:=hu wr hb
   rw[hrun]at this
   injection this with this
   exact this.symm
 subst huv
 refine ⟨es,clk,u,zs,hb,hu,ho,hzl,fun wc v' hgr hown' hloc=> ?_⟩
 obtain ⟨w2,hmu,hown2,hgr2⟩:=hback wc v' (zs++[(k:Int)]) hgr hown' (by simp;omega) hloc
 have hvb : ∀ j,u.ownBlock=some j→w.heap.size+3≤j:=fun j hj=>(ho.1.lt j hj).1
 have far : ∀ b,b<wr.heap.size→b<w.heap.size+3→b≠w.heap.size+1→w2.heap[b]? = wr.heap[b]? := fun b hb1 hb2 hb3=>by
   have hs:=hgr.size
   rw[hgr2.block b (by omega) (by simp;omega),hgr.block b hb1 (fun e=>by have:=hvb b e.symm;omega)]
 refine ⟨w2,hmu,⟨_,hown2,fun n hn0 hn1=> ?_⟩,?_,(far _ (by omega) (by omega) (by omega)).trans hbox,(far _ (by omega) (by omega) (by omega)).trans mbox,by have:=hgr.size;have:=hgr2.size;omega⟩
 · rw[List.take_add_one,Apb hk]
   show _=lits .i64 (D0 (l.take k++[l[k]]) n 0)
   rw[SO,Apr,Nat.min_eq_left (by omega),Aqo]
   have hmk:WideAt.IsKeyLit (.int .u64 (Cb 0 l[k])):=Sn.key hkey
   by_cases he:Cb 0 l[k]=n
   · subst he
     rw[if_pos rfl,atKey_put_same ⟨_,hDm⟩ hmk,IF hown',hzs]
   · rw[if_neg he,Apx,atKey_put_other (fun e=>he (by injection e with _ e;exact e.symm))]
     exact hD n hn0 hn1
 · exact hbel.groups ho hgr hgr2 (by omega) (by omega) (by omega)
theorem AgA{d:Nat}{x:Cell}{u:Value}{W:World}(hx:SmlC d x)(h:Rd Tryz.prog md W (fun _=>False) (.ty 67) (dC x) u):Calls Tryz.prog 215 #[.int .u64 0,u] W (fun e w'=>e = .returned (.int .u64 (Cb 0 x))∧(0≤Cb 0 x∧Cb 0 x≤18446744073709551615)∧Ext W w'):=by
 have hps:Tryz.f215.params.toList = [22,67]:=by kernel_rfl
 have ht:Tryz.prog.underlying 22=some (.int .u64):=by kernel_rfl
 exact MG (vs:=[.int .u64 0,u]) (UK d x 0 hx) Tryz.func215 (by kernel_rfl) (fun b hb=>hb.elim) (by kernel_rfl) (by kernel_rfl) (Qp hps (Qr ht (by kernel_rfl) (by kernel_rfl) (by decide) (by decide)) h) (t:=22) (by kernel_rfl) ht
section
variable {w:World} {M:Nat→Prop} {t:Nat} {x:D} {c:Nat→Option Value}
theorem KO{k:IntKind}(h:RdC Tryz.prog md w M (.ty t) x c)(ht:Tryz.prog.underlying t=some (.int k)) : ∃ n,c 0=some (.int k n):=by
 cases h with
 | int ht' h1 h2 hc =>
  have:Tryz.prog.underlying t=_:=ht'
  rw[ht]at this
  injection this with this;injection this with this;subst this
  exact ⟨_,hc⟩
 | bool ht'=>have:Tryz.prog.underlying t=_:=ht';rw[ht]at this;cases this
 | str ht'=>have:Tryz.prog.underlying t=_:=ht';rw[ht]at this;cases this
 | sl ht'=>have:Tryz.prog.underlying t=_:=ht';rw[ht]at this;cases this
 | fn ht'=>have:Tryz.prog.underlying t=_:=ht';rw[ht]at this;cases this
 | ref ht'=>have:Tryz.prog.underlying t=_:=ht';rw[ht]at this;cases this
 | mp ht'=>have:Tryz.prog.underlying t=_:=ht';rw[ht]at this;cases this
 | struct hf=>obtain ⟨⟨a,ha,_⟩,_⟩:=Cx hf;rw[ht]at ha;cases ha
theorem AjY(h:RdC Tryz.prog md w M (.ty t) x c)(ht:Tryz.prog.underlying t=some .bool) : ∃ b,c 0=some (.bool b):=by
 cases h with
 | bool ht' hc=>exact ⟨_,hc⟩
 | int ht'=>have:Tryz.prog.underlying t=_:=ht';rw[ht]at this;cases this
 | str ht'=>have:Tryz.prog.underlying t=_:=ht';rw[ht]at this;cases this
 | sl ht'=>have:Tryz.prog.underlying t=_:=ht';rw[ht]at this;cases this
 | fn ht'=>have:Tryz.prog.underlying t=_:=ht';rw[ht]at this;cases this
 | ref ht'=>have:Tryz.prog.underlying t=_:=ht';rw[ht]at this;cases this
 | mp ht'=>have:Tryz.prog.underlying t=_:=ht';rw[ht]at this;cases this
 | struct hf=>obtain ⟨⟨a,ha,_⟩,_⟩:=Cx hf;rw[ht]at ha;cases ha
theorem KP{e:Nat}(h:RdC Tryz.prog md w M (.ty t) x c)(ht:Tryz.prog.underlying t=some (.slice e)) : ∃ A n m,c 0=some (.slice A n m):=by
 cases h with
 | sl ht' hc=>exact ⟨_,_,_,hc⟩
 | struct hf=>obtain ⟨⟨a,ha,_⟩,_⟩:=Cx hf;rw[ht]at ha;cases ha
 | int ht'=>have:Tryz.prog.underlying t=_:=ht';rw[ht]at this;cases this
 | bool ht'=>have:Tryz.prog.underlying t=_:=ht';rw[ht]at this;cases this
 | str ht'=>have:Tryz.prog.underlying t=_:=ht';rw[ht]at this;cases this
 | fn ht'=>have:Tryz.prog.underlying t=_:=ht';rw[ht]at this;cases this
 | ref ht'=>have:Tryz.prog.underlying t=_:=ht';rw[ht]at this;cases this
 | mp ht'=>have:Tryz.prog.underlying t=_:=ht';rw[ht]at this;cases this
end
theorem Mh{t:Nat}{l:List (Nat×Nat)}(h:(Df Tryz.prog t).map (fun fs=>fs.map (fun f=>(f.type,f.offset)))=some l){i ft o:Nat}(hi:l[i]? = some (ft,o)){w:World}{M:Nat→Prop}{x:D}{c:Nat→Option Value}(hr:RdC Tryz.prog md w M (.ty t) x c):RdC Tryz.prog md w M (.ty ft) (x.fld i) (fun j=>c (o+j)):=by
 obtain ⟨fs,hf,rfl⟩:=Apq.1 h
 rw[Aps,Apq]at hi
 obtain ⟨f,h1,h2⟩:=hi
 injection h2 with h2 h3
 subst h2
 subst h3
 exact Te hr hf h1
theorem R8:(Df Tryz.prog 67).map (fun fs=>fs.map (fun f=>(f.type,f.offset)))=some [(22,0),(3,1),(64,2),(3,5),(65,6)]:=by kernel_rfl
theorem GT:(Df Tryz.prog 64).map (fun fs=>fs.map (fun f=>(f.type,f.offset)))=some [(4,0),(62,1),(62,2)]:=by kernel_rfl
theorem AdG{w:World}{M:Nat→Prop}{x:D}{c:Nat→Option Value}(h:RdC Tryz.prog md w M (.ty 67) x c) : ∃ n0 n1 b A3 k3 m3 A4 k4 m4 n5 A6 k6 m6,c 0=some (.int .u64 n0)∧c 1=some (.int .i64 n1)∧c 2=some (.bool b)∧c 3=some (.slice A3 k3 m3)∧c 4=some (.slice A4 k4 m4)∧c 5=some (.int .i64 n5)∧c 6=some (.slice A6 k6 m6):=by
 obtain ⟨n0,h0⟩:=KO (Mh R8 (i:=0) rfl h) (k:= .u64) (by kernel_rfl)
 obtain ⟨n1,h1⟩:=KO (Mh R8 (i:=1) rfl h) (k:= .i64) (by kernel_rfl)
 have hn:=Mh R8 (i:=2) rfl h
 obtain ⟨b,h2⟩:=AjY (Mh GT (i:=0) rfl hn) (by kernel_rfl)
 obtain ⟨A3,k3,m3,h3⟩:=KP (Mh GT (i:=1) rfl hn) (e:=180) (by kernel_rfl)
 obtain ⟨A4,k4,m4,h4⟩:=KP (Mh GT (i:=2) rfl hn) (e:=180) (by kernel_rfl)
 obtain ⟨n5,h5⟩:=KO (Mh R8 (i:=3) rfl h) (k:= .i64) (by kernel_rfl)
 obtain ⟨A6,k6,m6,h6⟩:=KP (Mh R8 (i:=4) rfl h) (e:=26) (by kernel_rfl)
 exact ⟨n0,n1,b,A3,k3,m3,A4,k4,m4,n5,A6,k6,m6,h0,h1,h2,h3,h4,h5,h6⟩
structure CellAt (wr:World) (bk o:Nat) (x:Cell) (u0 u1 u2 u3 u4 u5 u6:Value):Prop where
 c0:wr.cell? ⟨bk,o,none⟩=some u0
 c1:wr.cell? ⟨bk,o+1,none⟩=some u1
 c2:wr.cell? ⟨bk,o+2,none⟩=some u2
 c3:wr.cell? ⟨bk,o+3,none⟩=some u3
 c4:wr.cell? ⟨bk,o+4,none⟩=some u4
 c5:wr.cell? ⟨bk,o+5,none⟩=some u5
 c6:wr.cell? ⟨bk,o+6,none⟩=some u6
 rd:Rd Tryz.prog md wr (fun _=>False) (.ty 67) (dC x) (.agg #[u0,u1,u2,u3,u4,u5,u6])
theorem Agv{M:Nat→Prop}{l:List Cell}{A:Option Addr}{c:Nat}{w:World}(h:Rd Tryz.prog md w M (.ty 24) (.sl (l.map dC)) (.slice A l.length c)){k:Nat}(hk:k<l.length) : ∃ bk off,A=some ⟨bk,off,none⟩∧bk<w.heap.size∧∀ wr,Below w.heap.size w wr→w.heap.size≤wr.heap.size →
  ∃ n0 n1 b A3 k3 m3 A4 k4 m4 n5 A6 k6 m6,CellAt wr bk (off+k*7) l[k] (.int .u64 n0) (.int .i64 n1) (.bool b) (.slice A3 k3 m3) (.slice A4 k4 m4) (.int .i64 n5) (.slice A6 k6 m6):=by
 have h7:Tryz.prog.cellsOf 67=7:=by kernel_rfl
 obtain ⟨h1,h2,h3⟩:=h
 cases h1 with
 | @sl _ e _ _ A' cap bk off ht hc h4 h5 hA hh =>
  have he:e=67:=by
   have:Tryz.prog.underlying 24=some (.slice e):=ht
   rw[show Tryz.prog.underlying 24=some (.slice 67) by kernel_rfl]at this
   injection this with this;injection this with this;exact this.symm
  subst he
  have hv:Value.slice A l.length c = .slice A' (l.map dC).length cap:=by simpa [Value.cells]using hc
  injection hv with e1 e2 e3
  subst e1
  obtain ⟨a1,a2,a3⟩:=hA (fun e=>by rw[List.map_eq_nil_iff.1 e]at hk;simp at hk)
  refine ⟨bk,off,a1,a3,fun wr hb hsz=> ?_⟩
  have hr:=hh k (dC l[k]) (by rw[Aps,Apb hk];rfl)
  rw[h7]at hr
  have hpos:0<(CT.ty 67).size Tryz.prog:=by show 0<Tryz.prog.cellsOf _;omega
  have hr':RdC Tryz.prog md wr (fun _=>False) (.ty 67) (dC l[k]) (fun j=>wr.cell? ⟨bk,off+k*7+j,none⟩):=by
   have:=hr.mono (w':=wr) (M':=fun _=>False) hsz (fun b _ hlt=>hb.block b hlt) (fun b hf _=>hf.elim)
   refine this.congr (fun j _=> ?_) hpos
   rw[Nat.add_assoc,Vn (hb.block bk a3)]
  obtain ⟨n0,n1,b,A3,k3,m3,A4,k4,m4,n5,A6,k6,m6,c0,c1,c2,c3,c4,c5,c6⟩:=AdG hr'
  refine ⟨n0,n1,b,A3,k3,m3,A4,k4,m4,n5,A6,k6,m6,c0,c1,c2,c3,c4,c5,c6,?_,h7.symm,by kernel_rfl⟩
  refine hr'.congr (fun j hj=> ?_) hpos
  have hj:j<7:=by
   have:j<Tryz.prog.cellsOf 67:=hj
   omega
  match j,hj with
  | 0,_=>exact c0.symm
  | 1,_=>exact c1.symm
  | 2,_=>exact c2.symm
  | 3,_=>exact c3.symm
  | 4,_=>exact c4.symm
  | 5,_=>exact c5.symm
  | 6,_=>exact c6.symm
theorem AfB(bk off n c k:Nat)(hk:k<n)(w:World):(Instr.indexAt 24 (.slice (some ⟨bk,off,none⟩) n c) (.int .i64 k)).run Tryz.prog w = .ok (.pointer (some ⟨bk,off+k*7,none⟩)) w:=by
 have hu:Tryz.prog.underlying 24=some (.slice 67):=by kernel_rfl
 have h7:Tryz.prog.cellsOf 67=7:=by kernel_rfl
 have hcond:0≤(k:Int)∧(k:Int)<((n:Nat):Int):=by omega
 simp[Instr.indexAt,asIntOf,run_underlying hu,hcond,hk,Hh (P:=Tryz.prog) (t:=67) (by omega),h7,Addr.add_lit]
def AcP(w:World)(l:List Cell)(A:Option Addr)(c:Nat)(e:Ending)(w':World):Prop:=e = .returned (.func (.func 216) #[] #[.pointer (some ⟨w.heap.size+1+1,0,none⟩),.pointer (some ⟨w.heap.size,0,none⟩)])∧FI w l A c l.length w'
theorem FI.start (w:World) (l:List Cell) (A:Option Addr) (c:Nat):FI w l A c 0 (((w.alloc (.cells #[.slice A l.length c] 24)).alloc (.map #[] 0)).alloc (.cells #[.map (some (w.heap.size+1))] 173)):=by
 have h1:((w.alloc (.cells #[.slice A l.length c] 24)).alloc (.map #[] 0)).heap[w.heap.size+1]? = some (.map #[] 0):=by
  have:=heap_alloc_new (w.alloc (.cells #[.slice A l.length c] 24)) (.map #[] 0)
  simpa using this
 have h0:(w.alloc (.cells #[.slice A l.length c] 24)).heap[w.heap.size]? = some (.cells #[.slice A l.length c] 24 (0,0)):=heap_alloc_new w _
 refine ⟨⟨.map [],⟨#[],0,Mi h1,⟨by simp,Go.MapKept.stamped_empty 0,by simp⟩,Apo _,rfl,by omega,by simp,by simp⟩,fun n _ _=>rfl⟩,((Below.refl _ _).alloc (Apo _) _ |>.alloc (by simp) _ |>.alloc (by simp;omega) _),Mi (Mi h0),?_,by simp⟩
 have:=heap_alloc_new ((w.alloc (.cells #[.slice A l.length c] 24)).alloc (.map #[] 0)) (.cells #[.map (some (w.heap.size+1))] 173)
 simpa using this
set_option maxHeartbeats 1000000 in
theorem Afp{M:Nat→Prop}(l:List Cell)(hl : ∀ x∈l,∃ d,SmlC d x)(hlen:l.length≤2048)(A:Option Addr)(c:Nat)(w:World)(hrd:Rd Tryz.prog md w M (.ty 24) (.sl (l.map dC)) (.slice A l.length c)) :
  Calls Tryz.prog 152 #[.slice A l.length c] w (AcP w l A c):=by
 have hmm:= @run_makeMap Tryz.prog
 have HRD:=Lib.hid hrd
 clear hrd
 have HLL:=Lib.hid hl
 clear hl
 go_enter Tryz.func152,Tryz.ntmps152
 go_wp2_with fail
 go_loopw [10] (fun iv wr=>∃ k:Nat,k≤l.length∧iv = .int .i64 k∧FI w l A c k wr) (fun iv _=>l.length-(intOf iv).toNat)
 case atStart=>exact ⟨0,Nat.zero_le _,rfl,FI.start w l A c⟩
 case round =>
  obtain ⟨k,hk,rfl,HF⟩:=hrel
  by_cases hlt:k<l.length
  · obtain ⟨bk,off,rfl,hbk,hcell⟩:=Agv HRD.out hlt
    obtain ⟨n0,n1,b,A3,k3,m3,A4,k4,m4,n5,A6,k6,m6,hca⟩:=hcell wr HF.below (by have:=HF.size;omega)
    clear hcell
    have hc0:=hca.c0
    have hc1:=hca.c1
    have hc2:=hca.c2
    have hc3:=hca.c3
    have hc4:=hca.c4
    have hc5:=hca.c5
    have hc6:=hca.c6
    have HRU:=Lib.hid hca
    clear hca
    obtain ⟨d,hsx⟩:=HLL.out l[k] (Aqc hlt)
    have HSX:=Lib.hid hsx
    clear hsx
    have HIX:=AfB bk off l.length c k hlt
    have HFH:=Lib.hid HF
    clear HF
    go_wp2_with (first
      | (go_at_call 215;refine (AgA HSX.out ?_).mono ?_;rotate_left;rintro e w1 ⟨rfl,hb1,hx1⟩))
    · have hfi:=HFH.out.ext (Ext.trans ((Ext.refl wr).alloc _) hx1)
      obtain ⟨es,clk,v,zs,hb,hu,ho,hzl,hnext⟩:=hfi.look hlt hlen hb1.1 hb1.2
      have hsz1:=hfi.size
      have hmb0:=hfi.mbox
      have hvb : ∀ j,v.ownBlock=some j→w.heap.size+3≤j:=fun j hj=>(ho.1.lt j hj).1
      have KS : ∀ y:World,y.heap[w.heap.size+2]? = some (.cells #[.map (some (w.heap.size+1))] 173 (0,0))→y.heap[w.heap.size+2]? = some (.cells #[.map (some (w.heap.size+1))] 173 (0,0))∧y.cell? ⟨w.heap.size+1+1,0,none⟩=some (.map (some (w.heap.size+1))):=by
       intro y h2
       refine ⟨h2,?_⟩
       unfold World.cell?
       simp[h2]
      have hlk1:=hu w1 hb
      have hlk2:=hu w1.drew hb
      have hlk3:=hu (w1.alloc (.cells #[.int .i64 k] 3)) (Mi hb)
      have hlk4:=hu (w1.alloc (.cells #[.int .i64 k] 3)).drew (Mi hb)
      have hlk5:=hu (w1.drew.alloc (.cells #[.int .i64 k] 3)) (Mi (w:=w1.drew) hb)
      have hinfo : ∃ i0,Tryz.prog.info? 3=some i0∧i0.zero=some (.int .i64 0)∧i0.size=1∧i0.bytes=8:=info_parts (P:=Tryz.prog) (e:=3) (z:= .int .i64 0) (size:=1) (bytes:=8) (by kernel_rfl)
      obtain ⟨i0,hi0,hz0,hz1,hz2⟩:=hinfo
      obtain ⟨_,hcell1⟩:=KS w1 hmb0
      have GD : ∀ {x y:World} {r:Option Nat},x.drew.grownBy y r→x.grownBy y r:=fun h=>⟨h.os,h.tape,h.output,h.size,h.block⟩
      have WFK:(Lit.int .i64 (k:Int)).wf=true:=WalkArith.wf_i64 (by omega)
      go_region_held3 (fun y=>y.heap[w.heap.size+2]? = some (.cells #[.map (some (w.heap.size+1))] 173 (0,0))∧y.cell? ⟨w.heap.size+1+1,0,none⟩=some (.map (some (w.heap.size+1))))
       ((go_split_ands;first | (refine ⟨?_,?_⟩ <;> assumption) | exact KS _ hfi5.mbox | exact KS _ (by assumption) | exact KS _ (Mi (by assumption)) | exact KS _ ((hgrow.block _ (by simp;omega) (by intro e;have:=hvb _ e.symm;omega)).trans (by first | assumption | exact Mi (by assumption)))))
       ((refine step_append_lies _ (by rfl) _ _ _ (by rfl) (w.heap.size+3) 3 i0 _ 1 8 DG hi0 hz0 hz1 hz2 rfl (by omega) v zs.length (zs.map (Value.int .i64)) (by rfl) ((ho.1.alloc _).drew) ⟨w1.heap.size,0,none⟩ 1 1 [.int .i64 k] (by rfl) (by rfl) (World.news_of_block (cs:= #[.int .i64 k]) (t:=3) (fr:=(0,0)) (heap_alloc_new w1 _)) (by simp[Value.oneCell']) (by omega) (by unfold maxLen;omega) (by omega) (by simp;omega) (w1.heap.size+1) (by simp) ?_;intro gg cap w4 hown4 hgrow hat hlt4;obtain ⟨w5,hmu,hfi5⟩:=hnext w4 _ ((World.grownBy_alloc w1 _ _).trans (GD hgrow)) (ho.appended hown4 WFK) (hat.imp (fun h=>h.symm) (fun h=>⟨gg,rfl,by omega⟩))))
      all_goals
       go_wp2_with fail
       go_roundw
       · exact ⟨k+1,by omega,by go_num,hfi5⟩
       · simp[intOf];omega
    · exact Kn HRU.out.rd ((Ext.refl wr).alloc _) (fun b hb _=>hb)
  · have hkn:k=l.length:=by omega
    subst hkn
    go_wp2_with fail
    go_ret
    exact ⟨rfl,HF⟩
theorem IV(k n:Int):0≤F1 k n∧F1 k n≤18446744073709551615:=by
 unfold F1 Br
 simp only
 rw[IntKind.wrap_u64]
 omega
def Iy(k:Int):Prop:=0≤k∧k≤18446744073709551615
theorem R_{α:Type}{f:Int→α→Int} : ∀ {l:List α} {k:Int},Iy k→(∀ x∈l,∀ k,Iy k→Iy (f k x))→Iy (l.foldl f k)
 | [],_,h,_=>h
 | x::xs,k,h,hf=>by
  rw[List.foldl_cons]
  exact R_ (l:=xs) (hf x (by simp) k h) (fun y hy=>hf y (List.mem_cons_of_mem _ hy))
theorem UH{c:Cell}{k:Int}(h : ∀ x∈c.inn,∀ k,Iy k→Iy (F0 k x)):Iy (Cb k c):=by
 rw[P3]
 refine R_ ?_ h
 have h1 : ∀ (l:List Ar) {k:Int},Iy k→Iy (Jj k l):=fun l k hk=>R_ hk (fun x _ k _=>IV _ _)
 refine h1 _ (h1 _ ?_)
 split <;> exact IV _ _
theorem Ag8(a:Arr) : ∀ k,Iy k→Iy (F0 k a):=by
 induction a using Arr.ind with
 | h s sh cs IH =>
  intro k hk
  rw[Xv]
  exact R_ (R_ hk (fun x _ k _=>IV _ _)) (fun c hc k _=>UH (IH c hc))
theorem Ag_(c:Cell)(k:Int):Iy (Cb k c):=UH (fun x _=>Ag8 x)
theorem WQ{α:Type}{f:α→Lit×DataW Unit} : ∀ {l:List α} {x y:α},(l.map f).Pairwise (fun p q=>p.1≠q.1)→x∈l→y∈l→(f x).1=(f y).1→x=y
 | [],x,y,_,hx,_,_=>by cases hx
 | a::l,x,y,h,hx,hy,he=>by
  rw[Ap7,List.pairwise_cons]at h
  rcases Apt.1 hx with e1 | hx1 <;> rcases Apt.1 hy with e2 | hy1
  · rw[e1,e2]
  · rw[e1]at he;exact absurd he (h.1 _ (List.mem_map.2 ⟨y,hy1,rfl⟩))
  · rw[e2]at he;exact absurd he.symm (h.1 _ (List.mem_map.2 ⟨x,hx1,rfl⟩))
  · exact WQ h.2 hx1 hy1 he
theorem AjV{w:World}{M:Nat→Prop}{base:Nat}{v:Value}{zs:List Int}(h:w.ownsInts base 3 .i64 v zs)(hM : ∀ b,M b→b<base):RdC Tryz.prog md w M (.ty 23) (.sl (zs.map .int)) (fun j=>v.cells[j]?)∧Ds v=false:=by
 have hc1:Tryz.prog.cellsOf 3=1:=by kernel_rfl
 have hti:Tryz.prog.underlying 3=some (.int .i64):=by kernel_rfl
 obtain ⟨hrow,hwf⟩:=h
 rcases hrow.2 with ⟨rfl,h0⟩ | ⟨g,cap,cur,rfl,hbg,hg,hnc,hcm,hcs,htake⟩
 · have:zs = []:=Ap2.1 h0
   subst this
   exact ⟨.sl (t:= .ty _) (e:=3) (A:=none) (cap:=0) (bk:=0) (off:=0) DG rfl (by simp) (by simp) (fun hne=>absurd rfl hne) (fun i x hx=>by simp at hx),rfl⟩
 · have hcell:=hrow.cells (g:=g) rfl
   refine ⟨.sl (t:= .ty _) (e:=3) (A:=some ⟨g,0,none⟩) (cap:=cap) (bk:=g) (off:=0) DG (by simp[Value.cells]) (by simpa using hnc) hcm (fun _=>⟨rfl,fun hm=>by have:=hM g hm;omega,(Aqa.1 hg).1⟩) (fun i x hx=> ?_),rfl⟩
   rw[Aps,Apq]at hx
   obtain ⟨z,hz,rfl⟩:=hx
   have hw:=hwf z (Aph hz)
   unfold Lit.wf at hw
   simp only[Api,decide_eq_true_eq]at hw
   have:=hcell i (.int .i64 z) (by rw[Aps,hz];rfl)
   have ea:(⟨g,0,none⟩:Addr).add i=⟨g,0+i,none⟩:=by unfold Addr.add;split <;> simp_all
   rw[ea]at this
   exact .int (t:= .ty _) (k:= .i64) hti hw.1 hw.2 (by rw[hc1];simpa using this)
theorem FI.map_rd {w w':World} {M:Nat→Prop} {l:List Cell} {A:Option Addr} {c:Nat} (h:FI w l A c l.length w') (hM : ∀ b,M b→b<w.heap.size):RdC Tryz.prog md w' M (.ty 173) (.mp (g0 l)) (fun j=>w'.cell? ⟨w.heap.size+1+1,0+j,none⟩):=by
 obtain ⟨⟨D,hg,hD⟩,_,_,mbox,hsz⟩:=h
 obtain ⟨es,clk,hb,F,_,rfl,_,_,_⟩:=hg
 have hks : ∀ x∈es.toList,∃ n:Int,x.key = .int .u64 n∧0≤n∧n≤18446744073709551615:=fun x hx=>by
   obtain ⟨y,hy⟩:=F.reads x hx
   obtain ⟨n,hn,h0,h1,_⟩:=TM (Go.WideElems.rd_key hy)
   exact ⟨n,hn,h0,h1⟩
 have rdx : ∀ x∈es.toList,∀ n,x.key = .int .u64 n→RdC Tryz.prog md w' M (.ty 23) (.sl ((Hw (g0 l) n).map .int)) (fun j=>x.val.cells[j]?)∧Ds x.val=false:=by
   intro x hx n hn
   obtain ⟨n',hn',h0,h1⟩:=hks x hx
   rw[hn]at hn'
   injection hn' with _ hn'
   subst hn'
   have hkey:=II h0 h1
   rcases Maps.fit_look false Sn Q8 (EA w') hb F hkey with ⟨_,hne,_⟩ | ⟨e0,y,hm0,h3,_,hR,hat,_⟩
   · exact absurd hn (hne x hx)
   · have hxe:x=e0:=by
       refine WQ (fit_apart Sn F) hx hm0 ?_
       obtain ⟨y1,hy1⟩:=F.reads x hx
       obtain ⟨y2,hy2⟩:=F.reads e0 hm0
       rw[Go.WideElems.rg_of hy1,Go.WideElems.rg_of hy2]
       have k1:=Go.WideElems.rd_key hy1
       have k2:=Go.WideElems.rd_key hy2
       rw[hn]at k1
       rw[h3]at k2
       rw[k1]at k2
       injection k2
     subst hxe
     obtain ⟨zs,ho,rfl⟩:=rowElem_inv hR
     have hz:=hD n h0 (by omega)
     rw[hat,List.take_length,IF ho]at hz
     rw[HN,← IS hz]
     exact AjV ho (fun b hb=>by have:=hM b hb;omega)
 refine .mp (t:= .ty _) (b:=w.heap.size+1) Q8 Kz DG ?_ (fun hm=>by have:=hM _ hm;omega) (by omega) hb (fun x hx=> ?_) (fun x hx n hn=>(rdx x hx n hn).1) (fun x hx=> ?_) (fun n hne=> ?_)
 · have:w'.heap[w.heap.size+1+1]? = some (.cells #[.map (some (w.heap.size+1))] 173 (0,0)):=mbox
   unfold World.cell?
   simp[this]
 · obtain ⟨n,hn,_⟩:=hks x hx;exact ⟨n,hn⟩
 · obtain ⟨n,hn,_⟩:=hks x hx;exact (rdx x hx n hn).2
 · rw[HN]
   by_cases hr:0≤n∧n≤18446744073709551615
   · have hkey:=II hr.1 hr.2
     rcases Maps.fit_look false Sn Q8 (EA w') hb F hkey with ⟨_,_,hat⟩ | ⟨e0,y,hm0,h3,_⟩
     · have hz:=hD n hr.1 (by omega)
       rw[hat,List.take_length]at hz
       exact (IS (q:= .i64) (a:=[]) hz).symm
     · exact absurd h3 (hne e0 hm0)
   · exact IA l n 0 (fun c _ he=>hr (he▸Ag_ c 0))
theorem Pn:Nd:=by
 intro d l hl hlen
 refine ⟨g0 l,HN l,CW Lz Tryz.func152 (by kernel_rfl) (by kernel_rfl) (by kernel_rfl) (fun w M vs hM _ hlv hrd=> ?_)⟩
 have hps:Tryz.f152.params.toList = [24]:=by kernel_rfl
 have hlen1:vs.length=1:=by rw[hlv];rfl
 match vs,hlen1 with
 | [v],_ =>
  rw[hps]at hrd
  have hr:=hrd 0 _ _ _ rfl rfl rfl
  obtain ⟨A,n,c,hv,hn⟩ : ∃ A n c,v = .slice A n c∧n=l.length:=by
   obtain ⟨h1,h2,h3⟩:=hr
   cases h1 with
   | @sl _ e _ _ A' cap bk off ht hc h4 h5 hA hh =>
     have ha:Ds v=false:=by rw[h3];kernel_rfl
     rw[Ih ha]at hc
     exact ⟨A',_,cap,by simpa using hc,by simp⟩
  subst hv
  subst hn
  refine (Afp l (fun x hx=>⟨d,hl x hx⟩) hlen A c w hr).mono ?_
  rintro e w' ⟨rfl,hfi⟩
  have hx:Ext w w':=by
   have:=hfi.below
   exact ⟨this.os,this.tape,this.output,by have:=hfi.size;omega,fun b hb=>this.block b hb⟩
  refine ⟨[_],rfl,rfl,fun i t u ht hu=> ?_,hx⟩
  rw[show Tryz.f152.resultTypes.toList = [128] by kernel_rfl]at ht
  match i with
  | 0 =>
   cases ht;cases hu
   have hsz:=hfi.size
   refine ⟨.fn (fn:=Tryz.f216) (ps:= #[67]) (rs:= #[3]) (va:=false) (by kernel_rfl) Tryz.func216 (by kernel_rfl) (by kernel_rfl) (by kernel_rfl) rfl rfl rfl (fun i ct d' v' hct hd hv=> ?_) (fun i ct v' hct hv=> ?_),by kernel_rfl,by kernel_rfl⟩
   · match i with
     | 0 =>
      cases hct;cases hd;cases hv
      exact .ref (t:= .ref _) (bk:=w.heap.size+1+1) (off:=0) rfl rfl (fun hm=>by have:=hM _ hm;omega) (by omega) (hfi.map_rd hM)
     | 1 =>
      cases hct;cases hd;cases hv
      refine .ref (t:= .ref _) (bk:=w.heap.size) (off:=0) rfl rfl (fun hm=>by have:=hM _ hm;omega) (by omega) ?_
      have h1:=hr.rd.mono (w':=w') (M':=M) hx.size (fun b _ hb=>hx.block b hb) (fun b hb _=>hb)
      refine h1.congr (fun j hj=> ?_) (by have:(CT.ty 24).size Tryz.prog=1:=(by kernel_rfl);omega)
      have hj:j<1:=by have:(CT.ty 24).size Tryz.prog=1:=(by kernel_rfl);omega
      obtain rfl:j=0:=by omega
      unfold World.cell?
      simp[hfi.lbox,Value.cells]
     | i+2=>cases hct
   · match i with
     | 0=>cases hct;cases hv;exact ⟨rfl,rfl⟩
     | 1=>cases hct;cases hv;exact ⟨rfl,rfl⟩
     | i+2=>cases hct
  | i+1=>simp at ht
end Go.Proofs.YtokkbgpgaheakaaGreat
namespace Go.Proofs.YtokkbgpgaheakaaGreat
def AR:List (Nat×Orc):=[(6,⟨[(2,none),(3,none),(4,none),(7,none)],[(3,true),(4,true)],[]⟩)]
noncomputable def AQ(n m6:Nat)(o2 i7:Int)(a3 b4:D):Tree :=
 lA (eA AR n 14 [1,1,1,0,1,0,0]) (An AR 6) m6 ⟨(.undef:: .undef:: .i .u64 o2:: .ptr 3 []:: .ptr 4 []:: .undef:: .undef:: .i .i64 i7::uA 63),[(3,.var 26 (.d 26 a3) true),(4,.var 26 (.d 26 b4) true)],[3,4],[],[]⟩
  (Ak 0 (Aq (jA AR n 14 [1,1,1,1]) (rA 14 [26,26,22] [.tmp 6] [4])))
theorem Aah(n m6:Nat)(o2 i7:Int)(a3 b4:D):AQ n (m6+1) o2 i7 a3 b4 =
 bK (i7<(((a3.fld 2).els).length:Int)) (kK (0≤i7) (kK (i7<(((a3.fld 2).els).length:Int)) (kK (0≤i7) (kK (i7<(((b4.fld 2).els).length:Int)) (cK 55 [((a3.fld 2).els).getD (Apa i7) D.nil,((b4.fld 2).els).getD (Apa i7) D.nil,D.int o2] fun Y8 =>
 .br (!((qA Y8).toBool)) (.ret [D.bool false])
 (AQ n m6 o2 (Aom .i64 (i7+1)) a3 b4))))))
 (.ret [D.bool true]):=by kernel_rfl
theorem Alh(n:Nat)(a0 b1 o2:D):fA AR n 14 [] [a0,b1,o2] =
 cK 16 [D.int ((a0.fld 0).toInt),D.int o2.toInt] fun Y1 =>
 .br (!((qA Y1).toBool)) (cK 16 [D.int ((a0.fld 0).toInt),D.int o2.toInt] fun Y2 =>
 cK 16 [D.int ((b1.fld 0).toInt),D.int o2.toInt] fun Y3 =>
 .ret [D.bool (((qA Y2).toBool)==((qA Y3).toBool))])
 (cK 16 [D.int ((b1.fld 0).toInt),D.int o2.toInt] fun Y4 =>
 .br (!((qA Y4).toBool)) (cK 16 [D.int ((a0.fld 0).toInt),D.int o2.toInt] fun Y5 =>
 cK 16 [D.int ((b1.fld 0).toInt),D.int o2.toInt] fun Y6 =>
 .ret [D.bool (((qA Y5).toBool)==((qA Y6).toBool))])
 (.br (((a0.fld 0).toInt)!=((b1.fld 0).toInt)) (.ret [D.bool false])
 (cK 54 [a0.fld 1,b1.fld 1] fun Y7 =>
 .br (!((qA Y7).toBool)) (.ret [D.bool false])
 (.br ((((a0.fld 2).els).length:Int)!=(((b1.fld 2).els).length:Int)) (.ret [D.bool false])
 (AQ n n o2.toInt 0 a0 b1))))):=by kernel_rfl
def AU:List (Nat×Orc):=[(6,⟨[(2,none),(3,none),(4,none),(7,none)],[(3,true),(4,true)],[]⟩)]
noncomputable def AT(n m6:Nat)(o2 i7:Int)(a3 b4:D):Tree :=
 lA (eA AU n 55 [1,1,1,0,1,0,0]) (An AU 6) m6 ⟨(.undef:: .undef:: .i .u64 o2:: .ptr 3 []:: .ptr 4 []:: .undef:: .undef:: .i .i64 i7::uA 77),[(3,.var 67 (.d 67 a3) true),(4,.var 67 (.d 67 b4) true)],[3,4],[],[]⟩
  (Ak 0 (Aq (jA AU n 55 [1,1,1,1]) (rA 55 [67,67,22] [.tmp 6] [4])))
theorem Aai(n m6:Nat)(o2 i7:Int)(a3 b4:D):AT n (m6+1) o2 i7 a3 b4 =
 bK (i7<(((a3.fld 4).els).length:Int)) (kK (0≤i7) (kK (i7<(((a3.fld 4).els).length:Int)) (kK (0≤i7) (kK (i7<(((b4.fld 4).els).length:Int)) (cK 14 [((a3.fld 4).els).getD (Apa i7) D.nil,((b4.fld 4).els).getD (Apa i7) D.nil,D.int o2] fun Y8 =>
 .br (!((qA Y8).toBool)) (.ret [D.bool false])
 (AT n m6 o2 (Aom .i64 (i7+1)) a3 b4))))))
 (.ret [D.bool true]):=by kernel_rfl
theorem Ali(n:Nat)(a0 b1 o2:D):fA AU n 55 [] [a0,b1,o2] =
 cK 16 [D.int ((a0.fld 0).toInt),D.int o2.toInt] fun Y1 =>
 .br (!((qA Y1).toBool)) (cK 16 [D.int ((a0.fld 0).toInt),D.int o2.toInt] fun Y2 =>
 cK 16 [D.int ((b1.fld 0).toInt),D.int o2.toInt] fun Y3 =>
 .ret [D.bool (((qA Y2).toBool)==((qA Y3).toBool))])
 (cK 16 [D.int ((b1.fld 0).toInt),D.int o2.toInt] fun Y4 =>
 .br (!((qA Y4).toBool)) (cK 16 [D.int ((a0.fld 0).toInt),D.int o2.toInt] fun Y5 =>
 cK 16 [D.int ((b1.fld 0).toInt),D.int o2.toInt] fun Y6 =>
 .ret [D.bool (((qA Y5).toBool)==((qA Y6).toBool))])
 (.br (((a0.fld 0).toInt)!=((b1.fld 0).toInt)) (.ret [D.bool false])
 (.br (((a0.fld 1).toInt)!=((b1.fld 1).toInt)) (.ret [D.bool false])
 (.br (((a0.fld 3).toInt)!=((b1.fld 3).toInt)) (.ret [D.bool false])
 (cK 137 [a0.fld 2,b1.fld 2] fun Y7 =>
 .br (!((qA Y7).toBool)) (.ret [D.bool false])
 (.br ((((a0.fld 4).els).length:Int)!=(((b1.fld 4).els).length:Int)) (.ret [D.bool false])
 (AT n n o2.toInt 0 a0 b1))))))):=by kernel_rfl
def L_:Al:=BitVec.allOnes 64
def LN:Arr:= .mk L_ [] []
def LO:Cell:=⟨L_,0,.zero,0,[]⟩
mutual
def Ag(o:Al):Arr→Arr
 | .mk s sh cs=>if Ay s o then .mk s sh (Si o cs) else LN
def Si(o:Al):List (CellF Arr)→List (CellF Arr)
 | []=>[]
 | c::cs=>Bc o c::Si o cs
def Bc(o:Al):CellF Arr→CellF Arr
 | ⟨l,k,n,c,inn⟩=>if Ay l o then ⟨l,k,n,c,Sg o inn⟩ else LO
def Sg(o:Al):List Arr→List Arr
 | []=>[]
 | a::as_=>Ag o a::Sg o as_
end
theorem SK(o:Al) : ∀ cs,Si o cs=cs.map (Bc o)
 | []=>by simp[Si]
 | c::cs=>by simp[Si,SK o cs]
theorem SJ(o:Al) : ∀ as_,Sg o as_=as_.map (Ag o)
 | []=>by simp[Sg]
 | a::as_=>by simp[Sg,SJ o as_]
theorem Xb(o:Al)(a:Arr):Ag o a=if Ay a.s o then .mk a.s a.shape (a.cells.map (Bc o)) else LN:=by cases a;rw[Ag,SK];rfl
theorem Xc(o:Al)(c:Cell):Bc o c=if Ay c.l o then ⟨c.l,c.kind,c.n,c.c,c.inn.map (Ag o)⟩ else LO:=by cases c;simp[Bc,SJ]
theorem Cj{a b o:Al} : Ay (a|||b) o=(Ay a o&&Ay b o):=by
 rw[Bool.eq_iff_iff,Api,Wy,Wy,Wy]
 constructor
 · exact fun h=>⟨fun t ht=>h t (by simp[ht]),fun t ht=>h t (by simp[ht])⟩
 · rintro ⟨h1,h2⟩ t ht
   simp only[BitVec.getLsbD_or,Bool.or_eq_true]at ht
   exact ht.elim (h1 t) (h2 t)
theorem Po{o:Al}(h:Ay L_ o=true)(a:Al):Ay a o=true:=by
 rw[GV]at h ⊢
 intro t ht _
 exact h t ht (by unfold L_;rw[BitVec.getLsbD_allOnes];exact decide_eq_true ht)
theorem Pt{o:Al}{a:Arr}(h:Ay a.s o=true):Ag o a = .mk a.s a.shape (a.cells.map (Bc o)):=by rw[Xb,if_pos h]
theorem Sj{o:Al}{a:Arr}(h:Ay a.s o=false):Ag o a=LN:=by rw[Xb,if_neg (by simp[h])]
theorem Ps{o:Al}{c:Cell}(h:Ay c.l o=true):Bc o c=⟨c.l,c.kind,c.n,c.c,c.inn.map (Ag o)⟩:=by rw[Xc,if_pos h]
theorem Sh{o:Al}{c:Cell}(h:Ay c.l o=false):Bc o c=LO:=by rw[Xc,if_neg (by simp[h])]
theorem Ea{o:Al}{a b:Arr}(h:Ag o a=Ag o b):(Ay a.s o=false∧Ay b.s o=false)∨(Ay a.s o=true∧Ay b.s o=true∧a.s=b.s∧a.shape=b.shape∧a.cells.map (Bc o)=b.cells.map (Bc o)):=by
 cases ha:Ay a.s o <;> cases hb:Ay b.s o
 · exact .inl ⟨rfl,rfl⟩
 · rw[Sj ha,Pt hb]at h
   have:L_=b.s:=congrArg Arr.s h
   rw[← this]at hb
   rw[Po hb]at ha;cases ha
 · rw[Pt ha,Sj hb]at h
   have:a.s=L_:=congrArg Arr.s h
   rw[this]at ha
   rw[Po ha]at hb;cases hb
 · rw[Pt ha,Pt hb,U9]at h
   exact .inr ⟨rfl,rfl,h.1,h.2.1,h.2.2⟩
theorem K7{o:Al}{a b:Cell}(h:Bc o a=Bc o b):(Ay a.l o=false∧Ay b.l o=false)∨(Ay a.l o=true∧Ay b.l o=true∧a.l=b.l∧a.kind=b.kind∧a.c=b.c∧a.n=b.n∧a.inn.map (Ag o)=b.inn.map (Ag o)):=by
 cases ha:Ay a.l o <;> cases hb:Ay b.l o
 · exact .inl ⟨rfl,rfl⟩
 · rw[Sh ha,Ps hb]at h
   have:L_=b.l:=congrArg CellF.l h
   rw[← this]at hb
   rw[Po hb]at ha;cases ha
 · rw[Ps ha,Sh hb]at h
   have:a.l=L_:=congrArg CellF.l h
   rw[this]at ha
   rw[Po ha]at hb;cases hb
 · rw[Ps ha,Ps hb,FJ]at h
   exact .inr ⟨rfl,rfl,h⟩
theorem C0{o:Al}{a b:Arr}(ha:Ay a.s o=false)(hb:Ay b.s o=false):Ag o a=Ag o b:=by rw[Sj ha,Sj hb]
theorem F9{o:Al}{a b:Arr}(h1:a.s=b.s)(h2:a.shape=b.shape)(h3:a.cells.map (Bc o)=b.cells.map (Bc o)):Ag o a=Ag o b:=by rw[Xb,Xb,h1,h2,h3]
theorem Nf{o:Al}{a b:Cell}(ha:Ay a.l o=false)(hb:Ay b.l o=false):Bc o a=Bc o b:=by rw[Sh ha,Sh hb]
theorem Ng{o:Al}{a b:Cell}(h1:a.l=b.l)(h2:a.kind=b.kind)(h3:a.c=b.c)(h4:a.n=b.n)(h5:a.inn.map (Ag o)=b.inn.map (Ag o)):Bc o a=Bc o b:=by rw[Xc,Xc,h1,h2,h3,h4,h5]
noncomputable def K8(o:Al)(a b:Arr):Bool:=Ik (Ag o a) (Ag o b)
noncomputable def I6(o:Al)(a b:Cell):Bool:=Jd (Bc o a) (Bc o b)
theorem O0{o:Al}{a b:Arr} : K8 o a b=true↔Ag o a=Ag o b:=Mf
theorem EJ{o:Al}{a b:Cell} : I6 o a b=true↔Bc o a=Bc o b:=Nq
theorem NV{o:Al}{a b:Arr}(h : ¬ (Ay a.s o=true∧Ay b.s o=true)):K8 o a b=(Ay a.s o == Ay b.s o):=by
 rw[Bool.eq_iff_iff,O0,beq_iff_eq]
 constructor
 · intro hh
   rcases Ea hh with ⟨h1,h2⟩ | ⟨h1,h2,_⟩
   · rw[h1,h2]
   · exact absurd ⟨h1,h2⟩ h
 · intro hh
   cases ha:Ay a.s o with
   | true=>exact absurd ⟨ha,hh.symm.trans ha⟩ h
   | false=>exact C0 ha (hh.symm.trans ha)
theorem NU{o:Al}{a b:Cell}(h : ¬ (Ay a.l o=true∧Ay b.l o=true)):I6 o a b=(Ay a.l o == Ay b.l o):=by
 rw[Bool.eq_iff_iff,EJ,beq_iff_eq]
 constructor
 · intro hh
   rcases K7 hh with ⟨h1,h2⟩ | ⟨h1,h2,_⟩
   · rw[h1,h2]
   · exact absurd ⟨h1,h2⟩ h
 · intro hh
   cases ha:Ay a.l o with
   | true=>exact absurd ⟨ha,hh.symm.trans ha⟩ h
   | false=>exact Nf ha (hh.symm.trans ha)
theorem AcZ{o:Al}{a b:Arr}(ha:Ay a.s o=true):K8 o a b=true↔(a.s=b.s∧a.shape=b.shape∧a.cells.map (Bc o)=b.cells.map (Bc o)):=by
 rw[O0]
 constructor
 · intro hh
   rcases Ea hh with ⟨h1,h2⟩ | ⟨_,_,h⟩
   · rw[ha]at h1;cases h1
   · exact h
 · exact fun h=>F9 h.1 h.2.1 h.2.2
theorem AcY{o:Al}{a b:Cell}(ha:Ay a.l o=true):I6 o a b=true↔(a.l=b.l∧a.kind=b.kind∧a.c=b.c∧a.n=b.n∧a.inn.map (Ag o)=b.inn.map (Ag o)):=by
 rw[EJ]
 constructor
 · intro hh
   rcases K7 hh with ⟨h1,h2⟩ | ⟨_,_,h⟩
   · rw[ha]at h1;cases h1
   · exact h
 · exact fun h=>Ng h.1 h.2.1 h.2.2.1 h.2.2.2.1 h.2.2.2.2
theorem AS(o:Al) : ∀ (d:Nat) (a b:Arr),Sml d a→Sp 14 [dA a,dA b,dB o] [.bool (K8 o a b)]
 | 0,_,_,h=>h.elim
 | d+1,a,b,h=>by
  have hcell : ∀ (x y:Cell),SmlC d x→Sp 55 [dC x,dC y,dB o] [.bool (I6 o x y)]:=fun x y hx=>by
    have hlx:=hx.2.2.1
    refine Af (x.inn.length+1) (Ali _ _ _ _) ?_
    simp only[Ai]
    refine Aa (Iz x.l o) (B7 (fun h1=> ?_) (fun h1=>Aa (Iz y.l o) (B7 (fun h2=> ?_) (fun h2=> ?_))))
    · have h1':Ay x.l o=false:=by simpa using h1
      refine Aa (Iz x.l o) (Aa (Iz y.l o) (Ac ?_))
      rw[NU (by rw[h1'];simp)];rfl
    · have h2':Ay y.l o=false:=by simpa using h2
      refine Aa (Iz x.l o) (Aa (Iz y.l o) (Ac ?_))
      rw[NU (by rw[h2'];simp)];rfl
    have h1':Ay x.l o=true:=by simpa using h1
    have hb:=AcY (b:=y) h1'
    refine Ae (fun h=>Ac ?_) (fun h3=>Ae (fun h=>Ac ?_) (fun h4=>Ae (fun h=>Ac ?_) (fun h5=>Aa (KX x.n y.n hx.fits.1 hx.fits.2.1) ?_)))
    · rw[G4 (b:=I6 o x y) (fun hh=>h (by rw[(hb.1 hh).1]))]
    · rw[G4 (b:=I6 o x y) (fun hh=>h (hb.1 hh).2.1)]
    · rw[G4 (b:=I6 o x y) (fun hh=>h (hb.1 hh).2.2.1)]
    simp only[Ah,Ba,E0]
    refine Ae (fun h=>Ac ?_) (fun h6=>Ae (fun h=>Ac ?_) (fun h7=> ?_))
    · rw[G4 (b:=I6 o x y) (fun hh=>h (hb.1 hh).2.2.2.1)]
    · rw[G4 (b:=I6 o x y) (fun hh=>h (by have:=congrArg Aql (hb.1 hh).2.2.2.2;simp at this;omega))]
    refine BI (P:=Tryz.prog) (md:=md) (Ag o) x.inn y.inn (K8 o) (fun p _ q=>O0) (by omega) (I6 o x y) ?_ (fun m k=>AT (x.inn.length+1) m (o.toNat:Int) (k:Int) (dC x) (dC y)) ?_ ?_ (x.inn.length+1) (by omega)
    · rw[hb]
      exact ⟨fun hh=>hh.2.2.2.2,fun hh=>⟨BitVec.eq_of_toNat_eq (by omega),Apm.1 h4,Apm.1 h5,Apm.1 h6,hh⟩⟩
    · intro m Q hQ
      simp only[Aai,Ai]
      exact At (Ac hQ)
    · intro m k p q Q hp hq hF hT
      have hk:k<x.inn.length:=(Apf.1 hp).1
      simp only[Aai,Ai,Aw hp,Aw hq,Bh k]
      repeat (refine Ad ?_)
      refine Aa (AS o d p q (hx.2.2.2 p (Aph hp))) ?_
      simp only[Ah,Ba]
      exact B7 (fun h=>Ac (hF (by simpa using h))) (fun h=>hT (by simpa using h))
  have hla:=h.2.1
  refine Af (a.cells.length+1) (Alh _ _ _ _) ?_
  simp only[Ai]
  refine Aa (Iz a.s o) (B7 (fun h1=> ?_) (fun h1=>Aa (Iz b.s o) (B7 (fun h2=> ?_) (fun h2=> ?_))))
  · have h1':Ay a.s o=false:=by simpa using h1
    refine Aa (Iz a.s o) (Aa (Iz b.s o) (Ac ?_))
    rw[NV (by rw[h1'];simp)];rfl
  · have h2':Ay b.s o=false:=by simpa using h2
    refine Aa (Iz a.s o) (Aa (Iz b.s o) (Ac ?_))
    rw[NV (by rw[h2'];simp)];rfl
  have h1':Ay a.s o=true:=by simpa using h1
  have hb:=AcZ (b:=b) h1'
  refine Ae (fun h=>Ac ?_) (fun h3=>Aa (ZQ a.shape b.shape (by have:=h.1;omega)) ?_)
  · rw[G4 (b:=K8 o a b) (fun hh=>h (by rw[(hb.1 hh).1]))]
  simp only[Ah,Ba,E0]
  refine Ae (fun h=>Ac ?_) (fun h4=>Ae (fun h=>Ac ?_) (fun h5=> ?_))
  · rw[G4 (b:=K8 o a b) (fun hh=>h (hb.1 hh).2.1)]
  · rw[G4 (b:=K8 o a b) (fun hh=>h (by have:=congrArg Aql (hb.1 hh).2.2;simp at this;omega))]
  refine BI (P:=Tryz.prog) (md:=md) (Bc o) a.cells b.cells (I6 o) (fun p _ q=>EJ) (by omega) (K8 o a b) ?_ (fun m k=>AQ (a.cells.length+1) m (o.toNat:Int) (k:Int) (dA a) (dA b)) ?_ ?_ (a.cells.length+1) (by omega)
  · rw[hb]
    exact ⟨fun hh=>hh.2.2,fun hh=>⟨BitVec.eq_of_toNat_eq (by omega),Apm.1 h4,hh⟩⟩
  · intro m Q hQ
    simp only[Aah,Ai]
    exact At (Ac hQ)
  · intro m k p q Q hp hq hF hT
    have hk:k<a.cells.length:=(Apf.1 hp).1
    simp only[Aah,Ai,Aw hp,Aw hq,Bh k]
    repeat (refine Ad ?_)
    refine Aa (hcell p q (h.cell p (Aph hp))) ?_
    simp only[Ah,Ba]
    exact B7 (fun h=>Ac (hF (by simpa using h))) (fun h=>hT (by simpa using h))
theorem RM{o:Al} : ∀ {as_:List Arr} {x:Al},Ay (as_.foldl (fun l a=>l|||Au a) x) o=true↔(Ay x o=true∧∀ a∈as_,Ay (Au a) o=true)
 | [],x=>by simp
 | a::as_,x=>by
  simp only[List.foldl_cons]
  rw[RM,Cj,Api]
  simp only[Apt,forall_eq_or_imp]
  exact and_assoc
theorem Afu{o x:Al}{c:Cell} : Ay (Lw x c) o=true↔(Ay x o=true∧Ay c.l o=true∧∀ a∈c.inn,Ay (Au a) o=true):=by
 rw[MN,RM,Cj,Api];exact and_assoc
theorem RN{o:Al} : ∀ {cs:List Cell} {x:Al},Ay (cs.foldl Lw x) o=true↔(Ay x o=true∧∀ c∈cs,Ay c.l o=true∧∀ a∈c.inn,Ay (Au a) o=true)
 | [],x=>by simp
 | c::cs,x=>by
  simp only[List.foldl_cons]
  rw[RN,Afu]
  simp only[Apt,forall_eq_or_imp]
  exact ⟨fun h=>⟨h.1.1,h.1.2,h.2⟩,fun h=>⟨⟨h.1,h.2.1⟩,h.2.2⟩⟩
theorem GW{o:Al}{a:Arr} : Ay (Au a) o=true↔(Ay a.s o=true∧∀ c∈a.cells,Ay c.l o=true∧∀ x∈c.inn,Ay (Au x) o=true):=by rw[MM,RN]
theorem Af8{o:Al}{a:Arr} : Ay (Au a) o=true→Ag o a=a:=by
 induction a using Arr.ind with
 | h s sh cs IH =>
  intro h
  obtain ⟨h1,h2⟩:=GW.1 h
  rw[Pt h1]
  have:cs.map (Bc o)=cs:=by
   conv=>rhs;rw[← List.map_id cs]
   refine List.map_congr_left (fun c hc=> ?_)
   obtain ⟨g1,g2⟩:=h2 c hc
   rw[Ps g1]
   have:c.inn.map (Ag o)=c.inn:=by
    conv=>rhs;rw[← List.map_id c.inn]
    exact List.map_congr_left (fun x hx=>IH c hc x hx (g2 x hx))
   rw[this];rfl
  show Arr.mk s sh (cs.map (Bc o))=_
  rw[this]
theorem An3{o:Al}{a:Arr} : Ay (Au (Ag o a)) o=true→Ag o a=a:=by
 induction a using Arr.ind with
 | h s sh cs IH =>
  intro h
  cases hs:Ay (Arr.mk s sh cs).s o with
  | false =>
   rw[Sj hs]at h
   have:=Po (GW.1 h).1 (Arr.mk s sh cs).s
   rw[hs]at this;cases this
  | true =>
   rw[Pt hs]at h ⊢
   obtain ⟨_,h2⟩:=GW.1 h
   have:cs.map (Bc o)=cs:=by
    conv=>rhs;rw[← List.map_id cs]
    refine List.map_congr_left (fun c hc=> ?_)
    obtain ⟨g1,g2⟩:=h2 (Bc o c) (List.mem_map.2 ⟨c,hc,rfl⟩)
    cases hl:Ay c.l o with
    | false =>
     rw[Sh hl]at g1
     have:=Po g1 c.l
     rw[hl]at this;cases this
    | true =>
     rw[Ps hl]at g2 ⊢
     have:c.inn.map (Ag o)=c.inn:=by
      conv=>rhs;rw[← List.map_id c.inn]
      exact List.map_congr_left (fun x hx=>IH c hc x hx (g2 (Ag o x) (List.mem_map.2 ⟨x,hx,rfl⟩)))
     rw[this];rfl
   show Arr.mk s sh (cs.map (Bc o))=_
   rw[this]
theorem NT{o:Al}{a b:Arr}(h:Ag o a=Ag o b)(ht:Ay (Au a) o=true):a=b:=by
 have h1:=Af8 ht
 rw[h1]at h
 rw[h]at ht
 rw[h];exact An3 ht
theorem Ic{o:Al}{a b:Arr}(h:Ag o a=Ag o b):a=b∨(Ay (Au a) o=false∧Ay (Au b) o=false):=by
 cases ha:Ay (Au a) o with
 | true=>exact .inl (NT h ha)
 | false =>
  cases hb:Ay (Au b) o with
  | true=>exact .inl (NT h.symm hb).symm
  | false=>exact .inr ⟨rfl,rfl⟩
theorem Qo{o l:Al}{a b:Arr}(h:Ag o a=Ag o b):Ag o (C2 a l)=Ag o (C2 b l):=by
 rcases Ea h with ⟨h1,h2⟩ | ⟨h1,h2,h3,h4,h5⟩
 · exact C0 (by show Ay (a.s|||l) o=false;rw[Cj,h1];rfl) (by show Ay (b.s|||l) o=false;rw[Cj,h2];rfl)
 · exact F9 (by show a.s|||l=b.s|||l;rw[h3]) h4 h5
theorem Acs{o:Al}{c d:Cell}(h:Bc o c=Bc o d):Ag o (Gj c)=Ag o (Gj d):=by
 rcases K7 h with ⟨h1,h2⟩ | ⟨h1,h2,h3,h4,h5,h6,h7⟩
 · have hu : ∀ x:Cell,Ay x.l o=false→Ay (Gj x).s o=false:=fun x hx=>by
     unfold Gj
     split
     · split
       · show Ay (_|||x.l) o=false;rw[Cj,hx,Bool.and_false]
       · exact hx
     · exact hx
   exact C0 (hu c h1) (hu d h2)
 · have hl:c.inn.length=d.inn.length:=by have:=congrArg Aql h7;simpa using this
   by_cases hb:c.kind=2∧c.inn.length=1
   · obtain ⟨x,hx⟩:=Is hb.2
     obtain ⟨y,hy⟩:=Is (hl▸hb.2)
     rw[DI hb.1 hx,DI (h4▸hb.1) hy,h3]
     rw[hx,hy]at h7
     exact Qo (by simpa using h7)
   · rw[Un hb,Un (by rw[← h4,← hl];exact hb)]
     exact F9 h3 rfl (by simpa using h)
theorem SZ : ∀ {l:List Int},(∀ x∈l,Bd x)→G9 (l.map Bf)=some l
 | [],_=>rfl
 | x::xs,h=>by
  simp only[Ap7,G9]
  rw[if_pos (show (Bf x).kind=0 from rfl),show (Bf x).n=Cy x from rfl,AmV (h x (by simp)),SZ (fun y hy=>h y (by simp[hy]))]
  rfl
theorem An1(l:List Int)(s:Al):Au (Db l s)=s:=by
 rw[MM]
 unfold Db
 simp only[Arr.cells_mk,Arr.s_mk]
 induction l with
 | nil=>rfl
 | cons x xs ih =>
  rw[Ap7,List.foldl_cons,MN]
  have e0:s|||(0:Al)=s:=by simp
  rw[show (Bf x).inn = [] from rfl,show (Bf x).l=0 from rfl,e0,List.foldl_nil]
  exact ih
theorem Alu{n a:Arr}{d:Nat}(ha : ∀ c∈a.cells,Bi d c=true)(h:(Hg n a).2=0):Aj d (Hg n a).1=true:=by
 unfold Hg at h ⊢
 split at h
 · rename_i h1
   rw[if_pos h1]
   split at h
   · rename_i h2
     rw[if_pos h2]
     have h4:=Fw (A9 n).1
     refine H4 ?_ ?_
     · simp only[Arr.shape_mk,Arr.cells_mk,V3]
       exact Prod.ext (by simp only;omega) h2
     · intro c hc
       rcases Aeo hc with h | rfl
       · exact ha c h
       · exact Jp d Iq
   · rename_i h2;exact absurd h h2
 · rename_i h1;exact absurd h h1
theorem PL:A7 []=(1,0):=by decide
theorem Ajp{n:Nat}(h:n≤2048):A_ [(n:Int)] 1=(n:Int):=by
 simp only[A_];rw[if_neg (by omega)];omega
theorem AdZ{n:Nat}(h:n≤2048):A7 [(n:Int)]=((n:Int),0):=by
 unfold A7
 rw[Ajp h]
 simp only[Apg,Apv,List.any_cons,List.any_nil,Bool.or_false]
 by_cases h0:n=0
 · subst h0;rfl
 · rw[if_neg (by omega),if_neg (by simp),if_neg (by simp;omega),if_neg (by simp;omega),if_neg (by omega)]
theorem AdF{c:Cell}(h : ¬ c.kind=2)(k k':Bool)(r r':Arr→Bool):C7 k r c=C7 k' r' c:=by
 unfold C7
 split
 · rfl
 split
 · rfl
 · rw[decide_eq_false (fun hh=>h hh.1)];rfl
theorem LG{c:Cell}(h : ¬ c.kind=2){d e:Nat}(hc:Bi d c=true):Bi e c=true:=by
 have:Bi e c=Bi d c:=by cases d <;> cases e <;> exact AdF h _ _ _ _
 rw[this];exact hc
theorem Aly{d:Nat}{x:Arr}{l:Al}(hs:B9 x=false)(hr:Aj d x=true):Bi (d+1) ⟨l,2,.zero,0,[x]⟩=true:=by
 show C7 true (Aj d) _=true
 unfold C7 I_
 simp[hs,hr]
theorem Tx{d:Nat}{c:Cell}(hk:c.kind=2)(h:Bi d c=true) : ∃ e x,d=e+1∧c=⟨c.l,2,.zero,0,[x]⟩∧B9 x=false∧Aj e x=true:=by
 have key : ∀ k r,C7 k r c=true→k=true∧∃ x,c.inn = [x]∧B9 x=false∧r x=true∧c.n = .zero∧c.c=0:=by
  intro k r hh
  unfold C7 at hh
  rw[if_neg (by omega),if_neg (by omega)]at hh
  simp only[Api,decide_eq_true_eq]at hh
  obtain ⟨h1,h2,h3⟩:=hh
  unfold I_ at h3
  split at h3
  · rename_i x hx
    simp only[Api,Bool.not_eq_true']at h3
    exact ⟨h2,x,hx,h3.1,h3.2,h1.2.1,h1.2.2⟩
  · cases h3
 cases d with
 | zero=>exact absurd (key _ _ h).1 (by simp)
 | succ d =>
  obtain ⟨_,x,h1,h2,h3,h4,h5⟩:=key _ _ h
  refine ⟨d,x,rfl,?_,h2,h3⟩
  cases c;simp only at hk h1 h4 h5;subst hk;subst h1;subst h4;subst h5;rfl
theorem Alx : ∀ {d:Nat} {a:Arr},Aj d a=true→Aj (d+1) a=true:=by
 intro d
 induction d with
 | zero =>
  intro a h
  obtain ⟨h1,h2⟩:=Ce h
  refine H4 h1 (fun c hc=> ?_)
  by_cases hk:c.kind=2
  · obtain ⟨e,x,he,_⟩:=Tx hk (h2 c hc);omega
  · exact LG hk (h2 c hc)
 | succ d ih =>
  intro a h
  obtain ⟨h1,h2⟩:=Ce h
  refine H4 h1 (fun c hc=> ?_)
  by_cases hk:c.kind=2
  · obtain ⟨e,x,he,hx,hs,hr⟩:=Tx hk (h2 c hc)
    have:e=d:=by omega
    subst this
    rw[hx];exact Aly hs (ih hr)
  · exact LG hk (h2 c hc)
theorem LF{d:Nat}{a:Arr}{l:Al}(h:Aj d a=true):Aj d (C2 a l)=true:=by rw[BB]at h ⊢; exact h
theorem Aa7{d:Nat}{c:Cell}{l:Al}(h:Bi d c=true):Aj d (.mk l [] [c])=true:=H4 PL (fun x hx=>by simp at hx;subst hx;exact h)
theorem Acu{d:Nat}{c:Cell}(h:Bi (d+1) c=true):Aj (d+1) (Gj c)=true:=by
 by_cases hk:c.kind=2
 · obtain ⟨e,x,he,hx,hs,hr⟩:=Tx hk h
   have:e=d:=by omega
   subst this
   rw[DI hk (by rw[hx])]
   exact LF (Alx hr)
 · rw[Un (fun hh=>hk hh.1)]
   exact Aa7 h
theorem Afq{a:Arr}(h:Aj 8 a=true):Aj 8 (J8 a)=true:=by
 unfold J8
 split
 · exact Aa7 (Jp 8 Iq)
 · rename_i c cs hc
   exact LF (Acu ((Ce h).2 c (by rw[hc];simp)))
theorem Afs : ∀ {d:Nat} {a:Arr},Aj d a=true→∀ c∈Im a,¬ c.kind=2∧∃ e,Bi e c=true:=by
 have keyAs : ∀ {as_:List Arr} {P:Cell→Prop},(∀ x∈as_,∀ c∈Im x,P c)→∀ c∈Le as_,P c:=by
  intro as_ P
  induction as_ with
  | nil=>intro _ c hc;rw[Le]at hc;cases hc
  | cons a as_ ih =>
    intro h c hc
    rw[Le]at hc
    rcases Aqh.1 hc with hc | hc
    · exact h a (by simp) c hc
    · exact ih (fun x hx=>h x (List.mem_cons_of_mem _ hx)) c hc
 have keyCs : ∀ {cs:List Cell} {P:Cell→Prop},(∀ x∈cs,∀ c∈Wv x,P c)→∀ c∈In cs,P c:=by
  intro cs P
  induction cs with
  | nil=>intro _ c hc;rw[In]at hc;cases hc
  | cons a cs ih =>
    intro h c hc
    rw[In]at hc
    rcases Aqh.1 hc with hc | hc
    · exact h a (by simp) c hc
    · exact ih (fun x hx=>h x (List.mem_cons_of_mem _ hx)) c hc
 intro d
 induction d with
 | zero =>
  intro a h
  rw[GP]
  refine keyCs (fun x hx c hc=> ?_)
  have hr:=(Ce h).2 x hx
  rw[GQ]at hc
  split at hc
  · rename_i hk;obtain ⟨e,y,he,_⟩:=Tx hk hr;omega
  · rename_i hk;simp at hc;subst hc;exact ⟨hk,_,hr⟩
 | succ d ih =>
  intro a h
  rw[GP]
  refine keyCs (fun x hx c hc=> ?_)
  have hr:=(Ce h).2 x hx
  rw[GQ]at hc
  split at hc
  · rename_i hk
    obtain ⟨e,y,he,hy,hs,hry⟩:=Tx hk hr
    have:e=d:=by omega
    subst this
    rw[hy]at hc
    exact keyAs (fun z hz=>by simp at hz;subst hz;exact ih hry) c hc
  · rename_i hk;simp at hc;subst hc;exact ⟨hk,_,hr⟩
theorem AeF{a:Arr}(h:Aj 8 a=true)(h0:(Fy a).2=0):Aj 8 (Fy a).1=true:=by
 unfold Fy at h0 ⊢
 split
 · rename_i hl
   refine H4 (by simpa using AdZ hl) (fun c hc=> ?_)
   obtain ⟨hk,e,he⟩:=Afs h c hc
   exact LG hk he
 · rename_i hl;rw[if_neg hl]at h0;cases h0
theorem AeD{d:Nat}{a:Arr}(h:Sml d a):Sml (d+1) (Hr a).1:=by
 unfold Hr
 split
 · exact h.mono (by omega)
 · split
   · exact ⟨by simp[Arr.none],by simp[Arr.none],by simp[Arr.none],by simp[Arr.none]⟩
   · refine ⟨by simp[I9],by simp[I9],by simp[I9],fun c hc=> ?_⟩
     have:c=⟨Hl a,2,.zero,0,[a]⟩:=by simpa [I9]using hc
     subst this
     exact ⟨by simp[Num.zero],by simp[Num.zero],by simp,fun x hx=>by simp at hx;subst hx;exact h⟩
theorem AeG{a:Arr}(h:Aj 8 a=true):Sml 9 (Fy a).1:=by
 by_cases h0:(Fy a).2=0
 · exact Cf (AeF h h0)
 · unfold Fy at h0 ⊢
   split
   · rename_i hl;rw[if_pos hl]at h0;exact absurd rfl h0
   · exact ⟨by simp[Arr.none],by simp[Arr.none],by simp[Arr.none],by simp[Arr.none]⟩
section
variable {o:Al} {a b n m:Arr}
theorem Amq(h:Ag o a=Ag o b):Ag o (M9 a)=Ag o (M9 b):=by
 rcases Ea h with ⟨h1,h2⟩ | ⟨_,_,h3,h4,_⟩
 · exact C0 h1 h2
 · unfold M9;rw[h3,h4]
theorem AjQ(h:Ag o a=Ag o b):Ag o (Od a)=Ag o (Od b):=by
 rcases Ea h with ⟨h1,h2⟩ | ⟨_,_,h3,_,h5⟩
 · exact C0 h1 h2
 · have hl:a.cells.length=b.cells.length:=by have:=congrArg Aql h5;simpa using this
   exact F9 h3 (by show [(a.cells.length:Int)] = [(b.cells.length:Int)];rw[hl]) h5
theorem Ans(h:Ag o a=Ag o b):Ag o (On a)=Ag o (On b):=by
 rcases Ea h with ⟨h1,h2⟩ | ⟨_,_,h3,h4,_⟩
 · exact C0 h1 h2
 · unfold On;rw[h3,h4]
theorem AgE(h:Ag o a=Ag o b):Ag o (Sy a)=Ag o (Sy b):=by
 rcases Ic h with rfl | ⟨h1,h2⟩
 · rfl
 · exact C0 h1 h2
theorem Afr(h:Ag o a=Ag o b):Ag o (J8 a)=Ag o (J8 b):=by
 have hs : ∀ x:Arr,Ay x.s o=false→Ay (J8 x).s o=false:=fun x hx=>by
   unfold J8
   split
   · exact hx
   · show Ay (_|||x.s) o=false;rw[Cj,hx,Bool.and_false]
 rcases Ea h with ⟨h1,h2⟩ | ⟨_,_,h3,_,h5⟩
 · exact C0 (hs a h1) (hs b h2)
 · unfold J8
   match ha:a.cells,hb:b.cells with
   | [],[]=>rw[h3]
   | [],c::cs=>rw[ha,hb]at h5;simp at h5
   | c::cs,[]=>rw[ha,hb]at h5;simp at h5
   | c::cs,d::ds =>
    rw[ha,hb]at h5
    simp only[Ap7,List.cons.injEq]at h5
    show Ag o (C2 (Gj c) a.s)=Ag o (C2 (Gj d) b.s)
    rw[h3];exact Qo (Acs h5.1)
theorem UT(h:Ag o a=Ag o b)(h':Ag o n=Ag o m)(s:Bool):Ag o (Mn a n s)=Ag o (Mn b m s):=by
 have hid : ∀ x y:Arr,(Ay (Au x) o&&Ay (Au y) o)=false→Ay (Mn x y s).s o=false:=fun x y hh=>by show Ay (Au x|||Au y) o=false;rw[Cj];exact hh
 rcases Ic h with rfl | ⟨h1,h2⟩
 · rcases Ic h' with rfl | ⟨h3,h4⟩
   · rfl
   · exact C0 (hid _ _ (by rw[h3,Bool.and_false])) (hid _ _ (by rw[h4,Bool.and_false]))
 · exact C0 (hid _ _ (by rw[h1];rfl)) (hid _ _ (by rw[h2];rfl))
theorem Xu{α β:Type}{f:α→β}{l m:List α}(h:l.map f=m.map f)(i:Nat)(z:α):f (l.getD i z)=f (m.getD i z):=by
 have hi:(l.map f)[i]? = (m.map f)[i]? := by rw[h]
 simp only[Aps]at hi
 rw[Ape,Ape]
 cases h1:l[i]? <;> cases h2:m[i]? <;> rw[h1,h2]at hi <;> simp at hi ⊢
 exact hi
theorem Alv(h':Ag o n=Ag o m)(h:Ag o a=Ag o b)(e1:(Hg n a).2=0)(e2:(Hg m b).2=0):Ag o (Hg n a).1=Ag o (Hg m b).1:=by
 have form : ∀ x y:Arr,(Hg x y).2=0→(Hg x y).1 = .mk (y.s|||Au x) (A9 x).1 (E9 y.cells (A7 (A9 x).1).1.toNat):=fun x y hh=>by
   unfold Hg at hh ⊢
   split
   · rename_i g1
     rw[if_pos g1]at hh
     split
     · rfl
     · rename_i g2;rw[if_neg g2]at hh;exact absurd hh g2
   · rename_i g1;rw[if_neg g1]at hh;exact absurd hh g1
 rw[form n a e1,form m b e2]
 rcases Ic h' with rfl | ⟨h3,h4⟩
 · rcases Ea h with ⟨h1,h2⟩ | ⟨_,_,h3,_,h5⟩
   · exact C0 (by show Ay (a.s|||_) o=false;rw[Cj,h1];rfl) (by show Ay (b.s|||_) o=false;rw[Cj,h2];rfl)
   · refine F9 (by show a.s|||_=b.s|||_;rw[h3]) rfl ?_
     have hl:a.cells.length=b.cells.length:=by have:=congrArg Aql h5;simpa using this
     show (E9 a.cells _).map (Bc o)=(E9 b.cells _).map (Bc o)
     unfold E9
     rw[List.map_map,List.map_map]
     refine List.map_congr_left (fun i _=> ?_)
     show Bc o (a.cells.getD (i % a.cells.length) (Bf 0))=Bc o (b.cells.getD (i % b.cells.length) (Bf 0))
     rw[hl];exact Xu h5 _ _
 · exact C0 (by show Ay (_|||Au n) o=false;rw[Cj,h3,Bool.and_false]) (by show Ay (_|||Au m) o=false;rw[Cj,h4,Bool.and_false])
theorem AeE(ra:Aj 8 a=true)(rb:Aj 8 b=true)(h:Ag o a=Ag o b)(e1:(Hr a).2=0)(e2:(Hr b).2=0):Ag o (Hr a).1=Ag o (Hr b).1:=by
 have form : ∀ x:Arr,(Hr x).2=0→(Hr x).1=if B9 x then x else I9 x:=fun x hh=>by
   unfold Hr at hh ⊢
   split
   · rfl
   · rename_i g1
     rw[if_neg g1]at hh
     split
     · rename_i g2;rw[if_pos g2]at hh;cases hh
     · rfl
 have hs : ∀ x:Arr,(if B9 x then x else I9 x).s=x.s:=fun x=>by split <;> rfl
 rw[form a e1,form b e2]
 rcases Ea h with ⟨h1,h2⟩ | ⟨h1,h2,h3,h4,h5⟩
 · exact C0 (by rw[hs];exact h1) (by rw[hs];exact h2)
 · by_cases hsh:a.shape = []
   · have la:a.cells.length=1:=by have:=(Ce ra).1;rw[hsh,PL]at this;have:=congrArg Prod.fst this;simp at this;omega
     have lb:b.cells.length=1:=by have:=congrArg Aql h5;simp at this;omega
     obtain ⟨c,hc⟩:=Is la
     obtain ⟨d,hd⟩:=Is lb
     have hcd:Bc o c=Bc o d:=by rw[hc,hd]at h5;simpa using h5
     have sa:B9 a=decide (¬ c.kind=2):=by unfold B9;rw[hsh,hc]
     have sb:B9 b=decide (¬ d.kind=2):=by unfold B9;rw[← h4,hsh,hd]
     have ba:Hl a=c.l:=by unfold Hl;rw[hsh,hc]
     have bb:Hl b=d.l:=by unfold Hl;rw[← h4,hsh,hd]
     have one : ∀ x:Arr,∀ y:Cell,x.shape = []→x.cells = [y]→Hl x=y.l→∃ z:Cell,(if B9 x then x else I9 x) = .mk x.s [] [z]∧z.l=y.l:=fun x y hx hy hb=>by
       split
       · exact ⟨y,by rw[← hx,← hy];exact Arr.eta x,rfl⟩
       · exact ⟨_,rfl,hb⟩
     rcases K7 hcd with ⟨g1,g2⟩ | ⟨g1,g2,g3,g4,_⟩
     · obtain ⟨z,hz,hzl⟩:=one a c hsh hc ba
       obtain ⟨w,hw,hwl⟩:=one b d (h4▸hsh) hd bb
       rw[hz,hw]
       exact F9 h3 rfl (by simp only[Arr.cells_mk,Ap7,List.map_nil,List.cons.injEq,and_true];exact Nf (hzl▸g1) (hwl▸g2))
     · have:B9 a=B9 b:=by rw[sa,sb,g4]
       rw[this]
       split
       · exact h
       · exact F9 h3 rfl (by simp only[I9,Arr.cells_mk,Ap7,List.map_nil,List.cons.injEq,and_true];exact Ng (by rw[ba,bb,g3]) rfl rfl rfl (by simpa using h))
   · have sa : ∀ x:Arr,x.shape≠[]→B9 x=false∧Hl x=0:=fun x hx=>by
       unfold B9 Hl
       match hh:x.shape with
       | []=>exact absurd hh hx
       | y::ys=>exact ⟨rfl,rfl⟩
     have a1:=sa a hsh
     have b1:=sa b (h4▸hsh)
     rw[a1.1,b1.1]
     exact F9 h3 rfl (by simp only[I9,Bool.false_eq_true,if_false,Arr.cells_mk,Ap7,List.map_nil,List.cons.injEq,and_true];exact Ng (by rw[a1.2,b1.2]) rfl rfl rfl (by simpa using h))
theorem AeH(h:Ag o a=Ag o b)(e1:(Fy a).2=0)(e2:(Fy b).2=0):Ag o (Fy a).1=Ag o (Fy b).1:=by
 have form : ∀ x:Arr,(Fy x).2=0→(Fy x).1.s=Au x:=fun x hh=>by
  unfold Fy at hh ⊢
  split
  · rfl
  · rename_i g;rw[if_neg g]at hh;cases hh
 rcases Ic h with rfl | ⟨h1,h2⟩
 · rfl
 · exact C0 (by rw[form a e1];exact h1) (by rw[form b e2];exact h2)
end
theorem NS{o:Al}{d:Nat}{a b:Arr}(h:Sml d a)(hh:Ag o a=Ag o b):Sp 14 [dA a,dA b,dB o] [.bool true]:=by
 have:=AS o d a b h
 rwa[O0.2 hh]at this
theorem ME{n:Int}{s:Al}(h:Bd n):Sml 1 (Do n s):=⟨by simp[Do],by simp[Do],by simp[Do],fun c hc=>by simp[Do]at hc;subst hc;exact Ku h 0⟩
theorem inr(z:Int)(h1 : -100000≤z:=by decide)(h2:z≤100000:=by decide):Bd z:=by unfold Bd;omega
theorem Ss{z:Int}{k:Nat}(h:z.natAbs<B ^ k):Bu z≤k:=Bb.2 h
theorem IN(z:Int):z.natAbs<B ^ Bu z:=Bb.1 (Apo _)
theorem Agt(x y:Int):Bu (x+y)≤max (Bu x) (Bu y)+1:=by
 refine Ss ?_
 have h1:x.natAbs<B ^ max (Bu x) (Bu y):=Aqb (IN x) (Nat.pow_le_pow_right B0 (Nat.le_max_left _ _))
 have h2:y.natAbs<B ^ max (Bu x) (Bu y):=Aqb (IN y) (Nat.pow_le_pow_right B0 (Nat.le_max_right _ _))
 have h3:=Int.natAbs_add_le x y
 rw[Aqj]
 generalize B ^ max (Bu x) (Bu y)=q at *
 rw[A5];omega
theorem Agu(x:Int):Bu (-x)=Bu x:=by unfold Bu;rw[Int.natAbs_neg]
theorem F6(z:Int):(wz z).mag.length=Bu z:=rfl
theorem XU : ∀ (k n:Nat) (out base:Int),Bu out≤100→Bu (Km k n out base).1≤100
 | 0,_,out,base,h=>h
 | k+1,n,out,base,h=>by
  have z0:Bu 0≤100:=by unfold Bu;rw[show Int.natAbs 0=0 from rfl,C9];simp
  rw[Km]
  generalize (if n % 2=1 then out*base else out)=o
  split
  · exact h
  split
  · exact z0
  split
  · exact z0
  rename_i h3
  split
  · show Bu o≤100;omega
  · exact XU k _ o _ (by omega)
theorem Ae3(x y:Int)(hy:y≠0):(El x y).1*y+(El x y).2=x∧(El x y).1.natAbs≤x.natAbs+1∧(El x y).2.natAbs<y.natAbs∧(0<y→0≤(El x y).2)∧(y<0→(El x y).2≤0):=by
 have hdm:=Nat.div_add_mod x.natAbs y.natAbs
 have hml:=Ap4 x.natAbs (show 0<y.natAbs by omega)
 have hdl:=Nat.div_le_self x.natAbs y.natAbs
 unfold El
 generalize x.natAbs / y.natAbs=q at *
 generalize x.natAbs % y.natAbs=r at *
 generalize hX:x.natAbs=X at *
 generalize hY:y.natAbs=Y at *
 have hdm':(Y:Int)*(q:Int)+(r:Int)=(X:Int):=by rw[← hdm];simp
 by_cases hx0:x<0 <;> by_cases hy0:y<0
 · obtain rfl:x = -(X:Int):=by omega
   obtain rfl:y = -(Y:Int):=by omega
   simp only[hx0,hy0,if_true]
   refine ⟨by rw[Int.mul_neg,Int.mul_comm];omega,by omega,by omega,fun h=>by first | omega | exact False.elim h,fun h=>by first | omega | exact False.elim h⟩
 · obtain rfl:x = -(X:Int):=by omega
   obtain rfl:y=(Y:Int):=by omega
   simp only[hx0,hy0,if_true]
   rw[if_neg (by simp)]
   split
   · rename_i h0
     subst h0
     refine ⟨by rw[Int.neg_mul,Int.mul_comm];omega,by omega,by omega,fun h=>by first | omega | exact False.elim h,fun h=>by first | omega | exact False.elim h⟩
   · refine ⟨by rw[Int.sub_mul,Int.neg_mul,Int.mul_comm (q:Int)];omega,by omega,by omega,fun h=>by first | omega | exact False.elim h,fun h=>by first | omega | exact False.elim h⟩
 · obtain rfl:x=(X:Int):=by omega
   obtain rfl:y = -(Y:Int):=by omega
   simp only[hx0,hy0,if_false]
   rw[if_neg (by simp)]
   split
   · rename_i h0
     subst h0
     refine ⟨by rw[Int.neg_mul_neg,Int.mul_comm];omega,by omega,by omega,fun h=>by first | omega | exact False.elim h,fun h=>by first | omega | exact False.elim h⟩
   · refine ⟨by rw[Int.sub_mul,Int.neg_mul_neg,Int.mul_comm (q:Int)];omega,by omega,by omega,fun h=>by first | omega | exact False.elim h,fun h=>by first | omega | exact False.elim h⟩
 · obtain rfl:x=(X:Int):=by omega
   obtain rfl:y=(Y:Int):=by omega
   simp only[hx0,hy0,if_false,if_true]
   refine ⟨by rw[Int.mul_comm];omega,by omega,by omega,fun h=>by first | omega | exact False.elim h,fun h=>by first | omega | exact False.elim h⟩
def Sr:ByteArray:=Kx
def Fz(i:Nat):Nat:=(Sr.data.toList.getD i 0).toNat
theorem Ags:((Ap8 256).all fun i=>decide (i<2 ^ Fz i)&&(i == 0||decide (2 ^ Fz i≤2*i))&&decide (Fz i≤8))=true:=by kernel_rfl
theorem P2{i:Nat}(h:i<256):i<2 ^ Fz i∧(0<i→2 ^ Fz i≤2*i)∧Fz i≤8:=by
 have:=Aqm.1 Ags i (List.mem_range.2 h)
 simp only[Api,decide_eq_true_eq,Bool.or_eq_true,beq_iff_eq]at this
 exact ⟨this.1.1,fun h0=>by rcases this.1.2 with h | h <;> omega,this.2⟩
theorem L5{x:Int}(h1:0≤x)(h2:x<256):Aom .u8 x=x:=by rw[IntKind.wrap_u8];omega
theorem QT(x y:Nat):Ap3 (x:Int) (y:Int)=((x / y:Nat):Int):=by
 rw[Int.fdiv_eq_ediv_of_nonneg _ (Int.natCast_nonneg _)];rfl
theorem Ad9(x:Nat)(hx:x<B) : ∃ k:Nat,Sp 341 [.int (x:Int)] [.int (k:Int)]∧k≤32∧x<2 ^ k∧(0<x→2 ^ k≤2*x):=by
 have e16:(2:Int) ^ (min (Apa 16) (Apl .u32))=((65536:Nat):Int):=by decide
 have e8:(2:Int) ^ (min (Apa 8) (Apl .u32))=((256:Nat):Int):=by decide
 have hsz:(Sr.size:Int)=256:=by
       have:Sr.size=256:=by kernel_rfl
       omega
 rw[A5]at hx
 have tr:=Ad_ 0 (.int (x:Int))
 rw[show Kx=Sr from rfl]at tr
 simp only[Ao,e16,e8,QT,hsz]at tr
 have fin : ∀ i c:Nat,i<256→c≤24→Aom .i64 ((c:Int)+Aom .i64 (((Sr.data.toList.getD (Apa (Aom .u8 (i:Int))) 0).toNat:Nat):Int))=((c+Fz i:Nat):Int):=by
   intro i c hi hc
   have h8:=(P2 hi).2.2
   rw[L5 (by omega) (by omega),Apj]
   show Aom .i64 ((c:Int)+Aom .i64 ((Fz i:Nat):Int))=_
   rw[Ax (x:=((Fz i:Nat):Int)) (by omega) (by omega),Ax (by omega) (by omega)];omega
 have up : ∀ i c:Nat,i<256→0<i→i=x / 2 ^ c→x<2 ^ (c+Fz i)∧2 ^ (c+Fz i)≤2*x:=by
   intro i c hi h0 he
   obtain ⟨h1,h2,_⟩:=P2 hi
   have h3:=h2 h0
   rw[Nat.pow_add]
   have hp:0<2 ^ c:=Nat.pow_pos (by decide)
   constructor
   · have:x / 2 ^ c<2 ^ Fz i:=by omega
     rw[Aqk hp]at this
     rwa[Ap9]
   · have h4:i*2 ^ c≤x:=by rw[he];exact Nat.div_mul_le_self _ _
     calc 2 ^ c*2 ^ Fz i≤2 ^ c*(2*i):=Nat.mul_le_mul_left _ h3
      _=2*(i*2 ^ c):=by rw[Nat.mul_left_comm,Ap9 (2 ^ c) i]
      _≤2*x:=Nat.mul_le_mul_left _ h4
 by_cases h1:65536≤x
 · by_cases h2:256≤x / 65536
   · have hi:x / 65536 / 256<256:=by omega
     obtain ⟨u1,u2⟩:=up _ 24 hi (by omega) (by rw[Aqd])
     have f1:=fin _ 24 hi (by omega)
     refine ⟨24+Fz (x / 65536 / 256),Af 0 tr ?_,by have:=(P2 hi).2.2;omega,u1,fun _=>u2⟩
     refine Ad (Bo (by decide) (Ad (Bo (by decide) (A0 (by rw[L5 (by omega) (by omega)];omega) (A0 (by rw[L5 (by omega) (by omega)];omega) (Ac ?_))))))
     rw[show Aom .i64 (16+8)=((24:Nat):Int) by decide,f1]
   · have hi:x / 65536<256:=by omega
     obtain ⟨u1,u2⟩:=up _ 16 hi (by omega) (by rfl)
     have f1:=fin _ 16 hi (by omega)
     refine ⟨16+Fz (x / 65536),Af 0 tr ?_,by have:=(P2 hi).2.2;omega,u1,fun _=>u2⟩
     refine Ad (Bo (by decide) (At (A0 (by rw[L5 (by omega) (by omega)];omega) (A0 (by rw[L5 (by omega) (by omega)];omega) (Ac ?_)))))
     rw[show (16:Int)=((16:Nat):Int) from rfl,f1]
 · by_cases h2:256≤x
   · have hi:x / 256<256:=by omega
     obtain ⟨u1,u2⟩:=up _ 8 hi (by omega) (by rfl)
     have f1:=fin _ 8 hi (by omega)
     refine ⟨8+Fz (x / 256),Af 0 tr ?_,by have:=(P2 hi).2.2;omega,u1,fun _=>u2⟩
     refine At (Ad (Bo (by decide) (A0 (by rw[L5 (by omega) (by omega)];omega) (A0 (by rw[L5 (by omega) (by omega)];omega) (Ac ?_)))))
     rw[show Aom .i64 (0+8)=((8:Nat):Int) by decide,f1]
   · have hi:x<256:=by omega
     have f1:=fin _ 0 hi (by omega)
     have h8:=P2 hi
     refine ⟨0+Fz x,Af 0 tr ?_,by omega,by rw[Aqo];exact h8.1,fun h0=>by rw[Aqo];exact h8.2.1 h0⟩
     refine At (At (A0 (by rw[L5 (by omega) (by omega)];omega) (A0 (by rw[L5 (by omega) (by omega)];omega) (Ac ?_))))
     rw[show (0:Int)=((0:Nat):Int) from rfl,f1]
theorem AdA(x:Nat)(hx:x<B)(h0:0<x) : ∃ s:Nat,Sp 335 [.int (x:Int)] [.int (s:Int)]∧s<32∧x*2 ^ s<B∧B≤2*(x*2 ^ s):=by
 obtain ⟨k,h1,h2,h3,h4⟩:=Ad9 x hx
 have h5:=h4 h0
 have hk:0<k:=by
   rcases Nat.eq_zero_or_pos k with e | e
   · subst e;simp at h3;omega
   · exact e
 have hb:B=2 ^ k*2 ^ (32-k):=by rw[← Nat.pow_add,show k+(32-k)=32 by omega];rfl
 have hp:0<2 ^ (32-k):=Nat.pow_pos (by decide)
 refine ⟨32-k,Af 0 (Ad8 _ _) (Aa h1 (Ac ?_)),by omega,?_,?_⟩
 · simp only[Ah,Ao]
   rw[Ax (by omega) (by omega)];congr 2;omega
 · rw[hb];exact Nat.mul_lt_mul_of_pos_right h3 hp
 · rw[hb,← Nat.mul_assoc];exact Apu _ h5
theorem AhY{l m:List Ar}(hl:l.length=m.length)(h:nv l=nv m):l=m:=by
 apply List.ext_getElem hl
 intro i g1 g2
 apply BitVec.eq_of_toNat_eq
 rw[Eg l i g1,Eg m i g2,h]
theorem AhZ{v k:Nat}(h:v<B ^ k) : ∃ q:List Ar,q.length=k∧nv q=v:=by
 have h2:=Bb.2 h
 refine ⟨lb v++Apc (k-(lb v).length) 0,by simp;omega,?_⟩
 rw[H1,Yw,Bv];simp
theorem WJ{X Y:Nat}(hX:X<18446744073709551616)(hY:Y<18446744073709551616):Br .or .u64 (X:Int) (Y:Int)=((X|||Y:Nat):Int):=by
 have h:Br .or .u64 (X:Int) (Y:Int)=bits .or .u64 (X:Int) (Y:Int):=by unfold Br bits;simp
 rw[h,u64_or_nat X Y hX hY]
theorem AiF{x c s:Nat}(hx:x<B)(hs:s<32)(hc:c<2 ^ s):Br .or .u64 ((x*2 ^ s:Nat):Int) (c:Int)=((x*2 ^ s+c:Nat):Int)∧x*2 ^ s+c<9223372036854775808:=by
 have h2:2 ^ s≤2 ^ 31:=Nat.pow_le_pow_right (by decide) (by omega)
 have h3:x*2 ^ s≤(B-1)*2 ^ 31:=Nat.mul_le_mul (by omega) h2
 rw[A5]at *
 refine ⟨?_,by omega⟩
 rw[WJ (by omega) (by omega)]
 congr 1
 have:=Nat.shiftLeft_add_eq_or_of_lt (i:=s) (b:=c) hc x
 rw[Nat.shiftLeft_eq]at this
 exact this.symm
theorem YH{s:Nat}(hs:s<32):(2:Int) ^ (min (Apa (Aom .u64 (s:Int))) (Apl .u64))=((2 ^ s:Nat):Int):=by
 rw[Bt (by omega) (by omega),Apj,show Apl .u64=64 from rfl,Nat.min_eq_left (by omega)];simp
theorem VO(l:List Ar)(s:Nat)(hs:s<32)(hl:l.length≤1000000) : ∃ q:List Ar,q.length=l.length+1∧nv q=nv l*2 ^ s∧Sp 336 [dL l,.int (s:Int)] [dL q]:=by
 have hps:2 ^ s≤2 ^ 31:=Nat.pow_le_pow_right (by decide) (by omega)
 have hs0:0<2 ^ s:=Nat.pow_pos (by decide)
 have hv:nv l*2 ^ s<B ^ (l.length+1):=by
  rw[Aqj]
  exact Nat.mul_lt_mul'' (Cd l) (by rw[A5];omega)
 obtain ⟨q,hq1,hq2⟩:=AhZ hv
 refine ⟨q,hq1,hq2,Af (l.length+2) (Ah_ _ _ _) ?_⟩
 simp only[Ai]
 rw[Ax (by omega) (by omega)]
 refine Ad (Ad (A0 (by simp only[Am];omega) ?_))
 rw[show (l.length:Int)+1=((l.length+1:Nat):Int) by omega,Apj]
 have key:=Dl l.length (fun m i (t:List Ar×Nat)=>Yq (l.length+2) m (dL l) (s:Int) ((t.1++Apc (l.length+1-i) 0).map dB) (t.2:Int) (dL l) (l.length:Int) (i:Int)) (fun _ _=>[dL q])
  (fun i t=>t.1.length=i∧t.2<2 ^ s∧nv t.1+B ^ i*t.2=(nv l % B ^ i)*2 ^ s)
  (fun m t ⟨h1,h2,h3⟩=>by
   have hlen:(t.1++Apc (l.length+1-l.length) (0:Ar)).length=l.length+1:=by simp[h1]
   have hc:t.2<B:=by rw[A5];omega
   rw[Ap6 (Cd l)]at h3
   simp only[VQ,Ai,hlen]
   rw[A5]at hc
   rw[Ft (x:=(t.2:Int)) (by omega) (by omega)]
   rw[← A5]at hc
   refine At (Ad (Ad (Ac ?_)))
   rw[Ew hc,map_set,List.set_append_right _ _ (by omega),h1,Nat.sub_self,show l.length+1-l.length=1 by omega]
   have:t.1++[Apw 32 t.2]=q:=AhY (by simp[h1,hq1]) (by rw[Jl,h1,ofNat_lt hc,h3,hq2])
   rw[← this];rfl)
  (fun m i t hi ⟨h1,h2,h3⟩ ih=>by
   have gx:=Eg l i hi
   have xl:nv l / B ^ i % B<B:=Ap4 _ B0
   have hms:nv l % B ^ (i+1)=nv l % B ^ i+B ^ i*(nv l / B ^ i % B):=Nat.mod_pow_succ
   have hlen:(t.1++Apc (l.length+1-i) (0:Ar)).length=l.length+1:=by simp[h1];omega
   have gX:(l.map dB).getD i D.nil=D.int ((nv l / B ^ i % B:Nat):Int):=by rw[Aw (Apb hi),← gx];rfl
   simp only[VQ,Ai,gX,hlen,YH hs,Bh i]
   generalize nv l / B ^ i % B=x at *
   obtain ⟨ho,hT⟩:=AiF xl hs h2
   have hxB:=xl
   rw[A5]at hxB
   rw[Bt (x:=(x:Int)) (by omega) (by omega),← Int.natCast_mul,Bt (x:=((x*2 ^ s:Nat):Int)) (by omega) (by omega),ho]
   generalize hTT:x*2 ^ s+t.2=T at *
   have hTl:=Ap4 T B0
   have t4:Aom .u32 (T:Int)=((T % B:Nat):Int):=by rw[IntKind.wrap_u32,A5];omega
   have Cu:((t.1++Apc (l.length+1-i) 0).map dB).set i (D.int ((T % B:Nat):Int))=((t.1++[Apw 32 (T % B)])++Apc (l.length+1-(i+1)) 0).map dB:=by
     rw[Ew hTl,map_set,List.set_append_right _ _ (by omega),h1,Nat.sub_self,show l.length+1-i=(l.length+1-(i+1))+1 by omega,List.replicate_succ,List.set_cons_zero];simp
   rw[t4,Cu,Pj]
   refine Ad (Ad (Ad (A0 (by rw[Bt (by omega) (by omega)];omega) (Ad (Ad (Bo (by decide) ?_))))))
   refine ih (t.1++[Apw 32 (T % B)],T / 4294967296) ⟨by simp[h1],?_,?_⟩
   · show T / B<2 ^ s
     rw[Aqk B0,← hTT]
     have:x*2 ^ s+2 ^ s≤B*2 ^ s:=by rw[← Nat.succ_mul];exact Apu _ xl
     rw[Ap9 (2 ^ s) B];omega
   · show nv (t.1++[Apw 32 (T % B)])+B ^ (i+1)*(T / B)=_
     rw[Jl,h1,ofNat_lt hTl,hms,Nat.add_mul,← h3,Aqj,Nat.mul_assoc,Nat.mul_assoc (B ^ i) x,Nat.add_assoc,← Nat.mul_add,Nat.mod_add_div,← hTT,Nat.mul_add]
     omega)
  (l.length+2) 0 ([],0) (by omega) (by omega) ⟨rfl,hs0,by simp[Nat.mod_one,nv]⟩
 have e0:(([]:List Ar)++Apc (l.length+1-0) 0).map dB=Apc (l.length+1) (D.int 0):=by simp[List.map_replicate];rfl
 rw[e0]at key
 exact key
theorem Ae4(V s k:Nat)(hs:s<32):V / 2 ^ s / B ^ k % B=((V / B ^ (k+1) % B)*B+V / B ^ k % B) / 2 ^ s % B:=by
 have hs0:0<2 ^ s:=Nat.pow_pos (by decide)
 have hB:B=2 ^ s*2 ^ (32-s):=by rw[← Nat.pow_add,show s+(32-s)=32 by omega];rfl
 rw[Aqd,Ap9 (2 ^ s),← Aqd,Aqj,← Aqd]
 generalize V / B ^ k=W
 have h1:W=(W / B % B*B+W % B)+2 ^ s*(B*(2 ^ (32-s)*(W / B / B))):=by
  have e1:=Nat.div_add_mod W B
  have e2:=Nat.div_add_mod (W / B) B
  have e3:2 ^ s*(B*(2 ^ (32-s)*(W / B / B)))=B*(B*(W / B / B)):=by
   rw[Nat.mul_left_comm,← Nat.mul_assoc (2 ^ s),← hB]
  rw[e3,Ap9 (W / B % B) B]
  have e4:B*(W / B)=B*(B*(W / B / B))+B*(W / B % B):=by rw[← Nat.mul_add,e2]
  omega
 have h2:W / 2 ^ s=(W / B % B*B+W % B) / 2 ^ s+B*(2 ^ (32-s)*(W / B / B)):=by
  have:W / 2 ^ s=((W / B % B*B+W % B)+2 ^ s*(B*(2 ^ (32-s)*(W / B / B)))) / 2 ^ s:=by rw[← h1]
  rw[this,Nat.add_mul_div_left _ _ hs0]
 rw[h2,Nat.add_mul_mod_self_left]
theorem Ahy(l:List Ar)(s:Nat)(hs:s<32)(hl:l.length≤1000000):Sp 340 [dL l,.int (s:Int)] [dL (lb (nv l / 2 ^ s))]:=by
 refine Af (l.length+1) (Ahz _ _ _) ?_
 simp only[Ai]
 refine Ad (Ad (A0 (by simp only[Am];omega) ?_))
 have key:=Ji (P:=Tryz.prog) (md:=md) (fun m k (hi:List Ar)=>Yh (l.length+1) m (dL l) (s:Int) ((Apc k 0++hi).map dB) ((nv l / B ^ k % B:Nat):Int) ((k:Int)-1)) (fun _ _=>[dL (lb (nv l / 2 ^ s))])
  (fun k hi=>k≤l.length∧hi.length=l.length-k∧nv hi=nv l / 2 ^ s / B ^ k)
  (fun m hi ⟨h0,h1,h2⟩=>by
   simp only[VK,List.replicate_zero,Aqp,Ai]
   refine At (Aa (F3 hi (by omega)) (Ac ?_))
   rw[h2,Nat.pow_zero,Nat.div_one];rfl)
  (fun m k hi ⟨h0,h1,h2⟩ ih=>by
   have hk:k<l.length:=by omega
   have gx:=Eg l k hk
   have xl:nv l / B ^ k % B<B:=Ap4 _ B0
   have yl:nv l / B ^ (k+1) % B<B:=Ap4 _ B0
   have hd:=Ae4 (nv l) s k hs
   have hlen:(Apc (k+1) (0:Ar)++hi).length=l.length:=by simp[h1];omega
   have gX:(l.map dB).getD k D.nil=D.int ((nv l / B ^ k % B:Nat):Int):=by rw[Aw (Apb hk),← gx];rfl
   have b64:(2:Int) ^ (min (Apa 32) (Apl .u64))=4294967296:=by decide
   have rc:=ih (Apw 32 (((nv l / B ^ (k+1) % B)*B+nv l / B ^ k % B) / 2 ^ s % B)::hi) ⟨by omega,by simp[h1];omega,by
    rw[nv,ofNat_lt (Ap4 _ B0),h2,← hd,Aqj,← Aqd]
    exact Nat.mod_add_div _ _⟩
   simp only[VK,show ((k+1:Nat):Int)-1=(k:Int) by omega,Ai,gX,hlen,YH hs,b64]
   generalize nv l / B ^ k % B=x at *
   generalize nv l / B ^ (k+1) % B=y at *
   have hxB:=xl
   have hyB:=yl
   rw[A5]at hxB hyB
   have t1:Aom .u64 ((y:Int)*4294967296)=((y*4294967296:Nat):Int):=by rw[Bt (by omega) (by omega)];omega
   rw[t1,Bt (x:=(x:Int)) (by omega) (by omega),Zc hyB hxB,QT]
   have t4:Aom .u32 (((y*4294967296+x) / 2 ^ s:Nat):Int)=(((y*B+x) / 2 ^ s % B:Nat):Int):=by
    rw[show y*4294967296+x=y*B+x from rfl]
    generalize (y*B+x) / 2 ^ s=T
    rw[IntKind.wrap_u32,A5];omega
   have hTl:=Ap4 ((y*B+x) / 2 ^ s) B0
   have Cu:((Apc (k+1) 0++hi).map dB).set k (D.int (((y*B+x) / 2 ^ s % B:Nat):Int))=(Apc k 0++(Apw 32 ((y*B+x) / 2 ^ s % B)::hi)).map dB:=by
    rw[Ew hTl,map_set,List.replicate_succ',Apz,List.set_append_right _ _ (by simp)];simp
   rw[t4,Cu,Ax (by omega) (by omega)]
   refine Ad (Bo (by decide) (Ad (Ad (A0 (by rw[Bt (by omega) (by omega)];omega) (Ad (Ad (Ad (Ad ?_))))))))
   exact rc)
  (l.length+1) l.length [] (by omega) ⟨by omega,by simp,by
   rw[Nat.div_eq_of_lt (Nat.lt_of_le_of_lt (Nat.div_le_self _ _) (Cd l))];rfl⟩
 rw[Apx,Nat.div_eq_of_lt (Cd l),Nat.zero_mod]at key
 have e0:(Apc l.length (0:Ar)).map dB=Apc l.length (D.int 0):=by rw[List.map_replicate];rfl
 rw[e0]at key
 rw[Ax (by omega) (by omega)]
 exact key
theorem AeM{U D D2 U3 p g:Nat}(hD:D<(D2+1)*p)(hU:U3*p≤U)(hg:g*D2≤U3)(hg1:g≤D2+1)(hD0:0<D):g≤U / D+1:=by
 rcases Nat.eq_zero_or_pos g with h0 | h0
 · rw[h0];exact Nat.zero_le _
 obtain ⟨h,rfl⟩ : ∃ h,g=h+1:=⟨g-1,by omega⟩
 refine Nat.succ_le_succ ((Nat.le_div_iff_mul_le hD0).2 ?_)
 have h1:h*D≤h*((D2+1)*p):=Nat.mul_le_mul_left _ (Nat.le_of_lt hD)
 have h2:h*(D2+1)≤(h+1)*D2:=by rw[Nat.mul_add,Nat.add_mul];omega
 calc h*D≤h*((D2+1)*p):=h1
  _=h*(D2+1)*p:=by rw[Nat.mul_assoc]
  _≤(h+1)*D2*p:=Apu _ h2
  _≤U3*p:=Apu _ hg
  _≤U:=hU
theorem AeL{U D D2 U3 p g:Nat}(hD:D2*p≤D)(hU:U<(U3+1)*p)(hgt:U3<g*D2)(hD0:0<D):U / D<g:=by
 rw[Aqk hD0]
 calc U<(U3+1)*p:=hU
  _≤g*D2*p:=Apu _ hgt
  _=g*(D2*p):=Nat.mul_assoc _ _ _
  _≤g*D:=Nat.mul_le_mul_left _ hD
theorem Ah0(xs ds:List Ar)(n:Nat)(hd:ds.length=n+2)(hx:xs.length=n+3)(hn:n≤1000000)(htop:B ^ (n+2)≤2*nv ds)(hU:nv xs<B*nv ds) :
  ∃ g:Nat,Sp 337 [dL xs,dL ds] [.int (g:Int)]∧nv xs / nv ds≤g∧g≤nv xs / nv ds+1∧g<B:=by
 have xl:=Cd xs
 have dl:=Cd ds
 rw[hx]at xl
 rw[hd]at dl
 have hp:=Bp n
 have a0:=Eg xs n (by omega)
 have a1:=Eg xs (n+1) (by omega)
 have a2:=Eg xs (n+2) (by omega)
 have d0:=Eg ds n (by omega)
 have d1:=Eg ds (n+1) (by omega)
 have gx0:(xs.map dB).getD n D.nil=D.int ((nv xs / B ^ n % B:Nat):Int):=by rw[Aw (Apb (show n<xs.length by omega)),← a0];rfl
 have gx1:(xs.map dB).getD (n+1) D.nil=D.int ((nv xs / B ^ (n+1) % B:Nat):Int):=by rw[Aw (Apb (show n+1<xs.length by omega)),← a1];rfl
 have gx2:(xs.map dB).getD (n+2) D.nil=D.int ((nv xs / B ^ (n+2) % B:Nat):Int):=by rw[Aw (Apb (show n+2<xs.length by omega)),← a2];rfl
 have gd0:(ds.map dB).getD n D.nil=D.int ((nv ds / B ^ n % B:Nat):Int):=by rw[Aw (Apb (show n<ds.length by omega)),← d0];rfl
 have gd1:(ds.map dB).getD (n+1) D.nil=D.int ((nv ds / B ^ (n+1) % B:Nat):Int):=by rw[Aw (Apb (show n+1<ds.length by omega)),← d1];rfl
 clear a0 a1 a2 d0 d1
 generalize nv xs=U at *
 generalize nv ds=D at *
 have eB2:B ^ (n+2)=B ^ n*(B*B):=by rw[Nat.pow_add];rfl
 have eB3:B ^ (n+3)=B ^ n*(B*B*B):=by rw[Nat.pow_add];rfl
 have e1U:U / B ^ (n+1)=U / B ^ n / B:=by rw[Aqj,Aqd]
 have e2U:U / B ^ (n+2)=U / B ^ n / B / B:=by rw[eB2,Aqd,Aqd]
 have e1D:D / B ^ (n+1)=D / B ^ n / B:=by rw[Aqj,Aqd]
 rw[e1U]at gx1
 rw[e2U]at gx2
 rw[e1D]at gd1
 have hD1:D / B ^ n*B ^ n≤D:=Nat.div_mul_le_self _ _
 have hD2:D<(D / B ^ n+1)*B ^ n:=by have:=Nat.lt_mul_div_succ D hp;rwa[Ap9]at this
 have hU1:U / B ^ n*B ^ n≤U:=Nat.div_mul_le_self _ _
 have hU2:U<(U / B ^ n+1)*B ^ n:=by have:=Nat.lt_mul_div_succ U hp;rwa[Ap9]at this
 have hU3:U / B ^ n<B*B*B:=by rw[Aqk hp,Ap9];rwa[eB3]at xl
 have hDs:D / B ^ n<B*B:=by rw[Aqk hp,Ap9];rwa[eB2]at dl
 have hDt:B*B≤2*(D / B ^ n)+1:=by
  have h1:B ^ n*(B*B)<B ^ n*(2*(D / B ^ n)+2):=by
   rw[← eB2,Nat.mul_add]
   have:B ^ n*(2*(D / B ^ n))=2*(D / B ^ n*B ^ n):=by rw[Nat.mul_left_comm,Ap9 (B ^ n)]
   rw[this]
   have h3:D<D / B ^ n*B ^ n+B ^ n:=by rwa[Nat.add_mul,Nat.one_mul]at hD2
   omega
  have:=Nat.lt_of_mul_lt_mul_left h1
  omega
 have hD0:0<D:=by
  rcases Nat.eq_zero_or_pos D with h | h
  · rw[h]at hU;omega
  · exact h
 have hUD:U / B ^ n<B*(D / B ^ n+1):=by
  rw[Aqk hp,Nat.mul_assoc]
  exact Nat.lt_trans hU (Nat.mul_lt_mul_of_pos_left hD2 B0)
 have hqB:U / D<B:=by rw[Aqk hD0];exact hU
 generalize hU3e:U / B ^ n=U3 at *
 generalize hD2e:D / B ^ n=D2 at *
 have x0l:=Ap4 U3 B0
 have x1l:=Ap4 (U3 / B) B0
 have x2l:U3 / B / B<B:=by rw[Aqd,Aqk (by decide)];rwa[← Nat.mul_assoc]
 have y0l:=Ap4 D2 B0
 have y1l:D2 / B<B:=by rw[Aqk B0];exact hDs
 rw[Ap6 x2l]at gx2
 rw[Ap6 y1l]at gd1
 have eU:U3=U3 % B+B*(U3 / B % B+B*(U3 / B / B)):=by
  rw[Nat.mod_add_div,Nat.mod_add_div]
 have eD:D2=D2 % B+B*(D2 / B):=(Nat.mod_add_div _ _).symm
 generalize U3 % B=x0 at *
 generalize U3 / B % B=x1 at *
 generalize U3 / B / B=x2 at *
 generalize D2 % B=y0 at *
 generalize D2 / B=y1 at *
 have y1g:2147483648≤y1:=by rw[A5]at *; omega
 have x2y:x2≤y1:=by rw[A5]at *; omega
 have fin : ∀ g:Nat,g<B→U / D≤g→g*D2≤U3→U / D≤g∧g≤U / D+1∧g<B:=fun g h1 h2 h3 =>
  ⟨h2,AeM hD2 hU1 h3 (by rw[A5]at *; omega) hD0,h1⟩
 have eH:U3=(x2*B+x1)*B+x0:=by rw[eU,Nat.add_mul,Nat.mul_add,Ap9 B (B*x2),Ap9 B x2,Ap9 B x1];omega
 have b64:(2:Int) ^ (min (Apa 32) (Apl .u64))=4294967296:=by decide
 have wy1:Aom .u64 (y1:Int)=(y1:Int):=by rw[A5]at *; exact Bt (by omega) (by omega)
 have wy0:Aom .u64 (y0:Int)=(y0:Int):=by rw[A5]at *; exact Bt (by omega) (by omega)
 have wx0:Aom .u64 (x0:Int)=(x0:Int):=by rw[A5]at *; exact Bt (by omega) (by omega)
 have wx1:Aom .u64 (x1:Int)=(x1:Int):=by rw[A5]at *; exact Bt (by omega) (by omega)
 have wx2:Aom .u64 (x2:Int)=(x2:Int):=by rw[A5]at *; exact Bt (by omega) (by omega)
 have i1:Aom .i64 (((n+2:Nat):Int)-1)=((n+1:Nat):Int):=by rw[Ax (by omega) (by omega)];omega
 have i2:Aom .i64 (((n+2:Nat):Int)-2)=((n:Nat):Int):=by rw[Ax (by omega) (by omega)];omega
 have loop : ∀ (m N g r:Nat),g<m→g*y1+r=x2*B+x1→U / D≤g→r<B →
   ∃ y:Nat,Tw (Qa N m (dL xs) (dL ds) ((n+2:Nat):Int) (g:Int) (r:Int)) [.int (y:Int)]∧U / D≤y∧y≤U / D+1∧y<B:=by
  intro m
  induction m with
  | zero=>intro N g r h;omega
  | succ m ih =>
   intro N g r hm he hq hr
   have gl:g<18446744073709551616:=by
     have:g*1≤g*y1:=Nat.mul_le_mul_left _ (by omega)
     rw[A5]at *; omega
   have e1:Aom .u64 ((r:Int)+(y1:Int))=((r+y1:Nat):Int):=by rw[A5]at *; rw[Bt (by omega) (by omega)];omega
   have stp:0<g→U / D≤g-1→∃ y:Nat,Tw (.br (decide (0≤((n+1:Nat):Int))) (.br (decide (((n+1:Nat):Int)<((n+2:Nat):Int))) (.br (decide ((0:Int)≤32)) (.br (decide (¬ (((r+y1) / 4294967296:Nat):Int)=0)) (.ret [.int (Aom .u64 ((g:Int)-1))]) (Qa N m (dL xs) (dL ds) ((n+2:Nat):Int) (Aom .u64 ((g:Int)-1)) ((r+y1:Nat):Int))) .fail) .fail) .fail) [.int (y:Int)]∧U / D≤y∧y≤U / D+1∧y<B:=by
     intro h0 hq'
     obtain ⟨h,rfl⟩ : ∃ h,g=h+1:=⟨g-1,by omega⟩
     simp only[Nat.add_sub_cancel]at hq'
     have ew:Aom .u64 (((h+1:Nat):Int)-1)=(h:Int):=by rw[Bt (by omega) (by omega)];omega
     rw[ew]
     have he':h*y1+(r+y1)=x2*B+x1:=by rw[← he,Nat.add_mul];omega
     by_cases hb:r+y1<B
     · obtain ⟨y,t1,t2⟩:=ih N h (r+y1) (by omega) he' hq' hb
       refine ⟨y,Ad (Ad (Bo (by decide) (Ow ?_ t1))),t2⟩
       rw[A5]at hb;omega
     · have hlt:h<B:=by
         have h3:x2*B≤y1*B:=Apu _ x2y
         have h4:h*y1<B*y1:=by rw[Ap9 B y1];omega
         exact Nat.lt_of_mul_lt_mul_right h4
       refine ⟨h,Ad (Ad (Bo (by decide) (A0 ?_ (Ac rfl)))),fin h hlt hq' ?_⟩
       · rw[A5]at hb;omega
       · have h5:h*y0≤B*B:=Nat.mul_le_mul (by omega) (by omega)
         have h6:B*B≤(r+y1)*B:=Apu _ (by omega)
         rw[eH,← he',eD,Nat.mul_add,Nat.add_mul,Nat.mul_left_comm h B y1,Ap9 B (h*y1)]
         omega
   simp only[Ah1,Ai,hd,hx,i1,i2,gx0,gd0,gd1,wy1,wy0,wx0,e1,Pj]
   by_cases hgB:g<B
   · have c0:((g / 4294967296:Nat):Int)=0:=by rw[A5]at hgB;omega
     have hrB:=hr
     have x0B:=x0l
     rw[A5]at hrB x0B
     have t1:Aom .u64 ((r:Int)*4294967296)=((r*4294967296:Nat):Int):=by rw[Bt (by omega) (by omega)];omega
     have gy:g*y0≤(B-1)*(B-1):=Nat.mul_le_mul (by omega) (by omega)
     have t2:Aom .u64 ((g:Int)*(y0:Int))=((g*y0:Nat):Int):=by rw[← Int.natCast_mul];rw[A5]at gy;exact Bt (by omega) (by omega)
     rw[b64,t1,Zc hrB x0B,t2,c0]
     by_cases ht:r*B+x0<g*y0
     · have hlow:U / D<g:=AeL hD1 hU2 (by
         rw[eH,← he,eD,Nat.mul_add,Nat.add_mul,Nat.mul_left_comm g B y1,Ap9 B (g*y1)];omega) hD0
       obtain ⟨y,s1,s2⟩:=stp (Nat.lt_of_le_of_lt (Nat.zero_le _) hlow) (Nat.le_sub_one_of_lt hlow)
       refine ⟨y,Bo (by decide) (At (Ad (Ad (Bo (by decide) (Ad (Ad (A0 ?_ s1))))))),s2⟩
       rw[A5]at ht;omega
     · refine ⟨g,Bo (by decide) (At (Ad (Ad (Bo (by decide) (Ad (Ad (Ow ?_ (Ac rfl)))))))),fin g hgB hq ?_⟩
       · rw[A5]at ht;omega
       · rw[eH,← he,eD,Nat.mul_add,Nat.add_mul,Nat.mul_left_comm g B y1,Ap9 B (g*y1)];omega
   · obtain ⟨y,s1,s2⟩:=stp (by rw[A5]at hgB;omega) (by omega)
     refine ⟨y,Bo (by decide) (A0 ?_ s1),s2⟩
     rw[A5]at hgB;omega
 have hH:(x2*B+x1) / y1*y1+(x2*B+x1) % y1=x2*B+x1:=by rw[Ap9];exact Nat.div_add_mod _ _
 have hr0:(x2*B+x1) % y1<B:=Nat.lt_trans (Ap4 _ (by omega)) y1l
 have hq0:U / D≤(x2*B+x1) / y1:=by
  rw[Nat.le_div_iff_mul_le (by omega)]
  have h1:U / D*D≤U:=Nat.div_mul_le_self _ _
  have h2:U / D*(D2*B ^ n)<(U3+1)*B ^ n:=Nat.lt_of_le_of_lt (Nat.le_trans (Nat.mul_le_mul_left _ hD1) h1) hU2
  rw[← Nat.mul_assoc]at h2
  have h3:=Nat.lt_of_mul_lt_mul_right h2
  have h4:U / D*(B*y1)≤U / D*D2:=Nat.mul_le_mul_left _ (by omega)
  have h5:U / D*y1*B<(x2*B+x1+1)*B:=by
   have:U / D*(B*y1)=U / D*y1*B:=by rw[Ap9 B y1,Nat.mul_assoc]
   rw[← this,Nat.add_mul,Nat.one_mul]
   omega
  have:=Nat.lt_of_mul_lt_mul_right h5
  omega
 obtain ⟨g,l1,l2⟩:=loop ((x2*B+x1) / y1+1) ((x2*B+x1) / y1+1) ((x2*B+x1) / y1) ((x2*B+x1) % y1) (by omega) hH hq0 hr0
 refine ⟨g,Af ((x2*B+x1) / y1+1) (Ah2 _ _ _) ?_,l2⟩
 have x1B:=x1l
 have x2B:=x2l
 rw[A5]at x1B x2B
 have t1:Aom .u64 ((x2:Int)*4294967296)=((x2*4294967296:Nat):Int):=by rw[Bt (by omega) (by omega)];omega
 have hne:decide ¬ (y1:Int)=0=true:=by simp;omega
 have eq1:Aom .u64 (Int.tdiv ((x2*4294967296+x1:Nat):Int) (y1:Int))=(((x2*B+x1) / y1:Nat):Int):=by
  rw[show Int.tdiv ((x2*4294967296+x1:Nat):Int) (y1:Int)=(((x2*B+x1) / y1:Nat):Int) from rfl]
  have h1:(x2*B+x1) / y1≤x2*B+x1:=Nat.div_le_self _ _
  generalize (x2*B+x1) / y1=Q at h1 ⊢
  rw[A5]at h1
  exact Bt (by omega) (by omega)
 have eq2:Int.tmod ((x2*4294967296+x1:Nat):Int) (y1:Int)=(((x2*B+x1) % y1:Nat):Int):=rfl
 simp only[Ai,hd,hx,i1,gx1,gx2,gd1,wy1,wx1,wx2,b64,t1,Zc x2B x1B,eq1,eq2]
 exact Ad (Ad (Bo (by decide) (Ad (Ad (Ad (Ad (Ad (Ad (Ad (Ad l1))))))))))
open Go.RowKit
def O9(x y c:Int):Int:=if x<y+c then 1 else 0
theorem Anj(x y c:Int)(hx1:0≤x)(hx2:x<4294967296)(hy1:0≤y)(hy2:y<4294967296)(hc1:0≤c)(hc2:c≤1) :
  bits BinOp.or IntKind.u32 (bits BinOp.and IntKind.u32 (bits BinOp.xor IntKind.u32 IntKind.u32.max x) y) (bits BinOp.and IntKind.u32 (bits BinOp.xor IntKind.u32 IntKind.u32.max (bits BinOp.xor IntKind.u32 x y)) ((x-y-c) % 4294967296)) / 2147483648=O9 x y c:=by
 obtain ⟨X,rfl⟩:=Int.eq_ofNat_of_zero_le hx1
 obtain ⟨Y,rfl⟩:=Int.eq_ofNat_of_zero_le hy1
 obtain ⟨C,rfl⟩:=Int.eq_ofNat_of_zero_le hc1
 have hD0:0≤((X:Int)-Y-C) % 4294967296:=by omega
 obtain ⟨D,hD⟩:=Int.eq_ofNat_of_zero_le hD0
 have hm:IntKind.u32.max=((4294967295:Nat):Int):=by decide
 have e1:(4294967295^^^X)<2 ^ 32:=Nat.xor_lt_two_pow (by omega) (by omega)
 have e2:(X^^^Y)<2 ^ 32:=Nat.xor_lt_two_pow (by omega) (by omega)
 have e3:(4294967295^^^(X^^^Y))<2 ^ 32:=Nat.xor_lt_two_pow (by omega) e2
 have e4:((4294967295^^^X)&&&Y)<2 ^ 32:=Nat.and_lt_two_pow _ (by omega)
 have e5:((4294967295^^^(X^^^Y))&&&D)<2 ^ 32:=Nat.and_lt_two_pow _ (by omega)
 rw[hD,hm,u32_xor_nat 4294967295 X (by omega) (by omega),u32_xor_nat X Y (by omega) (by omega),u32_xor_nat 4294967295 _ (by omega) (by omega),u32_and_nat _ Y (by omega) (by omega),u32_and_nat _ D (by omega) (by omega),u32_or_nat _ _ (by omega) (by omega)]
 have:=AbP X Y D C (by omega) (by omega) (by omega) (by rw[← hD])
 rw[this];unfold O9
 by_cases h:X<Y+C
 · rw[if_pos h,if_pos (by omega)]
 · rw[if_neg h,if_neg (by omega)]
set_option maxHeartbeats 400000 in
theorem AcT(x y c:Int)(w:World)(hx:0≤x∧x<4294967296)(hy:0≤y∧y<4294967296)(hc:0≤c∧c≤1) :
  Calls Tryz.prog 333 #[.int .u32 x,.int .u32 y,.int .u32 c] w fun e w'=>e = .returned (.tuple #[.int .u32 ((x+y+c) % 4294967296),.int .u32 ((x+y+c) / 4294967296)])∧w=w':=by
 obtain ⟨hx1,hx2⟩:=hx
 obtain ⟨hy1,hy2⟩:=hy
 obtain ⟨hc1,hc2⟩:=hc
 go_enter Tryz.func333,Tryz.ntmps333
 go_wp2
 go_ret2
 exact ⟨rfl,rfl⟩
set_option maxHeartbeats 400000 in
theorem AbN(x y c:Int)(w:World)(hx:0≤x∧x<4294967296)(hy:0≤y∧y<4294967296)(hc:0≤c∧c≤1) :
  Calls Tryz.prog 334 #[.int .u32 x,.int .u32 y,.int .u32 c] w fun e w'=>e = .returned (.tuple #[.int .u32 ((x-y-c) % 4294967296),.int .u32 (O9 x y c)])∧w=w':=by
 obtain ⟨hx1,hx2⟩:=hx
 obtain ⟨hy1,hy2⟩:=hy
 obtain ⟨hc1,hc2⟩:=hc
 go_enter Tryz.func334,Tryz.ntmps334
 go_wp2
 go_ret2
 exact ⟨by rw[← Anj x y c hx1 hx2 hy1 hy2 hc1 hc2];rfl,rfl⟩
def iB(b:Ar):Int:=(b.toNat:Int)
def Oz(w:World)(v:Value)(l:List Ar):Prop:=SlI w v .u32 (l.map iB)
def OwL(w0 w:World)(G cap:Nat)(l:List Ar):Prop:=Own w0 w 180 1 l.length (.slice (some ⟨G,0,none⟩) l.length cap) ((l.map iB).map (.int .u32))
theorem OwL.cell {w0 w:World} {G cap:Nat} {l:List Ar} (h:OwL w0 w G cap l) (i:Nat) (hi:i<l.length):w.cell? ⟨G,i,none⟩=some (.int .u32 ((l[i]).toNat:Int))∧w.frozen? ⟨G,i,none⟩=false∧w0.heap.size≤G∧G<w.heap.size:=by
 obtain ⟨g,cap',hv,h1,h2,h3,h4,h5,h6⟩:=h.at_ (by omega)
 injection hv with hA _ hc
 cases hA
 exact ⟨h4 i _ (by simp[hi,iB]),h5 i,h1,h2⟩
theorem OwL.set {w0 w:World} {G cap:Nat} {l:List Ar} (h:OwL w0 w G cap l) (i:Nat) (hi:i<l.length) (x:Ar):OwL w0 (w.setCell ⟨G,i,none⟩ (.int .u32 (x.toNat:Int))) G cap (l.set i x):=by
 obtain ⟨g,cap',hv,h1,h2,h3,h4,h5,h6⟩:=h.at_ (by omega)
 injection hv with hA _ hc
 cases hA
 have:=h6 i (.int .u32 (x.toNat:Int))
 unfold OwL
 rw[List.length_set,List.map_set,List.map_set]
 exact this
theorem Se(w:World)(G:Nat):w.grownBy w (some G):=World.grownBy.refl w _
def NK(w0 w:World)(lo xs hi ds:List Ar)(G cap g:Nat)(e:Ending)(w':World):Prop :=
 ∃ (out:List Ar) (b:Nat),b≤1∧e = .returned (.bool (!(b == 0)))∧out.length=xs.length∧nv out+g*nv ds=nv xs+B ^ xs.length*b∧OwL w0 w' G cap (lo++out++hi)∧w.grownBy w' (some G)
theorem DZ{lo out xs hi:List Ar}{i:Nat}(h:out.length=i)(hi':i<xs.length)(x:Ar):(lo++(out++xs.drop i)++hi).set (lo.length+i) x=lo++((out++[x])++xs.drop (i+1))++hi:=by
 rw[Apz,List.set_append_right _ _ (by omega),Nat.add_sub_cancel_left,List.set_append_left _ _ (by simp;omega),List.set_append_right _ _ (by omega),h,Nat.sub_self,Ap1 hi',List.set_cons_zero]
 simp
theorem DX{lo out xs hi:List Ar}{i:Nat}(h:out.length=i)(hi':i<xs.length)(hk:lo.length+i<(lo++(out++xs.drop i)++hi).length):(lo++(out++xs.drop i)++hi)[lo.length+i]=xs[i]:=by
 have:(lo++(out++xs.drop i)++hi)[lo.length+i]? = some xs[i]:=by
  rw[Apz,Aqe (by omega),Nat.add_sub_cancel_left,Ap0 (by simp;omega),Aqe (by omega),h,Nat.sub_self]
  simp[hi']
 rw[Apb hk]at this
 exact Option.some.inj this
theorem Qf(l:List Ar)(i:Nat)(hi:i<l.length):nv (l.take (i+1))=nv (l.take i)+B ^ i*(l[i]).toNat:=by
 rw[List.take_succ_eq_append_getElem hi,Jl,Apr,Nat.min_eq_left (by omega)]
theorem AbX{O g D U P c b x t X z b':Nat}(h:O+g*D=U+P*(c+b))(ht:t=g*x+c)(hz:X+B*b'=z+t % B+b):(O+P*z)+g*(D+P*x)=(U+P*X)+P*B*(t / B+b'):=by
 have e1:P*(X+B*b')=P*(z+t % B+b):=by rw[hz]
 have e2:t % B+B*(t / B)=t:=Nat.mod_add_div _ _
 have e3:P*(t % B+B*(t / B))=P*(g*x+c):=by rw[e2,ht]
 have e4:g*(P*x)=P*(g*x):=Nat.mul_left_comm _ _ _
 simp only[Nat.mul_add,Nat.mul_assoc]at *
 omega
theorem OX{X t b:Nat}(hX:X<B)(hb:b≤1) : ∃ z b':Nat,z<B∧b'≤1∧X+B*b'=z+t % B+b∧(((X:Int)-((t % B:Nat):Int)-(b:Int)) % 4294967296=(z:Int))∧O9 (X:Int) ((t % B:Nat):Int) (b:Int)=(b':Int):=by
 have:=Ap4 t B0
 generalize t % B=s at *
 rw[A5]at *
 by_cases h:X<s+b
 · exact ⟨X+4294967296-s-b,1,by omega,by omega,by omega,by omega,by unfold O9;rw[if_pos (by omega)];rfl⟩
 · exact ⟨X-s-b,0,by omega,by omega,by omega,by omega,by unfold O9;rw[if_neg (by omega)];rfl⟩
set_option maxHeartbeats 2000000 in
theorem Anq(w0 w:World)(lo xs hi ds:List Ar)(G cap c' g:Nat)(v:Value)(hxs:xs.length=ds.length+1)(hlen:(lo++xs++hi).length≤1000000000)(hc':xs.length≤c')(hown:OwL w0 w G cap (lo++xs++hi))(hds : ∀ w',w.grownBy w' (some G)→Oz w' v ds)(hg:g<B) :
  Calls Tryz.prog 338 #[.slice (some ⟨G,lo.length,none⟩) xs.length c',v,.int .u64 g] w (NK w0 w lo xs hi ds G cap g):=by
 obtain ⟨A,cd,rfl,hcd,_⟩:=(hds w (Se w G)).form
 have hll:lo.length+xs.length+hi.length≤1000000000:=by have:=hlen;simp at this;omega
 rw[Apd]at hds hcd ⊢
 have HO:=Lib.hid hown
 have HD:=Lib.hid hds
 have HG:=Lib.hid hg
 rw[A5]at hg
 clear hown hds hlen
 generalize hn:ds.length=n at *
 rw[hxs]
 go_enter Tryz.func338,Tryz.ntmps338
 go_wp2_with fail
 go_loopw [7,8,15] (fun cv bv iv wr=>∃ (k c b:Nat) (out:List Ar),k≤n∧iv = .int .i64 k∧cv = .int .u64 c∧bv = .int .u32 b∧out.length=k∧c<B∧b≤1∧nv out+g*nv (ds.take k)=nv (xs.take k)+B ^ k*(c+b)∧OwL w0 wr G cap (lo++(out++xs.drop k)++hi)∧w.grownBy wr (some G)) (fun _ _ iv _=>n-(intOf iv).toNat)
 case atStart=>exact ⟨0,0,0,[],Nat.zero_le _,rfl,rfl,rfl,rfl,B0,by omega,by simp[nv],by simpa using HO.out,Se w G⟩
 case round =>
  obtain ⟨k,c,b,out,hk,rfl,rfl,rfl,ho,hc,hb,heq,hown,hgr⟩:=hrel
  have HQ:=Lib.hid heq
  have HOW:=Lib.hid hown
  have HGR:=Lib.hid hgr
  have HC:=Lib.hid hc
  rw[A5]at hc
  clear heq hown hgr
  by_cases hlt:k<n
  · have hkx:k<xs.length:=by omega
    have hkl:lo.length+k<(lo++(out++xs.drop k)++hi).length:=by simp;omega
    obtain ⟨hcell,hfk,hG1,hG2⟩:=HOW.out.cell (lo.length+k) hkl
    rw[DX ho hkx hkl]at hcell
    obtain ⟨_,_,hvq,_,hclq⟩:=(HD.out wr HGR.out).form
    injection hvq with hvq1 hvq2 hvq3
    subst hvq1
    subst hvq3
    clear hvq2
    obtain ⟨ad,rfl,hb1,hce⟩:=hclq k (by simp;omega)
    have hkd:k<ds.length:=by omega
    have hdk:((ds.map iB)[k]'(by simp;omega))=((ds[k]).toNat:Int):=by simp[iB]
    rw[hdk]at hce
    have xB:=Fb xs[k]
    have dB_:=Fb ds[k]
    have st:=fun (z:Ar)=>HOW.out.set (lo.length+k) hkl z
    have ws:=fun (z:Ar)=>DZ (lo:=lo) (hi:=hi) ho hkx z
    have ht1:=Qf ds k hkd
    have ht2:=Qf xs k hkx
    generalize (xs[k]).toNat=X at *
    generalize (ds[k]).toNat=Y at *
    have hgy:g*Y≤(B-1)*(B-1):=Nat.mul_le_mul (by rw[A5];omega) (by omega)
    obtain ⟨z,b',hz,hb',hzz,hm,hbr⟩:=OX (t:=g*Y+c) xB hb
    have HST:=Lib.hid (AbX HQ.out rfl hzz)
    have HS:=Lib.hid (st (Apw 32 z))
    have HW:=Lib.hid (ws (Apw 32 z))
    have HT1:=Lib.hid ht1
    have HT2:=Lib.hid ht2
    have HZ:=Lib.hid hz
    have htB:(g*Y+c) / B<B:=by rw[Aqk B0,A5]at *; omega
    have HTB:=Lib.hid htB
    rw[A5]at hgy xB dB_ hz htB
    have hp1:0≤(g:Int)*(Y:Int):=by rw[← Int.natCast_mul];exact Int.natCast_nonneg _
    have hp2:(g:Int)*(Y:Int)≤18446744065119617025:=by rw[← Int.natCast_mul];omega
    have ec:(((g*Y+c) % B:Nat):Int)=((g:Int)*(Y:Int)+(c:Int)) % 4294967296:=by rw[Int.natCast_emod,Int.natCast_add,Int.natCast_mul];rfl
    rw[ec]at hm hbr
    have HM:=Lib.hid hm
    have HB:=Lib.hid hbr
    clear hclq hdk st ws ht1 ht2 hzz htB hgy ec hm hbr
    go_wp2_with (go_at_call 334;refine (AbN (X:Int) (((g:Int)*(Y:Int)+(c:Int)) % 4294967296) (b:Int) _ ⟨by omega,by omega⟩ ⟨by omega,by omega⟩ ⟨by omega,by omega⟩).mono ?_;rw[HM.out,HB.out];rintro e w' ⟨rfl,rfl⟩)
    go_roundw
    case rel =>
      have hs:=HS.out
      rw[HW.out,ofNat_lt HZ.out]at hs
      refine ⟨k+1,(g*Y+c) / B,b',out++[Apw 32 z],by omega,by go_num,?_,rfl,by simp[ho],HTB.out,hb',?_,hs,Sf HGR.out _ _ _⟩
      · congr 1
      · rw[Jl,ho,ofNat_lt HZ.out,HT1.out,HT2.out,Aqj];exact HST.out
    case measure=>(simp[intOf] <;> omega)
  · have hkn:k=n:=by omega
    subst hkn
    have hkx:k<xs.length:=by omega
    have hkl:lo.length+k<(lo++(out++xs.drop k)++hi).length:=by simp;omega
    obtain ⟨hcell,hfk,hG1,hG2⟩:=HOW.out.cell (lo.length+k) hkl
    rw[DX ho hkx hkl]at hcell
    have xB:=Fb xs[k]
    have st:=fun (z:Ar)=>HOW.out.set (lo.length+k) hkl z
    have ws:=fun (z:Ar)=>DZ (lo:=lo) (hi:=hi) ho hkx z
    have ht2:=Qf xs k hkx
    generalize (xs[k]).toNat=X at *
    obtain ⟨z,b',hz,hb',hzz,hm,hbr⟩:=OX (t:=c) xB hb
    have HST:=Lib.hid (AbX (x:=0) (t:=c) HQ.out (by simp) hzz)
    have HS:=Lib.hid (st (Apw 32 z))
    have HW:=Lib.hid (ws (Apw 32 z))
    have HT2:=Lib.hid ht2
    have HZ:=Lib.hid hz
    have ec:c % B=c:=Ap6 HC.out
    rw[ec]at hm hbr
    rw[A5]at xB hz
    have HM:=Lib.hid hm
    have HB:=Lib.hid hbr
    clear st ws ht2 hzz ec hm hbr
    go_wp2_with (go_at_call 334;refine (AbN (X:Int) (c:Int) (b:Int) _ ⟨by omega,by omega⟩ ⟨by omega,by omega⟩ ⟨by omega,by omega⟩).mono ?_;rw[HM.out,HB.out];rintro e w' ⟨rfl,rfl⟩)
    go_ret
    have hs:=HS.out
    rw[HW.out,ofNat_lt HZ.out,List.drop_of_length_le (by omega),Apx]at hs
    refine ⟨out++[Apw 32 z],b',hb',?_,by simp[ho,hxs],?_,hs,Sf HGR.out _ _ _⟩
    · rcases Nat.le_one_iff_eq_zero_or_eq_one.1 hb' with h | h <;> subst h <;> rfl
    · have h1:=HST.out
      rw[Nat.div_eq_of_lt HC.out,Nat.mul_zero,Nat.add_zero,Aqo,← HT2.out,← Aqj,Ap_ (by omega),Ap_ (by omega)]at h1
      rw[Jl,ho,ofNat_lt HZ.out,hxs];exact h1
def NJ(w0 w:World)(lo xs hi ds:List Ar)(G cap:Nat)(e:Ending)(w':World):Prop :=
 ∃ (out:List Ar) (b:Nat) (v:Value),e = .returned v∧out.length=xs.length∧nv out+B ^ xs.length*b=nv xs+nv ds∧OwL w0 w' G cap (lo++out++hi)∧w.grownBy w' (some G)
theorem WR{O D U P c X Y:Nat}(h:O+P*c=U+D):(O+P*((X+Y+c) % B))+P*B*((X+Y+c) / B)=(U+P*X)+(D+P*Y):=by
 have e2:(X+Y+c) % B+B*((X+Y+c) / B)=X+Y+c:=Nat.mod_add_div _ _
 have e3:P*((X+Y+c) % B+B*((X+Y+c) / B))=P*(X+Y+c):=by rw[e2]
 simp only[Nat.mul_add,Nat.mul_assoc]at *
 omega
set_option maxHeartbeats 2000000 in
theorem Ajr(w0 w:World)(lo xs hi ds:List Ar)(G cap c':Nat)(v:Value)(hxs:xs.length=ds.length+1)(hlen:(lo++xs++hi).length≤1000000000)(hc':xs.length≤c')(hown:OwL w0 w G cap (lo++xs++hi))(hds : ∀ w',w.grownBy w' (some G)→Oz w' v ds) :
  Calls Tryz.prog 339 #[.slice (some ⟨G,lo.length,none⟩) xs.length c',v] w (NJ w0 w lo xs hi ds G cap):=by
 obtain ⟨A,cd,rfl,hcd,_⟩:=(hds w (Se w G)).form
 have hll:lo.length+xs.length+hi.length≤1000000000:=by have:=hlen;simp at this;omega
 rw[Apd]at hds hcd ⊢
 have HO:=Lib.hid hown
 have HD:=Lib.hid hds
 clear hown hds hlen
 generalize hn:ds.length=n at *
 rw[hxs]
 go_enter Tryz.func339,Tryz.ntmps339
 go_wp2_with fail
 go_loopw [4,9] (fun cv iv wr=>∃ (k c:Nat) (out:List Ar),k≤n∧iv = .int .i64 k∧cv = .int .u32 c∧out.length=k∧c≤1∧nv out+B ^ k*c=nv (xs.take k)+nv (ds.take k)∧OwL w0 wr G cap (lo++(out++xs.drop k)++hi)∧w.grownBy wr (some G)) (fun _ iv _=>n-(intOf iv).toNat)
 case atStart=>exact ⟨0,0,[],Nat.zero_le _,rfl,rfl,rfl,by omega,by simp[nv],by simpa using HO.out,Se w G⟩
 case round =>
  obtain ⟨k,c,out,hk,rfl,rfl,ho,hc,heq,hown,hgr⟩:=hrel
  have HQ:=Lib.hid heq
  have HOW:=Lib.hid hown
  have HGR:=Lib.hid hgr
  clear heq hown hgr
  by_cases hlt:k<n
  · have hkx:k<xs.length:=by omega
    have hkl:lo.length+k<(lo++(out++xs.drop k)++hi).length:=by simp;omega
    obtain ⟨hcell,hfk,hG1,hG2⟩:=HOW.out.cell (lo.length+k) hkl
    rw[DX ho hkx hkl]at hcell
    obtain ⟨_,_,hvq,_,hclq⟩:=(HD.out wr HGR.out).form
    injection hvq with hvq1 hvq2 hvq3
    subst hvq1
    subst hvq3
    clear hvq2
    obtain ⟨ad,rfl,hb1,hce⟩:=hclq k (by simp;omega)
    have hkd:k<ds.length:=by omega
    have hdk:((ds.map iB)[k]'(by simp;omega))=((ds[k]).toNat:Int):=by simp[iB]
    rw[hdk]at hce
    have xB:=Fb xs[k]
    have dB_:=Fb ds[k]
    have st:=fun (z:Ar)=>HOW.out.set (lo.length+k) hkl z
    have ws:=fun (z:Ar)=>DZ (lo:=lo) (hi:=hi) ho hkx z
    have ht1:=Qf ds k hkd
    have ht2:=Qf xs k hkx
    generalize (xs[k]).toNat=X at *
    generalize (ds[k]).toNat=Y at *
    have HZ:=Lib.hid (Ap4 (X+Y+c) B0)
    have HST:=Lib.hid (WR (X:=X) (Y:=Y) HQ.out)
    have HS:=Lib.hid (st (Apw 32 ((X+Y+c) % B)))
    have HW:=Lib.hid (ws (Apw 32 ((X+Y+c) % B)))
    have HT1:=Lib.hid ht1
    have HT2:=Lib.hid ht2
    rw[A5]at xB dB_
    clear hclq hdk st ws ht1 ht2
    go_wp2_with (go_at_call 333;refine (AcT (X:Int) (Y:Int) (c:Int) _ ⟨by omega,by omega⟩ ⟨by omega,by omega⟩ ⟨by omega,by omega⟩).mono ?_;rintro e w' ⟨rfl,rfl⟩)
    go_roundw
    case rel =>
      have hs:=HS.out
      rw[HW.out,ofNat_lt HZ.out]at hs
      refine ⟨k+1,(X+Y+c) / B,out++[Apw 32 ((X+Y+c) % B)],by omega,by go_num,?_,by simp[ho],by rw[A5];omega,?_,?_,Sf HGR.out _ _ _⟩
      · congr 1
      · rw[Jl,ho,ofNat_lt HZ.out,HT1.out,HT2.out,Aqj];exact HST.out
      · exact hs
    case measure=>(simp[intOf] <;> omega)
  · have hkn:k=n:=by omega
    subst hkn
    have hkx:k<xs.length:=by omega
    have hkl:lo.length+k<(lo++(out++xs.drop k)++hi).length:=by simp;omega
    obtain ⟨hcell,hfk,hG1,hG2⟩:=HOW.out.cell (lo.length+k) hkl
    rw[DX ho hkx hkl]at hcell
    have xB:=Fb xs[k]
    have st:=fun (z:Ar)=>HOW.out.set (lo.length+k) hkl z
    have ws:=fun (z:Ar)=>DZ (lo:=lo) (hi:=hi) ho hkx z
    have ht2:=Qf xs k hkx
    generalize (xs[k]).toNat=X at *
    have HZ:=Lib.hid (Ap4 (X+0+c) B0)
    have HST:=Lib.hid (WR (X:=X) (Y:=0) HQ.out)
    have HS:=Lib.hid (st (Apw 32 ((X+0+c) % B)))
    have HW:=Lib.hid (ws (Apw 32 ((X+0+c) % B)))
    have HT2:=Lib.hid ht2
    rw[A5]at xB
    clear st ws ht2
    go_wp2
    go_end0
    have hs:=HS.out
    rw[HW.out,ofNat_lt HZ.out,List.drop_of_length_le (by omega),Apx]at hs
    refine ⟨out++[Apw 32 ((X+0+c) % B)],(X+0+c) / B,_,rfl,by simp[ho,hxs],?_,?_,Sf HGR.out _ _ _⟩
    · have h1:=HST.out
      rw[Nat.mul_zero,Nat.add_zero,← HT2.out,← Aqj,Ap_ (by omega),Ap_ (by omega)]at h1
      rw[Jl,ho,ofNat_lt HZ.out,hxs];exact h1
    · exact hs
end Go.Proofs.YtokkbgpgaheakaaGreat
namespace Go.Proofs.YtokkbgpgaheakaaGreat
open Go.RowKit
theorem An0{U Y g P o b:Nat}(hY:0<Y)(hYP:Y≤P)(h1:U / Y≤g)(h2:g≤U / Y+1)(ho:o<P)(hb:b≤1)(h:o+g*Y=U+P*b) :
   (b=0→g=U / Y∧o=U % Y)∧(b≠0→g=U / Y+1∧∀ o2 b2,o2<P→o2+P*b2=o+Y→o2=U % Y):=by
 have hdm:=Nat.div_add_mod U Y
 have hm:=Ap4 U hY
 rw[Ap9]at hdm
 generalize U / Y=q at *
 generalize U % Y=r at *
 refine ⟨fun h0=> ?_,fun h0=> ?_⟩
 · subst h0
   rcases Aqn q g with h3 | h3
   · obtain rfl:g=q+1:=by omega
     rw[Nat.add_mul]at h;omega
   · obtain rfl:g=q:=by omega
     exact ⟨rfl,by omega⟩
 · obtain rfl:b=1:=by omega
   rcases Aqn q g with h3 | h3
   · obtain rfl:g=q+1:=by omega
     refine ⟨rfl,fun o2 b2 h4 h5=> ?_⟩
     rw[Nat.add_mul]at h
     match b2 with
     | 0=>omega
     | 1=>omega
     | b2+2=>rw[Nat.mul_add]at h5;omega
   · obtain rfl:g=q:=by omega
     omega
theorem Agx{R:List Ar}{n j Y:Nat}(hj:j+(n+1)≤R.length)(hY:Y<B ^ n)(h:nv R<Y*B ^ (j+1)) :
   R=R.take j++(R.drop j).take (n+1)++R.drop (j+(n+1))∧(R.take j).length=j∧((R.drop j).take (n+1)).length=n+1∧nv ((R.drop j).take (n+1))<B*Y ∧
   ∀ out:List Ar,out.length=n+1→nv out=nv ((R.drop j).take (n+1)) % Y→(R.take j++out++R.drop (j+(n+1))).length=R.length∧nv (R.take j++out++R.drop (j+(n+1)))<Y*B ^ j ∧
     nv (R.take j++out++R.drop (j+(n+1)))+Y*(B ^ j*(nv ((R.drop j).take (n+1)) / Y))=nv R:=by
 have e1:R=R.take j++(R.drop j).take (n+1)++R.drop (j+(n+1)):=by
   rw[Apz,← List.drop_drop,Ap5,Ap5]
 have l1:(R.take j).length=j:=by rw[Apr];omega
 have l2:((R.drop j).take (n+1)).length=n+1:=by rw[Apr,App];omega
 have hlo:=Cd (R.take j)
 rw[l1]at hlo
 have hv:nv R=nv (R.take j)+B ^ j*nv ((R.drop j).take (n+1))+B ^ (j+(n+1))*nv (R.drop (j+(n+1))):=by
   have:nv R=nv (R.take j++(R.drop j).take (n+1)++R.drop (j+(n+1))):=by rw[← e1]
   rw[this,H1,H1,Apn,l1,l2]
 have hY0:0<Y:=by
   rcases Nat.eq_zero_or_pos Y with h0 | h0
   · rw[h0]at h;omega
   · exact h0
 have hp:=Bp j
 have hi0:nv (R.drop (j+(n+1)))=0:=by
   rcases Nat.eq_zero_or_pos (nv (R.drop (j+(n+1)))) with h0 | h0
   · exact h0
   · exfalso
     have h3:B ^ (j+(n+1))*1≤B ^ (j+(n+1))*nv (R.drop (j+(n+1))):=Nat.mul_le_mul_left _ h0
     have h4:Y*B ^ (j+1)≤B ^ n*B ^ (j+1):=Apu _ (Nat.le_of_lt hY)
     rw[← Nat.pow_add,show n+(j+1)=j+(n+1) by omega]at h4
     omega
 generalize R.take j=lo at *
 generalize (R.drop j).take (n+1)=xs at *
 generalize R.drop (j+(n+1))=hi at *
 rw[hi0,Nat.mul_zero,Nat.add_zero]at hv
 refine ⟨e1,l1,l2,?_,fun out ho hn=>⟨?_,?_,?_⟩⟩
 · have h5:B ^ j*nv xs<B ^ j*(B*Y):=by
     have:Y*B ^ (j+1)=B ^ j*(B*Y):=by rw[Aqj,Ap9 Y,Nat.mul_assoc]
     omega
   exact Nat.lt_of_mul_lt_mul_left h5
 · rw[e1];simp[ho,l2]
 · rw[H1,H1,hi0,l1,hn,Nat.mul_zero,Nat.add_zero]
   have h6:B ^ j*(nv xs % Y)+B ^ j≤B ^ j*Y:=by
     rw[← Nat.mul_succ];exact Nat.mul_le_mul_left _ (Ap4 _ hY0)
   rw[Ap9 Y];omega
 · rw[H1,H1,hi0,l1,hn,Nat.mul_zero,Nat.add_zero,hv,Nat.mul_left_comm Y,Nat.add_assoc,← Nat.mul_add,Nat.mod_add_div]
theorem YU{w:World}{M:Nat→Prop}{v:Value}{l:List Ar}(h:Rd Tryz.prog md w M (.ty 62) (dL l) v):Oz w v l:=by
 obtain ⟨h1,h2,h3⟩:=h
 have hc1:Tryz.prog.cellsOf 180=1:=by kernel_rfl
 unfold dL at h1
 cases h1 with
 | @sl _ e _ _ A cap bk off ht hc h4 h5 hA hh =>
  have he:e=180:=by
   have:Tryz.prog.underlying 62=some (.slice e):=ht
   rw[show Tryz.prog.underlying 62=some (.slice 180) by kernel_rfl]at this
   injection this with this;injection this with this;exact this.symm
  subst he
  have hv:v = .slice A (l.map dB).length cap:=by
   have ha:Ds v=false:=by rw[h3];kernel_rfl
   rw[Ih ha]at hc
   simpa using hc
  refine ⟨A,cap,by rw[hv];simp,by simpa using h4,by simp,fun i x hx=> ?_⟩
  rw[List.map_map,Aps,Apq]at hx
  obtain ⟨b,hb,rfl⟩:=hx
  have hne:l.map dB≠[]:=fun e=>by rw[List.map_eq_nil_iff.1 e]at hb;simp at hb
  obtain ⟨a1,a2,a3⟩:=hA hne
  have:=hh i (dB b) (by rw[Aps,hb];rfl)
  rw[hc1]at this
  refine ⟨_,a1,a3,?_⟩
  unfold dB at this
  cases this with
  | @int _ k _ _ ht' h1' h2' hc' =>
   have hk:k = .u32:=by
    have:Tryz.prog.underlying 180=some (.int k):=ht'
    rw[show Tryz.prog.underlying 180=some (.int .u32) by kernel_rfl]at this
    injection this with this;injection this with this;exact this.symm
   subst hk
   simp only[Nat.mul_one,Nat.add_zero]at hc'
   have ea:(⟨bk,off,none⟩:Addr).add i=⟨bk,off+i,none⟩:=by unfold Addr.add;split <;> simp_all
   rw[ea];exact hc'
theorem DY{w:World}{M:Nat→Prop}{G off n c:Nat}{l:List Ar}(h:Oz w (.slice (some ⟨G,off,none⟩) n c) l)(hc:c≤maxLen)(hG : ¬ M G):Rd Tryz.prog md w M (.ty 62) (dL l) (.slice (some ⟨G,off,none⟩) n c):=by
 obtain ⟨h1,h2⟩:=h.len
 have hc1:Tryz.prog.cellsOf 180=1:=by kernel_rfl
 rw[Apd]at h1
 refine ⟨.sl (e:=180) (A:=some ⟨G,off,none⟩) (cap:=c) (bk:=G) (off:=off) (by kernel_rfl) (by rw[h1,Apd];rfl) (by rw[Apd];omega) hc (fun hne=> ?_) (fun i x hx=> ?_),by kernel_rfl,by kernel_rfl⟩
 · have:0<(l.map iB).length:=by
    rw[Apd];exact List.length_pos_iff.2 (fun e=>hne (by rw[e];rfl))
   obtain ⟨ad,ha,hb,_⟩:=h.cellAt 0 this
   cases ha
   exact ⟨rfl,hG,hb⟩
 · rw[Aps,Apq]at hx
   obtain ⟨b,hb,rfl⟩:=hx
   have hi:i<(l.map iB).length:=by rw[Apd];exact (Apf.1 hb).1
   obtain ⟨ad,ha,_,hcell⟩:=h.cellAt i hi
   cases ha
   have ea:(⟨G,off,none⟩:Addr).add i=⟨G,off+i,none⟩:=by unfold Addr.add;split <;> simp_all
   rw[ea]at hcell
   have hx:(l.map iB)[i]=(b.toNat:Int):=by simp[iB,(Apf.1 hb).2]
   rw[hx]at hcell
   have:=b.isLt
   unfold dB
   exact .int (k:= .u32) (by kernel_rfl) (by show (0:Int)≤_;omega) (by show _≤(4294967295:Int);omega) (by rw[hc1];simpa using hcell)
theorem OwL.win {w0 w:World} {G cap:Nat} {l:List Ar} (h:OwL w0 w G cap l) {j n c:Nat} (hj:j+n≤l.length) (hc:n≤c):Oz w (.slice (some ⟨G,j,none⟩) n c) ((l.drop j).take n):=by
 have hl:(((l.drop j).take n).map iB).length=n:=by simp;omega
 refine ⟨some ⟨G,j,none⟩,c,by rw[hl],by rw[hl];exact hc,by simp,fun i x hx=> ?_⟩
 rw[Aps,Apq]at hx
 obtain ⟨z,hz,rfl⟩:=hx
 have hi:i<n:=by rw[← hl];exact (Apf.1 hz).1
 obtain ⟨h1,h2,h3,h4⟩:=h.cell (j+i) (by omega)
 refine ⟨_,rfl,h4,?_⟩
 have ea:(⟨G,j,none⟩:Addr).add i=⟨G,j+i,none⟩:=by unfold Addr.add;split <;> simp_all
 rw[ea,h1]
 rw[Aps,List.getElem?_take,if_pos hi,List.getElem?_drop,Apb (by omega)]at hz
 simp only[Option.map_some,Apk]at hz
 rw[← hz];rfl
end Go.Proofs.YtokkbgpgaheakaaGreat
namespace Go.Proofs.YtokkbgpgaheakaaGreat
open Go.RowKit
theorem AeC:Elt Tryz.prog 62 180 1 4 :=
 ⟨Tryz.underlying62,by
  obtain ⟨i,hi,h1,h2,h3⟩:=info_parts (P:=Tryz.prog) (e:=180) (z:= .int .u32 0) (size:=1) (bytes:=4) (by kernel_rfl)
  exact ⟨i,_,hi,h1,h2,h3,rfl⟩,by decide⟩
theorem Ao8{z:Value}(h : ∃ i,Tryz.prog.info? 180=some i∧i.zero=some z):z = .int .u32 0:=by
 obtain ⟨i,hi,hz⟩:=h
 obtain ⟨j,hj,h1,_⟩:=info_parts (P:=Tryz.prog) (e:=180) (z:= .int .u32 0) (size:=1) (bytes:=4) (by kernel_rfl)
 rw[hi]at hj
 cases hj
 rw[hz]at h1
 exact Option.some.inj h1
theorem Ag2{z:Value}(h : ∃ i,Tryz.prog.info? 180=some i∧i.zero=some z)(n:Nat):(madeCells z.cells (n*1)).toList=(Apc n (0:Int)).map (.int .u32):=by
 rw[Ao8 h,Ag0 _ rfl];simp
theorem WP{w w':World}{G cap:Nat}{cur:Array Value}{q:List Ar}(hG:w.heap.size≤G)(hB:w'.heap[G]? = some (.cells cur 180 (0,0)))(hle:q.length≤cap)(hcap:cap≤maxLen)(hsz:cur.size=cap*Tryz.prog.cellsOf 180)
  (h : ∀ (i:Nat) (x:D),(q.map dB)[i]? = some x→∃ M',RdC Tryz.prog md w' M' (.ty 180) x (fun j=>cur[i*Tryz.prog.cellsOf 180+j]?)) (hx:Ext w w'):OwL w w' G cap q:=by
 have hc1:Tryz.prog.cellsOf 180=1:=by kernel_rfl
 rw[hc1]at hsz h
 refine ⟨⟨by simp,.inr ⟨G,cap,cur,rfl,hG,hB,hle,hcap,hsz,?_⟩⟩,hx⟩
 apply List.ext_getElem
 · simp;omega
 intro i h1 h2
 simp only[Apd]at h2
 obtain ⟨M',hr⟩:=h i (dB q[i]) (by simp[h2])
 simp only[Nat.mul_one,Nat.add_zero]at hr
 unfold dB at hr
 cases hr with
 | @int _ k _ _ ht' h1' h2' hc' =>
  have hk:k = .u32:=by
   have:Tryz.prog.underlying 180=some (.int k):=ht'
   rw[show Tryz.prog.underlying 180=some (.int .u32) by kernel_rfl]at this
   injection this with this;injection this with this;exact this.symm
  subst hk
  simp only[Nat.add_zero]at hc'
  have hi:i<cur.size:=by omega
  rw[Apy hi]at hc'
  simp only[List.getElem_take,Array.getElem_toList,List.getElem_map,iB]
  exact Option.some.inj hc'
theorem OwL.far {w0 w w':World} {G G' cap:Nat} {l:List Ar} (h:OwL w0 w G cap l) (hg:w.grownBy w' (some G')) (hne:G≠G') (hG:w0.heap.size≤G'):OwL w0 w' G cap l :=
 ⟨h.own.kept hg (.inr (by simp only[Value.ownBlock];intro e;injection e with e;exact hne e)),h.ext.grown hg (fun k hk=>by injection hk with hk;omega)⟩
theorem Anz{w w5:World}{lo xs hi q1:List Ar}{G1 G2 c1 c2 n j g c':Nat}(hn:n≤q1.length)(hc1:n≤c1)(l1:lo.length=j)(l2:xs.length=n+1)(hlen:(lo++xs++hi).length≤1000000000)(hc':n+1≤c')(hg2:w.heap.size≤G2)(h12:G1≠G2)
  (ow2:OwL w w5 G2 c2 (lo++xs++hi)) (ow1:OwL w w5 G1 c1 q1) (hg:g<B):Calls Tryz.prog 338 #[.slice (some ⟨G2,j,none⟩) (n+1) c',.slice (some ⟨G1,0,none⟩) n c1,.int .u64 g] w5 (NK w w5 lo xs hi (q1.take n) G2 c2 g):=by
 have ld:(q1.take n).length=n:=by rw[Apr];omega
 have:=Anq w w5 lo xs hi (q1.take n) G2 c2 c' g (.slice (some ⟨G1,0,none⟩) n c1) (by omega) hlen (by omega) ow2 (fun w' hg=>by
  have:=(ow1.far hg h12 hg2).win (j:=0) (n:=n) (c:=c1) (by omega) hc1
  rwa[List.drop_zero]at this) hg
 rwa[l1,l2]at this
theorem AiI{w w5:World}{lo xs hi q1:List Ar}{G1 G2 c1 c2 n j c':Nat}(hn:n≤q1.length)(hc1:n≤c1)(l1:lo.length=j)(l2:xs.length=n+1)(hlen:(lo++xs++hi).length≤1000000000)(hc':n+1≤c')(hg2:w.heap.size≤G2)(h12:G1≠G2)
  (ow2:OwL w w5 G2 c2 (lo++xs++hi)) (ow1:OwL w w5 G1 c1 q1):Calls Tryz.prog 339 #[.slice (some ⟨G2,j,none⟩) (n+1) c',.slice (some ⟨G1,0,none⟩) n c1] w5 (NJ w w5 lo xs hi (q1.take n) G2 c2):=by
 have ld:(q1.take n).length=n:=by rw[Apr];omega
 have:=Ajr w w5 lo xs hi (q1.take n) G2 c2 c' (.slice (some ⟨G1,0,none⟩) n c1) (by omega) hlen (by omega) ow2 (fun w' hg=>by
  have:=(ow1.far hg h12 hg2).win (j:=0) (n:=n) (c:=c1) (by omega) hc1
  rwa[List.drop_zero]at this)
 rwa[l1,l2]at this
theorem Ajt{qh:List Ar}{j:Nat}(x:Ar):(Apc (j+1) (0:Ar)++qh).set j x=Apc j 0++(x::qh):=by
 rw[List.replicate_succ',Apz,List.set_append_right _ _ (by simp),Aqg,Nat.sub_self];rfl
def AcQ(x y:Nat)(w:World)(e:Ending)(w':World):Prop:=∃ u1 u2,e = .returned (.tuple #[u1,u2])∧Rd Tryz.prog md w' (fun b=>b<w.heap.size) (.ty 62) (dL (lb (x / y))) u1∧Rd Tryz.prog md w' (fun b=>b<w.heap.size) (.ty 62) (dL (lb (x % y))) u2∧Ext w w'
theorem AhT{y n s t:Nat}(hn:(lb y).length=n+1)(ht:t=y / B ^ n)(h1:t*2 ^ s<B)(h2:B≤2*(t*2 ^ s))(hs:s<32):y*2 ^ s<B ^ (n+1)∧B ^ (n+1)≤2*(y*2 ^ s):=by
 have hp:=Bp n
 have hs0:0<2 ^ s:=Nat.pow_pos (by decide)
 have hB:B=2 ^ (32-s)*2 ^ s:=by rw[← Nat.pow_add,show 32-s+s=32 by omega];rfl
 have h3:t<2 ^ (32-s):=by rw[hB]at h1;exact Nat.lt_of_mul_lt_mul_right h1
 have h4:(t+1)*2 ^ s≤B:=by rw[hB];exact Apu _ h3
 have h5:y<(t+1)*B ^ n:=by rw[ht,Ap9];exact Nat.lt_mul_div_succ y hp
 have h6:t*B ^ n≤y:=by rw[ht];exact Nat.div_mul_le_self _ _
 rw[Aqj]
 constructor
 · calc y*2 ^ s<(t+1)*B ^ n*2 ^ s:=Nat.mul_lt_mul_of_pos_right h5 hs0
  _=B ^ n*((t+1)*2 ^ s):=by rw[Ap9 (t+1),Nat.mul_assoc]
  _≤B ^ n*B:=Nat.mul_le_mul_left _ h4
 · calc B ^ n*B≤B ^ n*(2*(t*2 ^ s)):=Nat.mul_le_mul_left _ h2
  _=2*(t*B ^ n*2 ^ s):=by rw[Nat.mul_left_comm,Ap9 t (B ^ n),Nat.mul_assoc]
  _≤2*(y*2 ^ s):=Nat.mul_le_mul_left _ (Apu _ h6)
theorem VZ{q:List Ar}{n v:Nat}(h:nv q=v)(hv:v<B ^ n)(hn:n≤q.length):nv (q.take n)=v:=by
 have:=H1 (q.take n) (q.drop n)
 rw[Ap5,Apr,Nat.min_eq_left hn,h]at this
 rcases Nat.eq_zero_or_pos (nv (q.drop n)) with h0 | h0
 · rw[h0]at this;omega
 · have:B ^ n*1≤B ^ n*nv (q.drop n):=Nat.mul_le_mul_left _ h0
   omega
def LInv(X Y m n:Nat)(w wr:World)(G1 c1 G2 c2 G3 c3:Nat)(q1:List Ar)(k:Nat)(R qh:List Ar):Prop :=
 k≤m-n+1∧R.length=m+1∧qh.length=m-n+1-k∧nv R<Y*B ^ k∧nv R+Y*(B ^ k*nv qh)=X∧OwL w wr G2 c2 R∧OwL w wr G3 c3 (Apc k 0++qh)∧OwL w wr G1 c1 q1
theorem LInv.start {X Y m n:Nat} {w wr:World} {G1 c1 G2 c2 G3 c3:Nat} {q1 q2:List Ar} (h2:q2.length=m+1) (hv:nv q2=X) (hX:X<Y*B ^ (m-n+1)) (o1:OwL w wr G1 c1 q1) (o2:OwL w wr G2 c2 q2) (o3:OwL w wr G3 c3 (Apc (m-n+1) 0)):LInv X Y m n w wr G1 c1 G2 c2 G3 c3 q1 (m-n+1) q2 [] :=
 ⟨Apo _,h2,by rw[Nat.sub_self];rfl,by rw[hv];exact hX,by rw[nv,Nat.mul_zero,Nat.mul_zero];exact hv,o2,by rw[Apx];exact o3,o1⟩
set_option maxHeartbeats 4000000 in
theorem Agw(x y:Nat)(va vb:Value)(w:World)(M:Nat→Prop)(ha:Rd Tryz.prog md w M (.ty 62) (dL (lb x)) va)(hb:Rd Tryz.prog md w M (.ty 62) (dL (lb y)) vb)(hM : ∀ b,M b→b<w.heap.size)
  (h1:1<(lb y).length) (hxy:y≤x) (hl:(lb x).length≤100000):Calls Tryz.prog 332 #[va,vb] w (AcQ x y w):=by
 have hyx:(lb y).length≤(lb x).length:=Bb.2 (Nat.lt_of_le_of_lt hxy (Bb.1 (Apo _)))
 obtain ⟨n,hn⟩ : ∃ n,(lb y).length=n:=⟨_,rfl⟩
 obtain ⟨m,hm⟩ : ∃ m,(lb x).length=m:=⟨_,rfl⟩
 rw[hn,hm]at hyx
 rw[hm]at hl
 rw[hn]at h1
 obtain ⟨A,ca,rfl,hca,_⟩:=(YU ha).form
 obtain ⟨Ab,cb,rfl,hcb,hcel⟩:=(YU hb).form
 rw[Apd,hm]at ha hca
 rw[Apd,hn]at hb hcb
 have HA:=Lib.hid ha
 have HB:=Lib.hid hb
 clear ha hb
 obtain ⟨ad,rfl,hb1,hce⟩:=hcel (n-1) (by simp;omega)
 have hk:((lb y).map iB)[n-1]'(by simp;omega)=(((lb y)[n-1]'(by omega)).toNat:Int):=by simp[iB]
 rw[hk,Eg (lb y) (n-1) (by omega),Bv]at hce
 have hyl:=(Bb (n:=y) (k:=n)).1 (by omega)
 have hyg:=FD (x:=y) (k:=n-1) (by omega)
 have htB:y / B ^ (n-1)<B:=by rw[Aqk (Bp _),Ap9,← Aqj,show (n-1).succ=n by omega];exact hyl
 rw[Ap6 htB]at hce
 have ht0:0<y / B ^ (n-1):=Nat.div_pos hyg (Bp _)
 obtain ⟨s,hLZ,hs32,hs1,hs2⟩:=AdA _ htB ht0
 obtain ⟨hY1,hY2⟩:=AhT (n:=n-1) (by omega) rfl hs1 hs2 hs32
 rw[show n-1+1=n by omega]at hY1 hY2
 obtain ⟨q1,hq1,hq1v,sp1⟩:=VO (lb y) s hs32 (by omega)
 obtain ⟨q2,hq2,hq2v,sp2⟩:=VO (lb x) s hs32 (by omega)
 rw[Bv]at hq1v hq2v
 rw[hn]at hq1
 rw[hm]at hq2
 have hdv:=VZ hq1v hY1 (by omega)
 have hX1:x*2 ^ s<(y*2 ^ s)*B ^ (m-n+1):=by
  have h2:x<B ^ m:=Bb.1 (by omega)
  have h3:B ^ n*B ^ (m-n+1)≤2*(y*2 ^ s)*B ^ (m-n+1):=Apu _ hY2
  rw[← Nat.pow_add,show n+(m-n+1)=m+1 by omega]at h3
  have h4:2 ^ s≤2 ^ 31:=Nat.pow_le_pow_right (by decide) (by omega)
  have h5:x*2 ^ s≤x*2 ^ 31:=Nat.mul_le_mul_left _ h4
  rw[Nat.mul_assoc]at h3
  rw[Aqj,A5]at h3
  rw[A5]at h2 ⊢
  omega
 generalize y / B ^ (n-1)=top at *
 have HLZ:=Lib.hid hLZ
 have SP1:=Lib.hid sp1
 have SP2:=Lib.hid sp2
 have HM:=Lib.hid hM
 have X1:=Lib.hid hX1
 have Y1:=Lib.hid hY1
 have Y2:=Lib.hid hY2
 clear hcel hk hLZ sp1 sp2 hM hX1 hY1 hY2 hyg hyl
 simp only[Apd,hn,hm]
 go_enter Tryz.func332,Tryz.ntmps332
 go_wp2_with (first
  | (go_at_call 335;refine (MG (t:=3) (vs:=[_]) (M:=fun _=>False) HLZ.out Tryz.func335 (by kernel_rfl) (fun _ h=>h.elim) (by kernel_rfl) rfl (YN (by kernel_rfl) (Qr (t:=180) (k:= .u32) (by kernel_rfl) (by kernel_rfl) (by kernel_rfl) (by show (0:Int)≤_;omega) (by show _≤(4294967295:Int);rw[A5]at htB;omega))) (by kernel_rfl) (k:= .i64) (by kernel_rfl)).mono ?_;rintro e w1 ⟨rfl,_,hx1⟩)
  | (go_at_call_of 336 (Value.slice (some ad) n cb);refine (WO (t:=62) (e:=180) (vs:=[_,_]) (M:=M) SP1.out Tryz.func336 (by kernel_rfl) (fun b h=>Aqb (HM.out b h) hx1.size) (by kernel_rfl) rfl (Qp (by kernel_rfl) (Kn (t:= .ty 62) HB.out hx1 (fun _ h _=>h)) (Qr (t:=3) (k:= .i64) (by kernel_rfl) (by kernel_rfl) (by kernel_rfl) (by show (-9223372036854775808:Int)≤_;omega) (by show _≤(9223372036854775807:Int);omega))) (by kernel_rfl) (by kernel_rfl) (by kernel_rfl) (fun e=>by have:=congrArg Aql e;simp[hq1]at this)).mono ?_;rintro e w2 ⟨G1,c1,cur1,rfl,hG1,hG1l,hB1,hle1,hc1,hsz1,hr1,hx2⟩;rw[Apd,hq1]at hle1 ⊢)
  | (go_at_call_of 336 (Value.slice A m ca);refine (WO (t:=62) (e:=180) (vs:=[_,_]) (M:=M) SP2.out Tryz.func336 (by kernel_rfl) (fun b h=>Aqb (HM.out b h) (hx1.trans hx2).size) (by kernel_rfl) rfl (Qp (by kernel_rfl) (Kn (t:= .ty 62) HA.out (hx1.trans hx2) (fun _ h _=>h)) (Qr (t:=3) (k:= .i64) (by kernel_rfl) (by kernel_rfl) (by kernel_rfl) (by show (-9223372036854775808:Int)≤_;omega) (by show _≤(9223372036854775807:Int);omega))) (by kernel_rfl) (by kernel_rfl) (by kernel_rfl) (fun e=>by have:=congrArg Aql e;simp[hq2]at this)).mono ?_;rintro e w3 ⟨G2,c2,cur2,rfl,hG2,hG2l,hB2,hle2,hc2,hsz2,hr2,hx3⟩;rw[Apd,hq2]at hle2 ⊢)
  | (at_make;refine Ao5 (w0:=w3) AeC rfl _ _ rfl (Ext.refl w3) (m-n+1) (m-n+1) rfl rfl (by omega) (by omega) (by omega) (by omega) (by unfold maxLen;omega) ?_;intro v4 w4 z hz hown4 hx4;rw[Ag2 hz]at hown4;have HO4:=Lib.hid hown4;rcases hown4.own.2 with ⟨_,hh⟩ | ⟨G3,c3,cur3,rfl,hG3,_,hnc3,c3m,_,_⟩;(exact absurd hh (by omega));clear hown4 hz))
 have ow1:OwL w w4 G1 c1 q1:=((WP hG1 hB1 (by omega) hc1 hsz1 hr1 hx2).base hx1).step (hx3.trans hx4)
 have ow2:OwL w w4 G2 c2 q2:=((WP hG2 hB2 (by omega) hc2 hsz2 hr2 hx3).base (hx1.trans hx2)).step hx4
 have ow3:OwL w w4 G3 c3 (Apc (m-n+1) 0):=by
  have:=HO4.out.base (hx1.trans (hx2.trans hx3))
  unfold OwL
  rw[Aqg,List.map_replicate,show iB 0=0 from rfl]
  exact this
 have h12:G1≠G2:=by omega
 have h13:G1≠G3:=by have:=hx3.size;omega
 have h23:G2≠G3:=by omega
 have hg1:w.heap.size≤G1:=Nat.le_trans hx1.size hG1
 have hg2:w.heap.size≤G2:=Nat.le_trans (hx1.trans hx2).size hG2
 have hg3:w.heap.size≤G3:=Nat.le_trans (hx1.trans (hx2.trans hx3)).size hG3
 have O1:=Lib.hid ow1
 have O2:=Lib.hid ow2
 have O3:=Lib.hid ow3
 have DV:=Lib.hid hdv
 have Q1:=Lib.hid hq1
 have Q2:=Lib.hid hq2
 have Q2v:=Lib.hid hq2v
 clear ow1 ow2 ow3 HO4 hB1 hB2 hsz1 hsz2 hr1 hr2 hG1l hG2l hdv hq1 hq2 hq1v hq2v hce
 go_loopw [11] (fun jv wr=>∃ (k:Nat) (R qh:List Ar),jv = .int .i64 ((k:Int)-1)∧LInv (x*2 ^ s) (y*2 ^ s) m n w wr G1 c1 G2 c2 G3 c3 q1 k R qh) (fun jv _=>(intOf jv+1).toNat)
 case atStart=>exact ⟨m-n+1,q2,[],by congr 1;omega,LInv.start Q2.out Q2v.out X1.out O1.out O2.out O3.out⟩
 case round =>
  obtain ⟨k,R,qh,rfl,hk,hR,hql,hlt,heq,ow2,ow3,ow1⟩:=hrel
  by_cases hk0:k=0
  · subst hk0
    rw[Nat.pow_zero,Nat.mul_one]at hlt
    rw[Nat.pow_zero,Nat.one_mul]at heq
    rw[List.replicate_zero,Aqp]at ow3
    have Y0:0<y*2 ^ s:=Nat.lt_of_le_of_lt (Nat.zero_le _) hlt
    have s0:0<2 ^ s:=Nat.pow_pos (by decide)
    have q1e:nv qh=x / y:=by
      have h1:(x*2 ^ s) / (y*2 ^ s)=x / y:=Nat.mul_div_mul_right _ _ s0
      rw[← h1,← heq,Nat.add_mul_div_left _ _ Y0,Nat.div_eq_of_lt hlt,Aqo]
    have q2e:nv (R.take n) / 2 ^ s=x % y:=by
      rw[VZ rfl (Nat.lt_trans hlt Y1.out) (by omega)]
      have h1:(x*2 ^ s) % (y*2 ^ s)=x % y*2 ^ s:=Nat.mul_mod_mul_right _ _ _
      have h2:nv R=x % y*2 ^ s:=by rw[← h1,← heq,Nat.add_mul_mod_self_left,Ap6 hlt]
      rw[h2,Nat.mul_div_cancel _ s0]
    have TR:=F3 qh (by omega)
    have DN:=Ahy (R.take n) s hs32 (by rw[Apr];omega)
    rw[q1e]at TR
    rw[q2e]at DN
    have hqw:=ow3.win (j:=0) (n:=m-n+1) (c:=c3) (by omega) hnc3
    rw[List.drop_zero,Ap_ (by omega)]at hqw
    have hrw:=ow2.win (j:=0) (n:=n) (c:=c2) (by omega) (by omega)
    rw[List.drop_zero]at hrw
    have HTR:=Lib.hid TR
    have HDN:=Lib.hid DN
    have QWN:=Lib.hid hqw
    have RWN:=Lib.hid hrw
    have XT:=Lib.hid ow3.ext
    clear TR DN hqw hrw ow1 ow2 ow3 q1e q2e hlt heq
    go_wp2_with fail
    refine Alo 9 [[],[(0,77)],[],[],[(2,79),(3,80)],[],[(4,81),(5,82)],[(1,78)],[(6,83)]] [(0,77),(1,78),(2,79),(3,80),(4,81),(5,82),(6,83),(7,4),(8,5)] (by kernel_rfl) (by kernel_rfl) (by kernel_rfl) (by kernel_rfl) ?_
    apply Grow.step
    · intro w2 hw2
      intro K hK
      go_wp2_with fail
      first | exact hK _ _ (Ext.refl _) EqV.rfl_ | trace "op 0"
    · first | exact Ug _ | (intro v w w1 h hx;exact SlI.keep h hx) | (intro v w w1 h hx;exact IntV.keep h hx) | (intro v w w1 h hx;exact SlN.keep h hx) | (intro v w w1 h hx;exact h)
    apply Grow.step
    · intro w2 hw2
      intro n1 h1
      simp only[upd,reduceIte,Nat.reduceEqDiff,Nat.reduceAdd]at h1
      first | (unfold EqV at h1;subst h1) | skip
      intro K hK
      go_wp2_with fail
      (refine (AbI (t:=62) (vs:=[_]) (M:=fun b ↦ b<w.heap.size) HTR.out Tryz.func321 (by kernel_rfl) (fun b h ↦ Aqb h (XT.out.trans (((Ext.refl _).drew).trans hw2)).size) (by kernel_rfl) rfl (YN (t:=62) (by kernel_rfl) (DY (SlI.keep QWN.out (((Ext.refl _).drew).trans hw2)) c3m (by omega))) (by kernel_rfl) (by kernel_rfl)).mono ?_;rintro e w' ⟨u5,rfl,hu5,hx5⟩;(go_wp2_with fail);exact hK _ _ hx5 hu5)
    · (intro v w1 w2 h hx;exact Kn h hx (fun _ h _=>h))
    apply Grow.step
    · intro w2 hw2
      intro K hK
      go_wp2_with fail
      first | exact hK _ _ (Ext.refl _) EqV.rfl_ | trace "op 2"
    · first | exact Ug _ | (intro v w w1 h hx;exact SlI.keep h hx) | (intro v w w1 h hx;exact IntV.keep h hx) | (intro v w w1 h hx;exact SlN.keep h hx) | (intro v w w1 h hx;exact h)
    apply Grow.step
    · intro w2 hw2
      intro K hK
      go_wp2_with fail
      first | exact hK _ _ (Ext.refl _) EqV.rfl_ | trace "op 3"
    · first | exact Ug _ | (intro v w w1 h hx;exact SlI.keep h hx) | (intro v w w1 h hx;exact IntV.keep h hx) | (intro v w w1 h hx;exact SlN.keep h hx) | (intro v w w1 h hx;exact h)
    apply Grow.step
    · intro w2 hw2
      intro n1 h1
      simp only[upd,reduceIte,Nat.reduceEqDiff,Nat.reduceAdd]at h1
      first | (unfold EqV at h1;subst h1) | skip
      intro n2 h2
      simp only[upd,reduceIte,Nat.reduceEqDiff,Nat.reduceAdd]at h2
      first | (unfold EqV at h2;subst h2) | skip
      intro K hK
      go_wp2_with fail
      first | exact hK _ _ (Ext.refl _) EqV.rfl_ | exact hK _ _ (Ext.refl _) h1 | exact hK _ _ (Ext.refl _) h2 | trace "op 4"
    · first | exact Ug _ | (intro v w w1 h hx;exact SlI.keep h hx) | (intro v w w1 h hx;exact IntV.keep h hx) | (intro v w w1 h hx;exact SlN.keep h hx) | (intro v w w1 h hx;exact h)
    apply Grow.step
    · intro w2 hw2
      intro K hK
      go_wp2_with fail
      first | exact hK _ _ (Ext.refl _) EqV.rfl_ | trace "op 5"
    · first | exact Ug _ | (intro v w w1 h hx;exact SlI.keep h hx) | (intro v w w1 h hx;exact IntV.keep h hx) | (intro v w w1 h hx;exact SlN.keep h hx) | (intro v w w1 h hx;exact h)
    apply Grow.step
    · intro w2 hw2
      intro n1 h1
      simp only[upd,reduceIte,Nat.reduceEqDiff,Nat.reduceAdd]at h1
      first | (unfold EqV at h1;subst h1) | skip
      intro n2 h2
      simp only[upd,reduceIte,Nat.reduceEqDiff,Nat.reduceAdd]at h2
      first | (unfold EqV at h2;subst h2) | skip
      intro K hK
      go_wp2_with fail
      (refine (AbI (t:=62) (vs:=[_,_]) (M:=fun b ↦ b<w.heap.size) HDN.out Tryz.func340 (by kernel_rfl) (fun b h ↦ Aqb h (XT.out.trans (((Ext.refl _).drew).trans hw2)).size) (by kernel_rfl) rfl (Qp (t:=62) (by kernel_rfl) (DY (SlI.keep RWN.out (((Ext.refl _).drew).trans hw2)) hc2 (by omega)) (Qr (t:=3) (k:= .i64) (by kernel_rfl) (by kernel_rfl) (by kernel_rfl) (by show (-9223372036854775808:Int)≤_;omega) (by show _≤(9223372036854775807:Int);omega))) (by kernel_rfl) (by kernel_rfl)).mono ?_;rintro e w' ⟨u5,rfl,hu5,hx5⟩;(go_wp2_with fail);exact hK _ _ hx5 hu5)
    · (intro v w1 w2 h hx;exact Kn h hx (fun _ h _=>h))
    apply Grow.step
    · intro w2 hw2
      intro n1 h1
      simp only[upd,reduceIte,Nat.reduceEqDiff,Nat.reduceAdd]at h1
      first | (unfold EqV at h1;subst h1) | skip
      intro K hK
      go_wp2_with fail
      ((first | exact hK _ _ (Ext.refl _) h1 | exact hK _ _ (Ext.refl _) h2))
    · (intro v w1 w2 h hx;exact Kn h hx (fun _ h _=>h))
    apply Grow.step
    · intro w2 hw2
      intro n1 h1
      simp only[upd,reduceIte,Nat.reduceEqDiff,Nat.reduceAdd]at h1
      first | (unfold EqV at h1;subst h1) | skip
      intro K hK
      go_wp2_with fail
      ((first | exact hK _ _ (Ext.refl _) h1 | exact hK _ _ (Ext.refl _) h2))
    · (intro v w1 w2 h hx;exact Kn h hx (fun _ h _=>h))
    refine Grow.last (fun w2 hw2=> ?_)
    intro n77 h77;simp only[upd,reduceIte,Nat.reduceEqDiff,Nat.reduceAdd]at h77;(first | (unfold EqV at h77;subst h77) | skip)
    intro n78 h78;simp only[upd,reduceIte,Nat.reduceEqDiff,Nat.reduceAdd]at h78;(first | (unfold EqV at h78;subst h78) | skip)
    intro n79 h79;simp only[upd,reduceIte,Nat.reduceEqDiff,Nat.reduceAdd]at h79;(first | (unfold EqV at h79;subst h79) | skip)
    intro n80 h80;simp only[upd,reduceIte,Nat.reduceEqDiff,Nat.reduceAdd]at h80;(first | (unfold EqV at h80;subst h80) | skip)
    intro n81 h81;simp only[upd,reduceIte,Nat.reduceEqDiff,Nat.reduceAdd]at h81;(first | (unfold EqV at h81;subst h81) | skip)
    intro n82 h82;simp only[upd,reduceIte,Nat.reduceEqDiff,Nat.reduceAdd]at h82;(first | (unfold EqV at h82;subst h82) | skip)
    intro n83 h83;simp only[upd,reduceIte,Nat.reduceEqDiff,Nat.reduceAdd]at h83;(first | (unfold EqV at h83;subst h83) | skip)
    intro n4 h4;simp only[upd,reduceIte,Nat.reduceEqDiff,Nat.reduceAdd]at h4;(first | (unfold EqV at h4;subst h4) | skip)
    intro n5 h5;simp only[upd,reduceIte,Nat.reduceEqDiff,Nat.reduceAdd]at h5;(first | (unfold EqV at h5;subst h5) | skip)
    refine Need.done ?_
    simp only[List.drop_succ_cons,List.drop_zero]
    go_simp
    go_wp2_with fail
    go_ret2
    exact ⟨_,_,rfl,h4,h5,XT.out.trans (((Ext.refl _).drew).trans hw2)⟩
  · obtain ⟨j,rfl⟩ : ∃ j,k=j+1:=⟨k-1,by omega⟩
    obtain ⟨e1,l1,l2,l3,l4⟩:=Agx (R:=R) (n:=n) (j:=j) (by omega) Y1.out hlt
    have RW:=Lib.hid ow2
    have QW:=Lib.hid ow3
    have DW:=Lib.hid ow1
    have L4:=Lib.hid l4
    have L3:=Lib.hid l3
    have L2:=Lib.hid l2
    have L1:=Lib.hid l1
    have E1:=Lib.hid e1
    have LT:=Lib.hid hlt
    have EQ:=Lib.hid heq
    clear ow1 ow2 ow3 l1 l2 l3 l4 e1 hlt heq
    have DS:Hid (Oz wr (.slice (some ⟨G1,0,none⟩) n c1) (q1.take n)):=by
      have:=DW.out.win (j:=0) (n:=n) (c:=c1) (by have:=Q1.out;omega) (by omega)
      rwa[List.drop_zero]at this
    have WIN:=Lib.hid (RW.out.win (j:=j) (n:=n+1) (c:=c2-j) (by omega) (by omega))
    obtain ⟨g,spE,hgl,hgu,hgB⟩:=Ah0 ((R.drop j).take (n+1)) (q1.take n) (n-2) (by have:=Q1.out;rw[Apr];omega) (by rw[L2.out];omega) (by omega) (by rw[DV.out,show n-2+2=n by omega];exact Y2.out) (by rw[DV.out];exact L3.out)
    rw[DV.out]at hgl hgu
    have SPE:=Lib.hid spE
    have GL:=Lib.hid hgl
    have GU:=Lib.hid hgu
    have GB:=Lib.hid hgB
    clear spE hgl hgu
    rw[A5]at hgB
    have en:j+n+1-j=n+1:=by omega
    go_wp2_with (go_at_call 337;rw[en];refine (MG (t:=22) (vs:=[_,_]) (M:=fun _=>False) SPE.out Tryz.func337 (by kernel_rfl) (fun _ h=>h.elim) (by kernel_rfl) rfl (Qp (t:=62) (u:=62) (by kernel_rfl) (DY WIN.out (by omega) id) (DY DS.out (by omega) id)) (by kernel_rfl) (k:= .u64) (by kernel_rfl)).mono ?_;rintro e w5 ⟨rfl,_,hx5⟩)
    have LEN:Hid ((R.take j++(R.drop j).take (n+1)++R.drop (j+(n+1))).length≤1000000000):=by show _≤_;rw[← E1.out];omega
    have hq1n:n≤q1.length:=by have:=Q1.out;omega
    have RW5:Hid (OwL w w5 G2 c2 (R.take j++(R.drop j).take (n+1)++R.drop (j+(n+1)))):=by show OwL _ _ _ _ _;rw[← E1.out];exact RW.out.step hx5
    have QW5:Hid (OwL w w5 G3 c3 (Apc (j+1) 0++qh)):=QW.out.step hx5
    have DW5:Hid (OwL w w5 G1 c1 q1):=DW.out.step hx5
    refine (Anz hq1n (by omega) L1.out L2.out LEN.out (by omega) hg2 h12 RW5.out DW5.out GB.out).mono ?_
    rintro e w6 ⟨out,b,hb01,rfl,hol,hov,how,hgr⟩
    rw[L2.out]at hol hov
    rw[DV.out]at hov
    have Y0:Hid (0<y*2 ^ s):=by
      rcases Nat.eq_zero_or_pos (y*2 ^ s) with h0 | h0
      · have:=LT.out;rw[h0]at this;omega
      · exact h0
    have YP:Hid (y*2 ^ s≤B ^ (n+1)):=Nat.le_trans (Nat.le_of_lt Y1.out) (Nat.pow_le_pow_right B0 (by omega))
    have EX:=Lib.hid (An0 Y0.out YP.out GL.out GU.out (by have:=Cd out;rwa[hol]at this) hb01 hov)
    have QW6:Hid (OwL w w6 G3 c3 (Apc (j+1) 0++qh)):=QW5.out.far hgr h23.symm hg2
    have DW6:Hid (OwL w w6 G1 c1 q1):=DW5.out.far hgr h12 hg2
    have HOW:=Lib.hid how
    have HOL:=Lib.hid hol
    clear hov how hgr hol
    have fin:Hid (∀ (w7:World) (o2:List Ar) (g2:Nat),o2.length=n+1→nv o2=nv ((R.drop j).take (n+1)) % (y*2 ^ s)→g2=nv ((R.drop j).take (n+1)) / (y*2 ^ s)→OwL w w7 G2 c2 (R.take j++o2++R.drop (j+(n+1)))→OwL w w7 G3 c3 (Apc (j+1) 0++qh)→OwL w w7 G1 c1 q1→g2<B →
        ∃ (k:Nat) (R' qh':List Ar),Value.int IntKind.i64 ((j:Int)-1) = .int .i64 ((k:Int)-1)∧LInv (x*2 ^ s) (y*2 ^ s) m n w (w7.setCell ⟨G3,j,none⟩ (.int .u32 (g2:Int))) G1 c1 G2 c2 G3 c3 q1 k R' qh'):=by
      intro w7 o2 g2 t1 t2 t3 t4 t5 t6 t7
      obtain ⟨u1,u2,u3⟩:=L4.out o2 t1 t2
      have gs:w7.grownBy (w7.setCell ⟨G3,j,none⟩ (.int .u32 (g2:Int))) (some G3):=Sf (Se _ _) _ _ _
      refine ⟨j,_,Apw 32 g2::qh,rfl,by omega,u1.trans hR,by simp;omega,u2,?_,t4.far gs h23 hg3,?_,t6.far gs h13 hg3⟩
      · rw[← EQ.out,← u3,nv,ofNat_lt t7,← t3,Nat.mul_add,Nat.mul_add,Aqj,Nat.mul_assoc (B ^ j)];omega
      · have:=t5.set j (by simp;omega) (Apw 32 g2)
        rw[ofNat_lt t7,Ajt]at this
        exact this
    by_cases hb0:b=0
    · subst hb0
      obtain ⟨cl,fz,gb,gl⟩:=QW6.out.cell j (by simp;omega)
      obtain ⟨e2,e3⟩:=EX.out.1 rfl
      have E2:=Lib.hid e2
      have E3:=Lib.hid e3
      clear e2 e3
      go_wp2
      go_roundw
      case rel=>exact fin.out _ out g HOL.out E3.out E2.out HOW.out QW6.out DW6.out GB.out
      case measure=>(simp[intOf] <;> omega)
    · obtain ⟨e2,e3⟩:=EX.out.2 hb0
      obtain ⟨g',rfl⟩ : ∃ g',g=g'+1:=⟨_,e2⟩
      have E2:Hid (g'=nv ((R.drop j).take (n+1)) / (y*2 ^ s)):=Nat.succ.inj e2
      have E3:=Lib.hid e3
      have hbz:(!(b == 0))=true:=by simp[hb0]
      have HGB':Hid (g'<B):=Nat.lt_of_succ_lt GB.out
      have eg:(((g'+1:Nat):Int)-1)=(g':Int):=by omega
      clear e2 e3
      go_wp2_with fail
      have LEN6:Hid ((R.take j++out++R.drop (j+(n+1))).length≤1000000000):=by
        have h1:=LEN.out
        simp only[Apn,L2.out,HOL.out]at h1 ⊢
        exact h1
      refine (AiI hq1n (by omega) L1.out HOL.out LEN6.out (by omega) hg2 h12 HOW.out DW6.out).mono ?_
      rintro e w7 ⟨out2,b2,v,rfl,hol2,hov2,how2,hgr2⟩
      rw[HOL.out]at hol2 hov2
      rw[DV.out]at hov2
      have E4:=Lib.hid (E3.out (nv out2) b2 (by have:=Cd out2;rwa[hol2]at this) hov2)
      have QW7:Hid (OwL w w7 G3 c3 (Apc (j+1) 0++qh)):=QW6.out.far hgr2 h23.symm hg2
      have DW7:Hid (OwL w w7 G1 c1 q1):=DW6.out.far hgr2 h12 hg2
      have HOW2:=Lib.hid how2
      have HOL2:=Lib.hid hol2
      obtain ⟨cl,fz,gb,gl⟩:=QW7.out.cell j (by simp;omega)
      have hgB':=HGB'.out
      rw[A5]at hgB'
      clear hov2 how2 hgr2 hol2 hgB
      go_wp2
      go_roundw
      case rel=>exact fin.out _ out2 g' HOL2.out E4.out E2.out HOW2.out QW7.out DW7.out HGB'.out
      case measure=>(simp[intOf] <;> omega)
theorem Ah3(x y:Nat)(h1:1<(lb y).length)(hxy:y≤x)(hl:(lb x).length≤100000):Sp 332 [dL (lb x),dL (lb y)] [dL (lb (x / y)),dL (lb (x % y))]:=by
 refine CW Lz Tryz.func332 (by kernel_rfl) (by kernel_rfl) (by kernel_rfl) (fun w M vs hM _ hlv hrd=> ?_)
 have hps:Tryz.f332.params.toList = [62,62]:=by kernel_rfl
 have hlen:vs.length=2:=by rw[hlv];rfl
 match vs,hlen with
 | [va,vb],_ =>
  rw[hps]at hrd
  refine (Agw x y va vb w M (hrd 0 _ _ _ rfl rfl rfl) (hrd 1 _ _ _ rfl rfl rfl) hM h1 hxy hl).mono ?_
  rintro e w' ⟨u1,u2,rfl,r1,r2,hx⟩
  refine ⟨[u1,u2],rfl,rfl,fun i t u ht hu=> ?_,hx⟩
  rw[show Tryz.f332.resultTypes.toList = [62,62] by kernel_rfl]at ht
  match i with
  | 0=>cases ht;cases hu;exact Kn r1 (Ext.refl _) (fun b hb _=>hM b hb)
  | 1=>cases ht;cases hu;exact Kn r2 (Ext.refl _) (fun b hb _=>hM b hb)
  | i+2=>simp at ht
theorem Xr(x y:Nat)(hl:(lb x).length≤100000):EC x y:=fun h1 h2=>Ah3 x y h1 h2 hl
end Go.Proofs.YtokkbgpgaheakaaGreat
namespace Go.Proofs.YtokkbgpgaheakaaGreat
def Io(z:Int)(d:Nat):Num:=⟨decide (z<0),lb z.natAbs,lb d⟩
theorem AhW(z:Int)(d:Nat):Bs (Io z d)=z:=De z
theorem AhU(z:Int)(d:Nat):Bq (Io z d)=(d:Int):=by simp[Bq,Io,Bv]
theorem N2:lb 1 = [1]:=by rw[Py (by decide),show 1 / B=0 from rfl,C9];rfl
theorem Pp(z:Int):Io z 1=Cy z:=by unfold Io Cy;rw[N2]
theorem Xz(p q:Int)(hq:q≠0) : ∃ (z:Int) (d:Nat),d≠0∧Nat.Coprime z.natAbs d∧z*q=p*(d:Int)∧z.natAbs≤p.natAbs∧d≤q.natAbs∧C_ p q=if 32<Bu z∨32<(lb d).length then (.zero,7) else (Io z d,0):=by
 have hg:0<Nat.gcd p.natAbs q.natAbs:=Nat.gcd_pos_of_pos_right _ (by omega)
 obtain ⟨a,ha⟩:=Nat.gcd_dvd_left p.natAbs q.natAbs
 obtain ⟨b,hb⟩:=Nat.gcd_dvd_right p.natAbs q.natAbs
 have hda:p.natAbs / Nat.gcd p.natAbs q.natAbs=a:=by
   conv=>lhs;lhs;rw[ha]
   exact Nat.mul_div_cancel_left _ hg
 have hdb:q.natAbs / Nat.gcd p.natAbs q.natAbs=b:=by
   conv=>lhs;lhs;rw[hb]
   exact Nat.mul_div_cancel_left _ hg
 have hcop:Nat.Coprime a b:=by
   have:=Nat.coprime_div_gcd_div_gcd hg
   rwa[hda,hdb]at this
 have hb0:b≠0:=fun h=>by rw[h,Nat.mul_zero]at hb;omega
 have ha0:a=0↔p=0:=by
   constructor
   · intro h;rw[h,Nat.mul_zero]at ha;omega
   · intro h
     rw[h]at ha
     simp only[Int.natAbs_zero]at ha
     rcases Nat.mul_eq_zero.1 ha.symm with h1 | h1
     · rw[h]at hg;simp only[Int.natAbs_zero]at hg;omega
     · exact h1
 have hal:a≤p.natAbs:=by rw[ha];exact Nat.le_mul_of_pos_left _ hg
 have hbl:b≤q.natAbs:=by rw[hb];exact Nat.le_mul_of_pos_left _ hg
 have hab:a*q.natAbs=p.natAbs*b:=by
   conv=>lhs;rw[hb]
   conv=>rhs;rw[ha]
   rw[Nat.mul_left_comm,Nat.mul_assoc]
 unfold C_
 rw[if_neg hq,hda,hdb]
 generalize Nat.gcd p.natAbs q.natAbs=g at *
 clear hda hdb ha hb hg
 have habz:(a:Int)*(q.natAbs:Int)=(p.natAbs:Int)*(b:Int):=by rw[← Int.natCast_mul,hab,Int.natCast_mul]
 by_cases hs:decide (p<0)=decide (q<0)
 · refine ⟨(a:Int),b,hb0,by simpa using hcop,?_,by simpa using hal,hbl,?_⟩
   · rw[decide_eq_decide]at hs
     by_cases hp:p<0
     · have e1:(p.natAbs:Int) = -p:=by omega
       have e2:(q.natAbs:Int) = -q:=by omega
       rw[e1,e2]at habz
       grind
     · have e1:(p.natAbs:Int)=p:=by omega
       have e2:(q.natAbs:Int)=q:=by omega
       rw[e1,e2]at habz
       exact habz
   · unfold Io Bu
     rw[hs,beq_self_eq_true,Bool.not_true,Bool.and_false]
     simp only[Int.natAbs_natCast]
     rw[decide_eq_false (p:=((a:Int)<0)) (by omega)]
 · have hp:(decide (p<0)==decide (q<0))=false:=by simpa using hs
   refine ⟨-(a:Int),b,hb0,by simpa using hcop,?_,by simpa using hal,hbl,?_⟩
   · rw[decide_eq_decide]at hs
     by_cases hp:p<0
     · have e1:(p.natAbs:Int) = -p:=by omega
       have e2:(q.natAbs:Int)=q:=by omega
       rw[e1,e2]at habz
       grind
     · have e1:(p.natAbs:Int)=p:=by omega
       have e2:(q.natAbs:Int) = -q:=by omega
       rw[e1,e2]at habz
       grind
   · unfold Io Bu
     rw[hp,Bool.not_false,Bool.and_true]
     simp only[Int.natAbs_neg,Int.natAbs_natCast]
     have:decide (0<(lb a).length)=decide (-(a:Int)<0):=by
       rw[decide_eq_decide]
       have:=Hb (n:=a)
       omega
     rw[this]
theorem AdY{z z':Int}{d d':Nat}(h:d≠0)(h':d'≠0)(c:Nat.Coprime z.natAbs d)(c':Nat.Coprime z'.natAbs d')(e:z*(d':Int)=z'*(d:Int)):z=z'∧d=d':=by
 have en:z.natAbs*d'=z'.natAbs*d:=by
  have:=congrArg Int.natAbs e
  simpa [Int.natAbs_mul]using this
 have h1:d∣d':=(Nat.Coprime.dvd_of_dvd_mul_left c.symm (by rw[en];exact Nat.dvd_mul_left _ _))
 have h2:d'∣d:=(Nat.Coprime.dvd_of_dvd_mul_left c'.symm (by rw[← en];exact Nat.dvd_mul_left _ _))
 have hd:=Nat.dvd_antisymm h1 h2
 subst hd
 exact ⟨Int.eq_of_mul_eq_mul_right (by omega) e,rfl⟩
structure RNum (n:Num) (z:Int) (d:Nat):Prop where
 eq:n=Io z d
 d0:d≠0
 cop:Nat.Coprime z.natAbs d
 lz:Bu z≤32
 ld:(lb d).length≤32
theorem AgL{z:Int}{d:Nat}(h0:d≠0)(hc:Nat.Coprime z.natAbs d)(h1:Bu z≤32)(h2:(lb d).length≤32):C_ z (d:Int)=(Io z d,0):=by
 obtain ⟨z',d',h1',h2',h3',_,_,h4'⟩:=Xz z (d:Int) (by omega)
 obtain ⟨rfl,rfl⟩:=AdY h0 h1' hc h2' h3'.symm
 rw[h4',if_neg (by omega)]
theorem RNum.self {n:Num} {z:Int} {d:Nat} (h:RNum n z d):C_ z (d:Int)=(n,0):=by rw[AgL h.d0 h.cop h.lz h.ld,h.eq]
theorem RNum.top {n:Num} {z:Int} {d:Nat} (h:RNum n z d):Bs n=z:=by rw[h.eq,AhW]
theorem RNum.bot {n:Num} {z:Int} {d:Nat} (h:RNum n z d):Bq n=(d:Int):=by rw[h.eq,AhU]
theorem RNum.right {n:Num} {z:Int} {d:Nat} (h:RNum n z d):Et n=true:=by
 unfold Et
 rw[h.top,h.bot,h.self]
 have h1:=h.lz
 have h2:=h.ld
 rw[h.eq]
 exact decide_eq_true ⟨h1,h2,rfl⟩
theorem Lr{n:Num}(h:Et n=true) : ∃ z d,RNum n z d:=by
 unfold Et at h
 obtain ⟨h1,h2,h3⟩:=of_decide_eq_true h
 by_cases hq:Bq n=0
 · rw[hq]at h3
   have:=congrArg Prod.snd h3
   simp[C_]at this
 · obtain ⟨z,d,g1,g2,_,_,_,g4⟩:=Xz (Bs n) (Bq n) hq
   rw[h3]at g4
   split at g4
   · cases g4
   · injection g4 with g4
     exact ⟨z,d,g4,g1,g2,by omega,by omega⟩
theorem RNum.len {n:Num} {z:Int} {d:Nat} (h:RNum n z d):n.top.length≤32∧n.bot.length≤32:=by rw[h.eq];exact ⟨h.lz,h.ld⟩
theorem IW{p q:Int}(hq:q≠0):((C_ p q).2=0→∃ z d,RNum (C_ p q).1 z d∧z*q=p*(d:Int)∧z.natAbs≤p.natAbs∧d≤q.natAbs)∧((C_ p q).2=0∨(C_ p q)=(.zero,7))∧(Bu p≤32→Bu q≤32→(C_ p q).2=0):=by
 obtain ⟨z,d,g1,g2,g3,g5,g6,g4⟩:=Xz p q hq
 rw[g4]
 have mono : ∀ {a b k:Nat},a≤b→(lb b).length≤k→(lb a).length≤k:=fun hab hk=>Bb.2 (Nat.lt_of_le_of_lt hab (Bb.1 hk))
 refine ⟨fun h=> ?_,?_,fun h1 h2=> ?_⟩
 · split at h
   · cases h
   · rename_i hh
     rw[if_neg hh]
     exact ⟨z,d,⟨rfl,g1,g2,by omega,by omega⟩,g3,g5,g6⟩
 · split
   · exact .inr rfl
   · exact .inl rfl
 · rw[if_neg]
   have a1:=mono g5 h1
   have a2:=mono g6 h2
   unfold Bu;omega
def Du(r:Num×Int):List D:=[dN r.1,.int r.2]
theorem Mq(n:Num):Bu (Bs n)≤n.top.length:=Ia ⟨n.neg,n.top⟩
theorem Mp(n:Num):Bu (Bq n)≤n.bot.length:=Ia ⟨false,n.bot⟩
theorem L8(n:Num):zv ⟨false,n.bot⟩=Bq n:=rfl
theorem K3(n:Num):zv ⟨n.neg,n.top⟩=Bs n:=rfl
def EF(a b:Num):Num×Int:=C_ (Bs a*Bq b+Bs b*Bq a) (Bq a*Bq b)
def P_(a b:Num):Num×Int:=C_ (Bs a*Bs b) (Bq a*Bq b)
def Np(a b:Num):Num×Int:=C_ (Bs a*Bq b) (Bq a*Bs b)
def Hn(a b:Num):Int:=Cv (Bs a*Bq b) (Bs b*Bq a)
def Jk(a:Num):Num:=if a.top = [] then Cy 0 else ⟨!a.neg,a.top,a.bot⟩
def MH(a b:Num):Num×Int:=EF a (Jk b)
def J9(a:Num):Num:=Cy (El (Bs a) (Bq a)).1
def La(r:Num×Int)(f:Num→Num×Int):Num×Int:=if r.2=0 then f r.1 else (.zero,r.2)
def P8(a b:Num):Num×Int:=if a.top = [] then (b,0) else La (Np b a) fun q=>La (P_ a (J9 q)) fun p=>MH b p
def Oa(p q:Int×Int):Num×Int:=if p.2=0 then (if q.2=0 then C_ p.1 q.1 else (.zero,q.2)) else (.zero,p.2)
def Ql(a:Num)(n:Int):Num×Int :=
 if n<0 then (if a.top = []∨n < -9223372036854775807 then (.zero,3) else Oa (Mt (Bq a) (-n)) (Mt (Bs a) (-n))) else Oa (Mt (Bs a) n) (Mt (Bq a) n)
def Nw(a b:Num):Num×Int:=if a.bot = [1]∧b.bot = [1] then (Cy (Nat.gcd (nv a.top) (nv b.top):Nat),0) else (.zero,3)
def Pz(a b:Num):Num×Int:=La (Nw a b) fun g=>if g.top = [] then (g,0) else La (Np a g) fun p=>P_ p b
theorem Qc{n:Num}{z:Int}{d:Nat}(h:RNum n z d):RNum (Jk n) (-z) d:=by
 have h0:n.top = []↔z=0:=by rw[h.eq];show lb z.natAbs = []↔_;rw[IK];omega
 refine ⟨?_,h.d0,by rw[Int.natAbs_neg];exact h.cop,by rw[Agu];exact h.lz,h.ld⟩
 unfold Jk
 split
 · rename_i h1
   have hz:=h0.1 h1
   have hd:d=1:=by
    have:=h.cop
    rw[hz,Int.natAbs_zero,Nat.coprime_zero_left]at this
    exact this
   rw[hz,hd,Int.neg_zero,Pp]
 · rename_i h1
   have hz:z≠0:=fun hh=>h1 (h0.2 hh)
   rw[h.eq]
   unfold Io
   simp only[Int.natAbs_neg]
   rw[show decide (-z<0) = !decide (z<0) by rw[E0,decide_eq_decide];omega]
theorem Ah7(a b:Nat)(ha:a<18446744073709551616)(hb:b<18446744073709551616):Sp 327 [.int (a:Int),.int (b:Int)] [dL (lb (Nat.gcd a b))]:=by
 have key : ∀ (m N x y:Nat),y<m→x<18446744073709551616→y<18446744073709551616→Tw (Ym N m (x:Int) (y:Int)) [dL (lb (Nat.gcd x y))]:=by
  intro m
  induction m with
  | zero=>intro N x y h;omega
  | succ m ih =>
   intro N x y h hx hy
   simp only[Tw,Ah6,Dg,Cn,E0]
   refine Ae (fun h0=> ?_) (fun h0=> ?_)
   · have hm:=Ap4 x (show 0<y by omega)
     have:=ih N y (x % y) (by omega) hy (by omega)
     rw[Nat.gcd_comm x y,Nat.gcd_rec,Nat.gcd_comm]
     exact Ad this
   · have:y=0:=by omega
     subst this
     rw[Nat.gcd_zero_right,Pj]
     have e1:Aom .u32 (x:Int)=((x % 4294967296:Nat):Int):=by rw[IntKind.wrap_u32];omega
     have e2:Aom .u32 ((x / 4294967296:Nat):Int)=((x / 4294967296:Nat):Int):=Ft (by omega) (by omega)
     have nm:=H0 [Apw 32 (x % 4294967296),Apw 32 (x / 4294967296)] (by simp)
     rw[Ul hx]at nm
     rw[e1,e2,Ew (t:=x % 4294967296) (by rw[A5];omega),Ew (t:=x / 4294967296) (by rw[A5];omega)]
     exact Bo (by decide) (Aa nm (Ac rfl))
 refine Af (b+1) (Ah8 _ _ _) ?_
 simp only[Ao]
 exact key (b+1) (b+1) a b (by omega) ha hb
theorem VS(l:List Ar)(h:l.length≤2):Sp 328 [dL l] [.int ((nv l:Nat):Int)]:=by
 refine Af 3 (AhA _ _) ?_
 have one : ∀ (m k x:Nat) (d:Ar),k≤1→l[k]? = some d→(k=0→x=0)→x<4294967296→Tw (Qb 3 m ((x+d.toNat*4294967296 ^ k:Nat):Int) (dL l) (l.length:Int) ((k+1:Nat):Int)) [.int ((nv l:Nat):Int)]→Tw (Qb 3 (m+1) (x:Int) (dL l) (l.length:Int) (k:Int)) [.int ((nv l:Nat):Int)]:=by
  intro m k x d hk hd hx hx2 hw
  have hkl:k<l.length:=(Apf.1 hd).1
  have hdl:=Fb d
  rw[A5]at hdl
  simp only[Tw,VR,B3,Apd,Apj,Aw hd,En]
  rw[Ax (x:=32*(k:Int)) (by omega) (by omega),Bt (x:=32*(k:Int)) (by omega) (by omega),Bt (x:=(d.toNat:Int)) (by omega) (by omega),Fh (by omega)]
  refine Ad (Ad (Ad (Ad ?_)))
  have e:Br .or .u64 (x:Int) (Aom .u64 ((d.toNat:Int)*2 ^ (min (Apa (32*(k:Int))) (Apl .u64))))=((x+d.toNat*4294967296 ^ k:Nat):Int):=by
   rcases (by omega:k=0∨k=1) with rfl | rfl
   · rw[hx rfl]
     show Br .or .u64 ((0:Nat):Int) (Aom .u64 ((d.toNat:Int)*1))=_
     rw[Int.mul_one,Bt (by omega) (by omega),WJ (by omega) (by omega)]
     simp
   · show Br .or .u64 (x:Int) (Aom .u64 ((d.toNat:Int)*4294967296))=_
     rw[show (d.toNat:Int)*4294967296=((d.toNat*4294967296:Nat):Int) by omega,Bt (by omega) (by omega),JQ hx2 hdl]
     try simp
  rw[e]
  exact hw
 simp only[B3,Apd]
 have fin : ∀ (m x:Nat),nv l=x→Tw (Qb 3 (m+1) (x:Int) (dL l) (l.length:Int) (l.length:Int)) [.int ((nv l:Nat):Int)]:=by
  intro m x hx
  simp only[Tw,VR]
  exact At (Ac (by rw[hx]))
 match l,h with
 | [],_=>exact fin 2 0 rfl
 | [d],_ =>
  refine one 2 0 0 d (by omega) rfl (fun _=>rfl) (by omega) ?_
  exact fin 1 _ (by simp[nv])
 | [d,e],_ =>
  have hdl:=Fb d
  rw[A5]at hdl
  refine one 2 0 0 d (by omega) rfl (fun _=>rfl) (by omega) ?_
  rw[show 0+d.toNat*4294967296 ^ 0=d.toNat by simp]
  refine one 1 1 d.toNat e (by omega) rfl (fun h=>by omega) (by omega) ?_
  refine fin 0 _ ?_
  simp only[nv]
  rw[A5,Nat.pow_one,Ap9 e.toNat]
  simp
theorem VF(a b:List Ar)(ha:a.length≤1000)(hb:b.length≤1000):Sp 315 [dL a,dL b] [dL (lb (Nat.gcd (nv a) (nv b)))]:=by
 obtain ⟨K,hK⟩ : ∃ K,K=1000:=⟨_,rfl⟩
 have key : ∀ (m N x y:Nat),y<m→(lb x).length≤K→(lb y).length≤K→Tw (S2 N m (dL (lb x)) (dL (lb y))) [dL (lb (Nat.gcd x y))]:=by
  intro m
  induction m with
  | zero=>intro N x y h;omega
  | succ m ih =>
   intro N x y h hx hy
   simp only[Tw,Ahs,B3,Apd]
   have ly0:=Hb (n:=y)
   refine Ae (fun h0=> ?_) (fun h0=> ?_)
   · have hy0:y≠0:=fun hh=>by rw[ly0.2 hh]at h0;omega
     have hm:=Ap4 x (show 0<y by omega)
     have hml:(lb (x % y)).length≤K:=Bb.2 (Nat.lt_of_le_of_lt (Nat.le_of_lt hm) (Bb.1 hy))
     have dm:=Yc (lb x) (lb y) (by omega) (by omega) (Xr _ _ (by rw[Bv];omega))
     rw[Bv,Bv,if_neg hy0]at dm
     have nxt:=ih N y (x % y) (by omega) hy hml
     rw[show Nat.gcd y (x % y)=Nat.gcd x y by rw[Nat.gcd_comm x y,Nat.gcd_rec y x,Nat.gcd_comm]]at nxt
     refine Ae (fun h1=>Ae (fun h2=> ?_) (fun h2=>Aa dm nxt)) (fun h1=>Aa dm nxt)
     have w1:=VS (lb x) (by omega)
     have w2:=VS (lb y) (by omega)
     rw[Bv]at w1 w2
     have b1:x<18446744073709551616:=Bb.1 (show (lb x).length≤2 by omega)
     have b2:y<18446744073709551616:=Bb.1 (show (lb y).length≤2 by omega)
     exact Aa w1 (Aa w2 (Aa (Ah7 x y b1 b2) (Ac rfl)))
   · have:y=0:=ly0.1 (by omega)
     subst this
     have nm:=H0 (lb x) (by omega)
     rw[Bv]at nm
     rw[Nat.gcd_zero_right]
     exact Aa nm (Ac rfl)
 have la:(lb (nv a)).length≤a.length:=Bb.2 (Cd a)
 have lb_:(lb (nv b)).length≤b.length:=Bb.2 (Cd b)
 refine Af (nv b+1) (Aht _ _ _) (Aa (F3 a (by omega)) (Aa (F3 b (by omega)) ?_))
 exact key (nv b+1) (nv b+1) (nv a) (nv b) (by omega) (by omega) (by omega)
theorem Hf(n:Num):Sp 255 [dN n] [dW ⟨false,n.bot⟩]:=Af 0 (AjM _ _) (Ac rfl)
theorem AcG{w:Wh}(h:nv w.mag≠0):decide (zv w<0)=w.neg:=by
 rw[show w.neg=decide (w.neg=true) by simp,decide_eq_decide];exact Uz h
theorem Zr(p q:Wh)(hp:p.mag.length≤1000)(hq:q.mag.length≤1000):Sp 305 [dW p,dW q] (Du (C_ (zv p) (zv q))):=by
 refine Af 0 (Aj9 _ _ _) (Aa (H0 p.mag (by omega)) (Aa (H0 q.mag (by omega)) ?_))
 have lp:(lb (nv p.mag)).length≤p.mag.length:=Bb.2 (Cd _)
 have lq:(lb (nv q.mag)).length≤q.mag.length:=Bb.2 (Cd _)
 have ap:=L7 p
 have aq:=L7 q
 have sgn : ∀ t:Nat,(0<(lb t).length→nv p.mag≠0)→nv q.mag≠0→(decide (0<(lb t).length)&& !(decide (zv p<0)==decide (zv q<0)))=if 0<(lb t).length then !(p.neg == q.neg) else false:=by
   intro t h1 h2
   split
   · rename_i h3
     rw[decide_eq_true h3,Bool.true_and,AcG (h1 h3),AcG h2]
   · rename_i h3
     rw[decide_eq_false h3,Bool.false_and]
 simp only[Ah,Fx,Fl,B3,Apd,Ba,Cn]
 have ly0:=Hb (n:=nv q.mag)
 refine Ae (fun h=>Ac ?_) (fun h=> ?_)
 · have:zv q=0:=U0.2 (ly0.1 (by omega))
   unfold C_;rw[if_pos this];rfl
 have hq0:nv q.mag≠0:=fun hh=>h (by rw[hh,C9];rfl)
 have hqz:zv q≠0:=fun hh=>hq0 (U0.1 hh)
 have fin : ∀ g:Nat,g=Nat.gcd (nv p.mag) (nv q.mag)→∀ (t b:Nat),t=nv p.mag / g→b=nv q.mag / g→Tw (.br (decide (32<((lb t).length:Int))) (.ret [D.agg [D.bool false,D.sl [],D.sl []],D.int 7]) (.br (decide (32<((lb b).length:Int))) (.ret [D.agg [D.bool false,D.sl [],D.sl []],D.int 7]) (.br (decide (0<((lb t).length:Int))) (.ret [D.agg [D.bool (!(p.neg == q.neg)),dL (lb t),dL (lb b)],D.int 0]) (.ret [D.agg [D.bool false,dL (lb t),dL (lb b)],D.int 0])))) (Du (C_ (zv p) (zv q))):=by
   intro g hg t b ht hb
   have sg:=sgn t (fun h3 hh=>by rw[ht,hh,Nat.zero_div,C9]at h3;simp at h3) hq0
   unfold C_ Du
   rw[if_neg hqz,ap,aq,← hg,← ht,← hb,sg]
   refine Ae (fun h1=>Ac ?_) (fun h1=>Ae (fun h2=>Ac ?_) (fun h2=>Ae (fun h3=>Ac ?_) (fun h3=>Ac ?_)))
   · rw[if_pos (by omega)];rfl
   · rw[if_pos (by omega)];rfl
   · rw[if_neg (by omega),if_pos (by omega)];rfl
   · rw[if_neg (by omega),if_neg (by omega)];rfl
 refine Aa (Lo _) ?_
 simp only[Ah,Ba,E0]
 have one : ∀ l:List Ar,l = [1]→nv l=1:=fun l h=>by rw[h];simp[nv]
 refine Ae (fun h1=> ?_) (fun h1=> ?_)
 · have gc:=VF (lb (nv p.mag)) (lb (nv q.mag)) (by omega) (by omega)
   rw[Bv,Bv]at gc
   refine Aa gc (Aa (Lo _) ?_)
   simp only[Ah,Ba,E0]
   have hg0:Nat.gcd (nv p.mag) (nv q.mag)≠0:=fun hh=>hq0 (Nat.gcd_eq_zero_iff.1 hh).2
   have hgl:(lb (Nat.gcd (nv p.mag) (nv q.mag))).length≤q.mag.length:=Bb.2 (Nat.lt_of_le_of_lt (Nat.gcd_le_right _ (by omega)) (Cd _))
   refine Ae (fun h2=> ?_) (fun h2=> ?_)
   · have d1:=Yc (lb (nv p.mag)) (lb (Nat.gcd (nv p.mag) (nv q.mag))) (by omega) (by omega) (Xr _ _ (by rw[Bv];omega))
     have d2:=Yc (lb (nv q.mag)) (lb (Nat.gcd (nv p.mag) (nv q.mag))) (by omega) (by omega) (Xr _ _ (by rw[Bv];omega))
     rw[Bv,Bv]at d1 d2
     refine Aa d1 (Aa d2 ?_)
     simp only[Ah,B3,Apd]
     exact fin _ rfl _ _ rfl rfl
   · have:Nat.gcd (nv p.mag) (nv q.mag)=1:=by have:=one _ (Apm.1 h2);rwa[Bv]at this
     exact fin 1 this.symm _ _ (Nat.div_one _).symm (Nat.div_one _).symm
 · have hq1:nv q.mag=1:=by have:=one _ (Apm.1 h1);rwa[Bv]at this
   exact fin 1 (by rw[hq1,Nat.gcd_one_right]) _ _ (Nat.div_one _).symm (Nat.div_one _).symm
def Hk(n:Num):Prop:=n.top.length≤200∧n.bot.length≤200
theorem RNum.sm {n:Num} {z:Int} {d:Nat} (h:RNum n z d):Hk n:=by have:=h.len;unfold Hk;omega
section
variable {a b:Num}
theorem YI(ha:Hk a)(hb:Hk b):Sp 277 [dN a,dN b] (Du (EF a b)):=by
 obtain ⟨a1,a2⟩:=ha
 obtain ⟨b1,b2⟩:=hb
 have at_:=Mq a;have ab:=Mp a;have bt:=Mq b;have bb:=Mp b
 have m1:=Jh (Bs a) (Bq b)
 have m2:=Jh (Bs b) (Bq a)
 have m3:=Jh (Bq a) (Bq b)
 have s1:=Agt (Bs a*Bq b) (Bs b*Bq a)
 have x1:=I5 ⟨a.neg,a.top⟩ ⟨false,b.bot⟩ (by show a.top.length≤_;omega) (by show b.bot.length≤_;omega)
 have x2:=I5 ⟨b.neg,b.top⟩ ⟨false,a.bot⟩ (by show b.top.length≤_;omega) (by show a.bot.length≤_;omega)
 have x3:=I5 ⟨false,a.bot⟩ ⟨false,b.bot⟩ (by show a.bot.length≤_;omega) (by show b.bot.length≤_;omega)
 have x4:=ND (wz (Bs a*Bq b)) (wz (Bs b*Bq a)) (by rw[F6];omega) (by rw[F6];omega)
 have x5:=Zr (wz (Bs a*Bq b+Bs b*Bq a)) (wz (Bq a*Bq b)) (by rw[F6];omega) (by rw[F6];omega)
 rw[K3,L8]at x1 x2
 rw[L8,L8]at x3
 rw[De,De]at x4 x5
 exact Af 0 (Ajz _ _ _) (Aa (F4 a) (Aa (Hf b) (Aa x1 (Aa (F4 b) (Aa (Hf a) (Aa x2 (Aa x4 (Aa (Hf a) (Aa (Hf b) (Aa x3 (Aa x5 (Ac rfl))))))))))))
theorem KK(ha:Hk a)(hb:Hk b):Sp 279 [dN a,dN b] (Du (P_ a b)):=by
 obtain ⟨a1,a2⟩:=ha
 obtain ⟨b1,b2⟩:=hb
 have at_:=Mq a;have ab:=Mp a;have bt:=Mq b;have bb:=Mp b
 have m1:=Jh (Bs a) (Bs b)
 have m3:=Jh (Bq a) (Bq b)
 have x1:=I5 ⟨a.neg,a.top⟩ ⟨b.neg,b.top⟩ (by show a.top.length≤_;omega) (by show b.top.length≤_;omega)
 have x3:=I5 ⟨false,a.bot⟩ ⟨false,b.bot⟩ (by show a.bot.length≤_;omega) (by show b.bot.length≤_;omega)
 have x5:=Zr (wz (Bs a*Bs b)) (wz (Bq a*Bq b)) (by rw[F6];omega) (by rw[F6];omega)
 rw[K3,K3]at x1
 rw[L8,L8]at x3
 rw[De,De]at x5
 exact Af 0 (AjB _ _ _) (Aa (F4 a) (Aa (F4 b) (Aa x1 (Aa (Hf a) (Aa (Hf b) (Aa x3 (Aa x5 (Ac rfl))))))))
theorem Zq(ha:Hk a)(hb:Hk b):Sp 260 [dN a,dN b] (Du (Np a b)):=by
 obtain ⟨a1,a2⟩:=ha
 obtain ⟨b1,b2⟩:=hb
 have at_:=Mq a;have ab:=Mp a;have bt:=Mq b;have bb:=Mp b
 have m1:=Jh (Bs a) (Bq b)
 have m3:=Jh (Bq a) (Bs b)
 have x1:=I5 ⟨a.neg,a.top⟩ ⟨false,b.bot⟩ (by show a.top.length≤_;omega) (by show b.bot.length≤_;omega)
 have x3:=I5 ⟨false,a.bot⟩ ⟨b.neg,b.top⟩ (by show a.bot.length≤_;omega) (by show b.top.length≤_;omega)
 have x5:=Zr (wz (Bs a*Bq b)) (wz (Bq a*Bs b)) (by rw[F6];omega) (by rw[F6];omega)
 rw[K3,L8]at x1
 rw[L8,K3]at x3
 rw[De,De]at x5
 exact Af 0 (Aj3 _ _ _) (Aa (F4 a) (Aa (Hf b) (Aa x1 (Aa (Hf a) (Aa (F4 b) (Aa x3 (Aa x5 (Ac rfl))))))))
theorem JC(h:a.bot = [1]):Bq a=1:=by unfold Bq;rw[h];simp[nv]
theorem Zp(ha:Hk a)(hb:Hk b):Sp 219 [dN a,dN b] [.int (Hn a b)]:=by
 obtain ⟨a1,a2⟩:=ha
 obtain ⟨b1,b2⟩:=hb
 have at_:=Mq a;have ab:=Mp a;have bt:=Mq b;have bb:=Mp b
 have m1:=Jh (Bs a) (Bq b)
 have m2:=Jh (Bs b) (Bq a)
 have x1:=I5 ⟨a.neg,a.top⟩ ⟨false,b.bot⟩ (by show a.top.length≤_;omega) (by show b.bot.length≤_;omega)
 have x2:=I5 ⟨b.neg,b.top⟩ ⟨false,a.bot⟩ (by show b.top.length≤_;omega) (by show a.bot.length≤_;omega)
 have x4:=Ac3 (wz (Bs a*Bq b)) (wz (Bs b*Bq a)) (by rw[F6];omega) (by rw[F6];omega)
 have x5:=Ac3 ⟨a.neg,a.top⟩ ⟨b.neg,b.top⟩ (by show a.top.length≤_;omega) (by show b.top.length≤_;omega)
 rw[K3,L8]at x1 x2
 rw[De,De]at x4
 rw[K3,K3]at x5
 refine Af 0 (Aj2 _ _ _) (Aa (Lo a.bot) ?_)
 simp only[Ah,Ba]
 refine Ae (fun h=>Aa (Lo b.bot) ?_) (fun h=>Aa (F4 a) (Aa (Hf b) (Aa x1 (Aa (F4 b) (Aa (Hf a) (Aa x2 (Aa x4 (Ac rfl))))))))
 simp only[Ah,Ba]
 refine Ae (fun h'=> ?_) (fun h'=>Aa (F4 a) (Aa (Hf b) (Aa x1 (Aa (F4 b) (Aa (Hf a) (Aa x2 (Aa x4 (Ac rfl))))))))
 refine Aa (F4 a) (Aa (F4 b) (Aa x5 (Ac ?_)))
 unfold Hn
 rw[JC h,JC h',Int.mul_one,Int.mul_one];rfl
theorem Zt(ha:Hk a):Sp 259 [dN a] [.int (E6 (Bs a))]:=by
 obtain ⟨a1,a2⟩:=ha
 exact Af 0 (AjI _ _) (Aa (F4 a) (Aa (DQ ⟨a.neg,a.top⟩ (by show a.top.length≤_;omega)) (Ac rfl)))
end
section
variable {a b:Num} {z y:Int} {d e:Nat}
def Om(neg:Bool)(n:Num):Num:=⟨neg&&decide (0<n.top.length),n.top,n.bot⟩
theorem KL(neg:Bool)(h:RNum a z d):Sp 304 [.bool neg,dN a] [dN (Om neg a)]:=by
 obtain ⟨l1,l2⟩:=h.len
 have e1:lb (nv a.top)=a.top:=by rw[h.eq];show lb (nv (lb _))=lb _;rw[Bv]
 have e2:lb (nv a.bot)=a.bot:=by rw[h.eq];show lb (nv (lb _))=lb _;rw[Bv]
 have n1:=H0 a.top (by omega)
 have n2:=H0 a.bot (by omega)
 rw[e1]at n1
 rw[e2]at n2
 refine Af 0 (AjN _ _ _) (Aa n1 (Aa n2 ?_))
 simp only[Ah,B3,Apd,Ba]
 unfold Om
 cases neg with
 | true =>
  refine Bo rfl (Ac ?_)
  rw[Bool.true_and,show decide ((0:Int)<(a.top.length:Int))=decide (0<a.top.length) by rw[decide_eq_decide];omega];rfl
 | false=>exact Ej rfl (Ac rfl)
theorem RNum.top0 (h:RNum a z d):a.top = []↔z=0:=by rw[h.eq];show lb z.natAbs = []↔_;rw[IK];omega
theorem RNum.sgn (h:RNum a z d):a.neg=decide (z<0):=by rw[h.eq];rfl
theorem Amt(h:RNum a z d):Om (!a.neg) a=Jk a:=by
 unfold Om Jk
 split
 · rename_i h0
   rw[h0]
   have hz:=h.top0.1 h0
   have hd:d=1:=by
    have:=h.cop
    rw[hz,Int.natAbs_zero,Nat.coprime_zero_left]at this
    exact this
   have hb:a.bot = [1]:=by rw[h.eq,hd];exact N2
   rw[hb];simp[Cy,C9]
 · rename_i h0
   rw[decide_eq_true (List.length_pos_iff.2 h0),Bool.and_true]
theorem Amu(h:RNum a z d):Om a.neg a=a:=by
 unfold Om
 have:(a.neg&&decide (0<a.top.length))=a.neg:=by
  by_cases h0:a.top = []
  · have:=h.top0.1 h0
    rw[h.sgn,this];simp
  · rw[decide_eq_true (List.length_pos_iff.2 h0),Bool.and_true]
 rw[this]
theorem Zs(h:RNum a z d):Sp 258 [dN a] [dN (Jk a)]:=by
 refine Af 0 (AjC _ _) ?_
 simp only[Nm,Ba]
 refine Aa (KL _ h) (Ac ?_)
 rw[Amt h];rfl
theorem Ajx(h:RNum a z d):Sp 263 [dN a] [dN ⟨false,a.top,a.bot⟩]:=by
 refine Af 0 (Ajy _ _) (Aa (KL _ h) (Ac ?_))
 simp[Om]
theorem YM(ha:Hk a)(h:RNum b z d):Sp 278 [dN a,dN b] (Du (MH a b)) :=
 Af 0 (AjK _ _ _) (Aa (Zs h) (Aa (YI ha (Qc h).sm) (Ac rfl)))
theorem GX(h:RNum a z d):Bu (El z (d:Int)).1≤32:=by
 have hd0:=h.d0
 obtain ⟨e1,_,e3,e4,_⟩:=Ae3 z (d:Int) (by omega)
 have hl:=h.lz
 have hz:=IN z
 have hz2:z.natAbs<B ^ 32:=Aqb hz (Nat.pow_le_pow_right B0 hl)
 have e5:=e4 (by omega)
 refine Ss ?_
 generalize (El z (d:Int)).1=q at *
 generalize (El z (d:Int)).2=r at *
 have hB2:4≤B ^ 32:=by decide
 generalize B ^ 32=P at *
 have hr:r<(d:Int):=by omega
 rcases Aqn 1 d with h1 | h1
 ·
   rcases Aqn q.natAbs P with h2 | h2
   · exact h2
   · exfalso
     rcases Int.le_total 0 q with h3 | h3
     · have:q*2≤q*(d:Int):=Int.mul_le_mul_of_nonneg_left (by omega) h3
       omega
     · have:(-q)*2≤(-q)*(d:Int):=Int.mul_le_mul_of_nonneg_left (by omega) (by omega)
       have h4:(-q)*(d:Int) = -(q*(d:Int)):=Int.neg_mul _ _
       have h5:(-q-1)*2≤(-q-1)*(d:Int):=Int.mul_le_mul_of_nonneg_left (by omega) (by omega)
       have h6:(-q-1)*(d:Int) = -(q*(d:Int))-(d:Int):=by rw[Int.sub_mul,Int.neg_mul,Int.one_mul]
       omega
 · obtain rfl:d=1:=by omega
   have:q*((1:Nat):Int)=q:=by simp
   omega
theorem R9(h:RNum a z d):RNum (J9 a) (El z (d:Int)).1 1:=by
 have hf:J9 a=Cy (El z (d:Int)).1:=by unfold J9;rw[h.top,h.bot]
 exact ⟨by rw[hf,Pp],by decide,Nat.coprime_one_right _,GX h,by rw[N2];decide⟩
theorem Afv(h:RNum a z d):Nc (El (Bs a) (Bq a)).1=J9 a:=by
 unfold Nc J9
 have:=GX h
 rw[h.top,h.bot,if_neg (by unfold Bu at this;omega)]
theorem Ae1(h:RNum a z d):Bu (El (Bs a) (Bq a)).1≤32:=by rw[h.top,h.bot];exact GX h
theorem RNum.botnz (h:RNum a z d):Bq a≠0:=by rw[h.bot];have:=h.d0;omega
theorem KJ(h:RNum a z d):Sp 262 [dN a] [dN (J9 a)]:=by
 obtain ⟨l1,l2⟩:=h.len
 have dm:=Aos ⟨a.neg,a.top⟩ ⟨false,a.bot⟩ (by show a.top.length≤_;omega) (by show a.bot.length≤_;omega) (Xr _ _ (by have:(lb (nv a.top)).length≤a.top.length:=Bb.2 (Cd _);show (lb (nv a.top)).length≤_;omega))
 rw[K3,L8]at dm
 unfold GG at dm
 rw[if_neg h.botnz]at dm
 have dl:=Ae1 h
 have wh:=Zv (wz (El (Bs a) (Bq a)).1) (by rw[F6];omega)
 rw[De,Afv h]at wh
 exact Af 0 (Aj4 _ _) (Aa (F4 a) (Aa (Hf a) (Aa dm (Aa wh (Ac rfl)))))
theorem Aj0(h:RNum a z d):Sp 261 [dN a] [dN (Jk (J9 (Jk a)))] :=
 Af 0 (Aj1 _ _) (Aa (Zs h) (Aa (KJ (Qc h)) (Aa (Zs (R9 (Qc h))) (Ac rfl))))
theorem QI(ha:RNum a z d)(hb:RNum b y e)(hy:y≠0)(h:(Np a b).2=0) : ∃ x c,RNum (Np a b).1 x c:=by
 have hq:Bq a*Bs b≠0:=Int.mul_ne_zero ha.botnz (by rw[hb.top];exact hy)
 obtain ⟨x,c,h1,_⟩:=(IW hq).1 h
 exact ⟨x,c,h1⟩
theorem Ahl(ha:RNum a z d)(hb:RNum b y e)(h:(P_ a b).2=0) : ∃ x c,RNum (P_ a b).1 x c:=by
 have hq:Bq a*Bq b≠0:=Int.mul_ne_zero ha.botnz hb.botnz
 obtain ⟨x,c,h1,_⟩:=(IW hq).1 h
 exact ⟨x,c,h1⟩
theorem LV{x:Int} : E6 x=0↔x=0:=by unfold E6;by_cases h1:x<0 <;> by_cases h2:x=0 <;> simp[h1,h2]
theorem Aj_(ha:RNum a z d)(hb:RNum b y e):Sp 280 [dN a,dN b] (Du (P8 a b)):=by
 refine Af 0 (AjA _ _ _) (Aa (Zt ha.sm) ?_)
 simp only[Ah,Ao,Cn,Nm,Ba]
 unfold P8
 refine Ae (fun h=>Aa (KL _ hb) (Ac ?_)) (fun h=>Aa (Zq hb.sm ha.sm) ?_)
 · rw[if_pos (ha.top0.2 (by rw[← ha.top];exact LV.1 h)),Amu hb];rfl
 have hz:z≠0:=fun hh=>h (by rw[ha.top,hh];rfl)
 rw[if_neg (fun hh=>hz (ha.top0.1 hh))]
 simp only[Du,Ah,C1,Ao,Dg,Jb]
 unfold La
 refine Ae (fun h1=>Ac ?_) (fun h1=> ?_)
 · rw[if_neg h1]
 have h1':=Apm.1 h1
 rw[if_pos h1']
 obtain ⟨x,c,hr⟩:=QI hb ha hz h1'
 refine Aa (KJ hr) (Aa (KK ha.sm (R9 hr).sm) ?_)
 simp only[Du,Ah,C1,Ao,Dg]
 refine Ae (fun h2=>Ac ?_) (fun h2=> ?_)
 · rw[if_neg h2]
 have h2':=Apm.1 h2
 rw[if_pos h2']
 obtain ⟨x2,c2,hr2⟩:=Ahl ha (R9 hr) h2'
 exact Aa (YM hb.sm hr2) (Ac rfl)
end
def Nx:List (Nat×Orc):=[(6,⟨[(2,none),(3,none),(4,none),(5,none),(6,none),(22,none),(23,none)],[(2,true),(3,false),(4,false),(5,false)],[(.slot 6,1060,3)]⟩),(13,⟨[(2,none),(4,none),(5,none),(8,none),(37,none),(38,none),(39,none)],[(2,true),(4,false),(5,false)],[(.slot 8,1130,67),(.slot 37,1131,3)]⟩)]
def SB:List ResultVar:=[.cell 4 26,.cell 5 29]
noncomputable def W5(n m13:Nat)(told8 t37:List D)(t38 t39:Int)(a2:D)(r4_0 e5:Int):Tree :=
 lA (eA Nx n 69 [1,1,1,1,1,1,1,0,1,0,0]) (An Nx 13) m13 ⟨(.undef:: .undef:: .ptr 2 []:: .undef:: .ptr 4 []:: .ptr 5 []:: .undef:: .undef:: .row 1130::uA 28++(.row 1131:: .i .i64 t38:: .i .i64 t39::uA 16)),[(2,.var 26 (.d 26 a2) false),(4,.var 26 (.agg 26 [.i .u64 r4_0,.mt,.mt]) true),(5,.var 29 (.i .i64 e5) true),(1130,.row 67 told8 true),(1131,.row 3 t37 true)],[2,4,5,1130,1131],[(154,[.ptr 4 [],.ptr 5 []])],[]⟩
  (Ak 2 (Aq (jA Nx n 69 [1,1,1,1,1,1,1,1]) (rA 69 [26,4] SB [26,29])))
noncomputable def W6(n m6:Nat)(places6:List D)(t22 t23:Int)(a2:D)(down3:Bool)(r4_0 e5:Int):Tree :=
 lA (eA Nx n 69 [1,1,1,1,0,1,0,0]) (An Nx 6) m6 ⟨(.undef:: .undef:: .ptr 2 []:: .ptr 3 []:: .ptr 4 []:: .ptr 5 []:: .row 1060::uA 15++(.i .i64 t22:: .i .i64 t23::uA 32)),[(2,.var 26 (.d 26 a2) true),(3,.var 4 (.b down3) true),(4,.var 26 (.agg 26 [.i .u64 r4_0,.mt,.mt]) true),(5,.var 29 (.i .i64 e5) true),(1060,.row 3 places6 true)],[2,3,4,5,1060],[(154,[.ptr 4 [],.ptr 5 []])],[]⟩
  (Ak 0 (Aq (jA Nx n 69 [1,1,1,1,1]) (rA 69 [26,4] SB [26,29])))
theorem RZ(n m13:Nat)(told8 t37:List D)(t38 t39:Int)(a2:D)(r4_0 e5:Int):W5 n (m13+1) told8 t37 t38 t39 a2 r4_0 e5 =
 bK (t39<t38) (kK (0≤t39) (kK (t39<(t37.length:Int)) (cK 138 [D.int (Aom .i64 (((t37.getD (Apa t39) D.nil).toInt)+1))] fun Y2 =>
 kK (0≤t39) (kK (t39<(told8.length:Int)) (W5 n m13 (told8.set (Apa t39) (qA Y2)) t37 t38 (Aom .i64 (t39+1)) a2 r4_0 e5)))))
 (cK 149 [D.sl told8] fun Y3 =>
 cK 84 [a2] fun Y4 =>
 cK 90 [qA Y3,D.int ((qA Y4).toInt)] fun Y5 =>
 .ret [qA Y5,D.int 0]):=by kernel_rfl
theorem SA(n m6:Nat)(places6:List D)(t22 t23:Int)(a2:D)(down3:Bool)(r4_0 e5:Int):W6 n (m6+1) places6 t22 t23 a2 down3 r4_0 e5 =
 bK (t23<t22) (kK (0≤t23) (kK (t23<(places6.length:Int)) (W6 n m6 (places6.set (Apa t23) (D.int t23)) t22 (Aom .i64 (t23+1)) a2 down3 r4_0 e5)))
 (cK 155 [D.sl places6,D.fn 156 [.ref 4,.ref 26] [D.ref (D.bool down3),D.ref a2]] fun Y1 =>
 kK (0≤(((qA Y1).els).length:Int)) (kK ((((qA Y1).els).length:Int)≤(((qA Y1).els).length:Int)) (kK ((((qA Y1).els).length:Int)≤Am) (W5 n n (Apc (Apa (((qA Y1).els).length:Int)) (D.agg [D.int 0,D.int 0,D.agg [D.bool false,D.sl [],D.sl []],D.int 0,D.sl []])) ((qA Y1).els) (((qA Y1).els).length:Int) 0 a2 r4_0 e5)))):=by kernel_rfl
theorem Af3(n:Nat)(a0 down1:D):fA Nx n 69 [] [a0,down1] =
 .br ((((a0.fld 1).els).length:Int)!=1) (.ret [D.agg [D.int 0,D.sl [],D.sl []],D.int 5])
 (kK (0≤(((a0.fld 2).els).length:Int)) (kK ((((a0.fld 2).els).length:Int)≤(((a0.fld 2).els).length:Int)) (kK ((((a0.fld 2).els).length:Int)≤Am) (W6 n n (Apc (Apa (((a0.fld 2).els).length:Int)) (D.int 0)) ((Apc (Apa (((a0.fld 2).els).length:Int)) (D.int 0)).length:Int) 0 a0 down1.toBool 0 0)))):=by kernel_rfl
theorem Af2(n:Nat)(i0 j1:D)(c2 c3:D):fA [] n 156 [.ref 4,.ref 26] [i0,j1,c2,c3] =
 .br c2.unref.toBool (kK (0≤j1.toInt) (kK (j1.toInt<(((c3.unref.fld 2).els).length:Int)) (kK (0≤i0.toInt) (kK (i0.toInt<(((c3.unref.fld 2).els).length:Int)) (cK 157 [((c3.unref.fld 2).els).getD (Apa j1.toInt) D.nil,((c3.unref.fld 2).els).getD (Apa i0.toInt) D.nil] fun Y1 =>
 .ret [D.int ((qA Y1).toInt)])))))
 (kK (0≤i0.toInt) (kK (i0.toInt<(((c3.unref.fld 2).els).length:Int)) (kK (0≤j1.toInt) (kK (j1.toInt<(((c3.unref.fld 2).els).length:Int)) (cK 157 [((c3.unref.fld 2).els).getD (Apa i0.toInt) D.nil,((c3.unref.fld 2).els).getD (Apa j1.toInt) D.nil] fun Y2 =>
 .ret [D.int ((qA Y2).toInt)]))))):=by kernel_rfl
theorem Af5(n:Nat)(x0 y1:D):fA [] n 157 [] [x0,y1] =
 .br (((x0.fld 1).toInt)!=((y1.fld 1).toInt)) (cK 218 [D.int ((x0.fld 1).toInt),D.int ((y1.fld 1).toInt)] fun Y1 =>
 .ret [D.int ((qA Y1).toInt)])
 (.br (((x0.fld 1).toInt)==0) (cK 219 [x0.fld 2,y1.fld 2] fun Y2 =>
 .ret [D.int ((qA Y2).toInt)])
 (.br (((x0.fld 1).toInt)==1) (cK 218 [D.int ((x0.fld 3).toInt),D.int ((y1.fld 3).toInt)] fun Y3 =>
 .ret [D.int ((qA Y3).toInt)])
 (kK (0≤0) (kK (0<(((x0.fld 4).els).length:Int)) (kK (0≤0) (kK (0<(((y1.fld 4).els).length:Int)) (cK 220 [((x0.fld 4).els).getD (Apa 0) D.nil,((y1.fld 4).els).getD (Apa 0) D.nil] fun Y4 =>
 .ret [D.int ((qA Y4).toInt)]))))))):=by kernel_rfl
def W8:List (Nat×Orc):=[(8,⟨[(2,none),(3,none),(29,none),(30,none)],[(2,true),(3,true)],[]⟩)]
noncomputable def W7(n m8:Nat)(t29 t30:Int)(a2 b3:D):Tree :=
 lA (eA W8 n 220 [1,1,1,0,1,0,0]) (An W8 8) m8 ⟨(.undef:: .undef:: .ptr 2 []:: .ptr 3 []::uA 25++(.i .i64 t29:: .i .i64 t30::uA 17)),[(2,.var 26 (.d 26 a2) true),(3,.var 26 (.d 26 b3) true)],[2,3],[],[]⟩
  (Ak 0 (Aq (jA W8 n 220 [1,1,1,1]) (rA 220 [26,26] [.tmp 4] [3])))
theorem SD(n m8:Nat)(t29 t30:Int)(a2 b3:D):W7 n (m8+1) t29 t30 a2 b3 =
 bK (t30<t29) (kK (0≤t30) (kK (t30<(((a2.fld 2).els).length:Int)) (kK (0≤t30) (kK (t30<(((b3.fld 2).els).length:Int)) (cK 157 [((a2.fld 2).els).getD (Apa t30) D.nil,((b3.fld 2).els).getD (Apa t30) D.nil] fun Y3 =>
 .br (((qA Y3).toInt)!=0) (.ret [D.int ((qA Y3).toInt)])
 (W7 n m8 t29 (Aom .i64 (t30+1)) a2 b3))))))
 (.ret [D.int 0]):=by kernel_rfl
theorem Af4(n:Nat)(a0 b1:D):fA W8 n 220 [] [a0,b1] =
 cK 218 [D.int (((a0.fld 1).els).length:Int),D.int (((b1.fld 1).els).length:Int)] fun Y1 =>
 .br (((qA Y1).toInt)!=0) (.ret [D.int ((qA Y1).toInt)])
 (cK 256 [a0.fld 1,b1.fld 1] fun Y2 =>
 .br (((qA Y2).toInt)!=0) (.ret [D.int ((qA Y2).toInt)])
 (W7 n n (((a0.fld 2).els).length:Int) 0 a0 b1)):=by kernel_rfl
theorem AdQ(n:Nat)(x0 y1:D):fA [] n 218 [] [x0,y1] =
 cK 252 [D.int x0.toInt] fun Y1 =>
 cK 252 [D.int y1.toInt] fun Y2 =>
 .br ((qA Y1).toBool) (.br ((qA Y2).toBool) (.ret [D.int 0])
 (.ret [D.int (-1)]))
 (.br ((qA Y2).toBool) (.ret [D.int 1])
 (bK (x0.toInt<y1.toInt) (.ret [D.int (-1)])
 (bK (y1.toInt<x0.toInt) (.ret [D.int 1])
 (.ret [D.int 0])))):=by kernel_rfl
theorem AdR(n:Nat)(x0:D):fA [] n 252 [] [x0] =
 .ret [D.bool (x0.toInt != x0.toInt)]:=by kernel_rfl
structure Row {α:Type} (S:α→Prop) (f:α→α→Int):Prop where
 val : ∀ x y,S x→S y→f x y = -1∨f x y=0∨f x y=1
 flip : ∀ x y,S x→S y→f y x = - f x y
 go : ∀ x y z,S x→S y→S z→f x y≤0→f y z≤0→f x z≤0
section
variable {α:Type} {S:α→Prop} {f g:α→α→Int}
theorem Row.self (h:Row S f) {x:α} (hx:S x):f x x=0:=by have:=h.flip x x hx hx;omega
theorem Row.two (h:Row S f) {x y z:α} (hx:S x) (hy:S y) (hz:S z) (h1:f x y≤0) (h2:f y z≤0) (h3:f x z=0):f x y=0∧f y z=0:=by
 have a1:=h.flip x z hx hz
 have a2:=h.flip x y hx hy
 have a3:=h.flip y z hy hz
 have b1:=h.go y z x hy hz hx h2 (by omega)
 have b2:=h.go z x y hz hx hy (by omega) h1
 omega
theorem Row.mono {T:α→Prop} (h:Row S f) (hs : ∀ x,T x→S x):Row T f:=⟨fun x y hx hy=>h.val x y (hs x hx) (hs y hy),fun x y hx hy=>h.flip x y (hs x hx) (hs y hy),fun x y z hx hy hz=>h.go x y z (hs x hx) (hs y hy) (hs z hz)⟩
theorem Row.congr (h:Row S f) (e : ∀ x y,S x→S y→g x y=f x y):Row S g:=⟨fun x y hx hy=>by rw[e x y hx hy];exact h.val x y hx hy,fun x y hx hy=>by rw[e x y hx hy,e y x hy hx];exact h.flip x y hx hy,fun x y z hx hy hz=>by rw[e x y hx hy,e y z hy hz,e x z hx hz];exact h.go x y z hx hy hz⟩
theorem Row.lex (hf:Row S f) (hg : ∀ x,S x→Row (fun y=>S y∧f x y=0) g):Row S (fun x y=>if f x y≠0 then f x y else g x y) where
 val x y hx hy:=by
  split
  · exact hf.val x y hx hy
  · rename_i h;exact (hg x hx).val x y ⟨hx,hf.self hx⟩ ⟨hy,Apm.1 h⟩
 flip x y hx hy:=by
  have a:=hf.flip x y hx hy
  by_cases h:f x y=0
  · rw[if_neg (by omega),if_neg (by omega)]
    exact (hg x hx).flip x y ⟨hx,hf.self hx⟩ ⟨hy,h⟩
  · rw[if_pos (by omega),if_pos (by omega)];exact a
 go x y z hx hy hz h1 h2:=by
  have p1:f x y≤0:=by
    by_cases h:f x y=0
    · omega
    · rw[if_pos h]at h1;exact h1
  have p2:f y z≤0:=by
    by_cases h:f y z=0
    · omega
    · rw[if_pos h]at h2;exact h2
  have p3:=hf.go x y z hx hy hz p1 p2
  by_cases h:f x z=0
  · obtain ⟨q1,q2⟩:=hf.two hx hy hz p1 p2 h
    rw[if_neg (by omega)]at h1 h2 ⊢
    exact (hg x hx).go x y z ⟨hx,hf.self hx⟩ ⟨hy,q1⟩ ⟨hz,h⟩ h1 h2
  · rw[if_pos h];exact p3
def D1(f:α→α→Int):List (α×α)→Int
 | []=>0
 | (x,y)::r=>if f x y≠0 then f x y else D1 f r
theorem TX(h:Row S f) : ∀ (l m:List α),(∀ x∈l,S x)→(∀ x∈m,S x)→D1 f (l.zip m) = -1∨D1 f (l.zip m)=0∨D1 f (l.zip m)=1
 | [],_,_,_=> .inr (.inl rfl)
 | _::_,[],_,_=> .inr (.inl rfl)
 | x::xs,y::ys,hl,hm=>by
  simp only[List.zip_cons_cons,D1]
  split
  · exact h.val x y (hl x (by simp)) (hm y (by simp))
  · exact TX h xs ys (fun z hz=>hl z (by simp[hz])) (fun z hz=>hm z (by simp[hz]))
theorem TV(h:Row S f) : ∀ (l m:List α),(∀ x∈l,S x)→(∀ x∈m,S x)→D1 f (m.zip l) = - D1 f (l.zip m)
 | [],[],_,_=>rfl
 | [],_::_,_,_=>rfl
 | _::_,[],_,_=>rfl
 | x::xs,y::ys,hl,hm=>by
  have a:=h.flip x y (hl x (by simp)) (hm y (by simp))
  have b:=TV h xs ys (fun z hz=>hl z (by simp[hz])) (fun z hz=>hm z (by simp[hz]))
  simp only[List.zip_cons_cons,D1]
  by_cases hh:f x y=0
  · rw[if_neg (by omega),if_neg (by omega)];exact b
  · rw[if_pos (by omega),if_pos (by omega)];exact a
theorem TW(h:Row S f) : ∀ (l m k:List α),l.length=m.length→m.length=k.length→(∀ x∈l,S x)→(∀ x∈m,S x)→(∀ x∈k,S x)→D1 f (l.zip m)≤0→D1 f (m.zip k)≤0→D1 f (l.zip k)≤0
 | [],_,_,_,_,_,_,_,_,_=>by simp[D1]
 | x::xs,[],_,e,_,_,_,_,_,_=>by simp at e
 | x::xs,y::ys,[],_,e,_,_,_,_,_=>by simp at e
 | x::xs,y::ys,z::zs,e1,e2,hl,hm,hk,h1,h2=>by
  simp only[List.zip_cons_cons,D1]at h1 h2 ⊢
  have hx:=hl x (by simp)
  have hy:=hm y (by simp)
  have hz:=hk z (by simp)
  have p1:f x y≤0:=by
    by_cases h:f x y=0
    · omega
    · rw[if_pos h]at h1;exact h1
  have p2:f y z≤0:=by
    by_cases h:f y z=0
    · omega
    · rw[if_pos h]at h2;exact h2
  have p3:=h.go x y z hx hy hz p1 p2
  by_cases hh:f x z=0
  · obtain ⟨q1,q2⟩:=h.two hx hy hz p1 p2 hh
    rw[if_neg (by omega)]at h1 h2 ⊢
    exact TW h xs ys zs (by simpa using e1) (by simpa using e2) (fun z hz=>hl z (by simp[hz])) (fun z hz=>hm z (by simp[hz])) (fun z hz=>hk z (by simp[hz])) h1 h2
  · rw[if_pos hh];exact p3
theorem Row.list (h:Row S f) (n:Nat):Row (fun l:List α=>l.length=n∧∀ x∈l,S x) (fun l m=>D1 f (l.zip m)) :=
 ⟨fun l m hl hm=>TX h l m hl.2 hm.2,fun l m hl hm=>TV h l m hl.2 hm.2,fun l m k hl hm hk=>TW h l m k (hl.1.trans hm.1.symm) (hm.1.trans hk.1.symm) hl.2 hm.2 hk.2⟩
theorem TY{β:Type}{r:α→β}(h0 : ∀ x y,S x→S y→(f x y=0↔r x=r y)) : ∀ (l m:List α),l.length=m.length→(∀ x∈l,S x)→(∀ x∈m,S x)→(D1 f (l.zip m)=0↔l.map r=m.map r)
 | [],[],_,_,_=>by simp[D1]
 | [],_::_,e,_,_=>by simp at e
 | _::_,[],e,_,_=>by simp at e
 | x::xs,y::ys,e,hl,hm=>by
  have a:=h0 x y (hl x (by simp)) (hm y (by simp))
  have b:=TY h0 xs ys (by simpa using e) (fun z hz=>hl z (by simp[hz])) (fun z hz=>hm z (by simp[hz]))
  simp only[List.zip_cons_cons,D1,Ap7,List.cons.injEq]
  by_cases hh:f x y=0
  · rw[if_neg (by omega),b]
    exact ⟨fun h=>⟨a.1 hh,h⟩,fun h=>h.2⟩
  · rw[if_pos hh]
    exact ⟨fun h=>absurd h hh,fun h=>absurd (a.2 h.1) hh⟩
end
theorem Ho(x y:Int):(Cv x y = -1∧x<y)∨(Cv x y=0∧x=y)∨(Cv x y=1∧y<x):=by
 unfold Cv
 split
 · exact .inl ⟨rfl,by assumption⟩
 · split
   · exact .inr (.inl ⟨rfl,by assumption⟩)
   · exact .inr (.inr ⟨rfl,by omega⟩)
theorem Fv{x y:Int} : Cv x y=0↔x=y:=by rcases Ho x y with ⟨h,h'⟩ | ⟨h,h'⟩ | ⟨h,h'⟩ <;> omega
theorem BE{α:Type}{S:α→Prop}(k:α→Int):Row S (fun x y=>Cv (k x) (k y)) :=
 ⟨fun x y _ _=>by rcases Ho (k x) (k y) with h | h | h <;> simp[h.1],
  fun x y _ _=>by rcases Ho (k x) (k y) with h | h | h <;> rcases Ho (k y) (k x) with h' | h' | h' <;> omega,
  fun x y z _ _ _ h1 h2=>by rcases Ho (k x) (k y) with h | h | h <;> rcases Ho (k y) (k z) with h' | h' | h' <;> rcases Ho (k x) (k z) with h'' | h'' | h'' <;> omega⟩
def FM(r:Arr→Arr→Int)(x y:Cell):Int:=if Cv x.kind y.kind≠0 then Cv x.kind y.kind else if x.kind=0 then Hn x.n y.n else if x.kind=1 then Cv x.c y.c else r (x.inn.headD .none) (y.inn.headD .none)
def Kr(a b:Arr):Int:=if Cv a.shape.length b.shape.length≠0 then Cv a.shape.length b.shape.length else D1 Cv (a.shape.zip b.shape)
def J4:Nat→Arr→Arr→Int
 | 0,_,_=>0
 | d+1,a,b=>if Kr a b≠0 then Kr a b else D1 (FM (J4 d)) (a.cells.zip b.cells)
def Ja(d:Nat):Cell→Cell→Int:=FM (J4 d)
theorem AdO(d:Nat)(a b:Arr):J4 (d+1) a b=if Kr a b≠0 then Kr a b else D1 (Ja d) (a.cells.zip b.cells):=rfl
theorem Tq{d:Nat}{c:Cell}(h:Bi d c=true):(c.kind=0∧c.c=0∧c.inn = []∧Et c.n=true)∨(c.kind=1∧c.n = .zero∧c.inn = [])∨(c.kind=2∧c.n = .zero∧c.c=0∧∃ e x,d=e+1∧c.inn = [x]∧Aj e x=true):=by
 have hinn:=Tt h
 have key : ∀ k r,C7 k r c=true→(c.kind=0∧c.c=0∧c.inn = []∧Et c.n=true)∨(c.kind=1∧c.n = .zero∧c.inn = [])∨(c.kind=2∧c.n = .zero∧c.c=0∧∃ x,c.inn = [x]):=by
   intro k r h
   unfold C7 at h
   split at h
   · simp only[Api,decide_eq_true_eq]at h
     exact .inl ⟨by assumption,h.1.1,Ap2.1 h.1.2,h.2⟩
   split at h
   · simp only[Api,decide_eq_true_eq]at h
     exact .inr (.inl ⟨by assumption,h.1.1,Ap2.1 h.1.2⟩)
   · simp only[Api,decide_eq_true_eq]at h
     have hb:=h.2.2
     unfold I_ at hb
     split at hb
     · rename_i hi;exact .inr (.inr ⟨h.1.1,h.1.2.1,h.1.2.2,_,hi⟩)
     · cases hb
 have h2:(c.kind=0∧c.c=0∧c.inn = []∧Et c.n=true)∨(c.kind=1∧c.n = .zero∧c.inn = [])∨(c.kind=2∧c.n = .zero∧c.c=0∧∃ x,c.inn = [x]):=by
   cases d with
   | zero=>exact key _ _ h
   | succ d=>exact key _ _ h
 rcases h2 with h2 | h2 | ⟨h1,h2,h3,x,h4⟩
 · exact .inl h2
 · exact .inr (.inl h2)
 · obtain ⟨e,he,_,hr,_⟩:=hinn x (by rw[h4];simp)
   exact .inr (.inr ⟨h1,h2,h3,e,x,he,h4,hr⟩)
theorem Al6:Row (fun x:Cell=>Et x.n=true) (fun x y=>Hn x.n y.n):=by
 refine ⟨fun x y _ _=> ?_,fun x y _ _=> ?_,fun x y z hx hy hz=> ?_⟩
 · have:=Ho (Bs x.n*Bq y.n) (Bs y.n*Bq x.n);unfold Hn;omega
 · have:=Ho (Bs x.n*Bq y.n) (Bs y.n*Bq x.n)
   have:=Ho (Bs y.n*Bq x.n) (Bs x.n*Bq y.n);unfold Hn;omega
 · obtain ⟨a,p,ra⟩:=Lr hx
   obtain ⟨b,q,rb⟩:=Lr hy
   obtain ⟨c,r,rc⟩:=Lr hz
   unfold Hn
   rw[ra.top,ra.bot,rb.top,rb.bot,rc.top,rc.bot]
   have p0:(0:Int)<p:=by have:=ra.d0;omega
   have q0:(0:Int)<q:=by have:=rb.d0;omega
   have r0:(0:Int)<r:=by have:=rc.d0;omega
   intro h1 h2
   have g1:a*q≤b*p:=by rcases Ho (a*q) (b*p) with h | h | h <;> omega
   have g2:b*r≤c*q:=by rcases Ho (b*r) (c*q) with h | h | h <;> omega
   have g3:a*r≤c*p:=by
    have e1:a*q*r≤b*p*r:=Int.mul_le_mul_of_nonneg_right g1 (by omega)
    have e2:b*r*p≤c*q*p:=Int.mul_le_mul_of_nonneg_right g2 (by omega)
    have e3:(a*r)*q≤(c*p)*q:=by
     have i1:a*q*r=a*r*q:=by rw[Int.mul_assoc,Int.mul_comm (q:Int) r,← Int.mul_assoc]
     have i2:b*p*r=b*r*p:=by rw[Int.mul_assoc,Int.mul_comm (p:Int) r,← Int.mul_assoc]
     have i3:c*q*p=c*p*q:=by rw[Int.mul_assoc,Int.mul_comm (q:Int) p,← Int.mul_assoc]
     omega
    exact Int.le_of_mul_le_mul_right e3 q0
   rcases Ho (a*r) (c*p) with h | h | h <;> omega
theorem Al8:Row (fun _:Arr=>True) Kr:=by
 refine Row.lex (f:=fun a b:Arr=>Cv a.shape.length b.shape.length) (BE fun a:Arr=>(a.shape.length:Int)) (fun a _=> ?_)
 have h:Row (fun _:Int=>True) Cv:=BE (fun x:Int=>x)
 have:=h.list a.shape.length
 exact ⟨fun x y hx hy=>this.val x.shape y.shape ⟨by have:=Fv.1 hx.2;omega,fun _ _=>trivial⟩ ⟨by have:=Fv.1 hy.2;omega,fun _ _=>trivial⟩,
  fun x y hx hy=>this.flip x.shape y.shape ⟨by have:=Fv.1 hx.2;omega,fun _ _=>trivial⟩ ⟨by have:=Fv.1 hy.2;omega,fun _ _=>trivial⟩,
  fun x y z hx hy hz=>this.go x.shape y.shape z.shape ⟨by have:=Fv.1 hx.2;omega,fun _ _=>trivial⟩ ⟨by have:=Fv.1 hy.2;omega,fun _ _=>trivial⟩ ⟨by have:=Fv.1 hz.2;omega,fun _ _=>trivial⟩⟩
theorem Abo{a b:Arr} : Kr a b=0↔a.shape=b.shape:=by
 unfold Kr
 by_cases h:a.shape.length=b.shape.length
 · rw[if_neg (by rw[Ne,Fv];omega)]
   have:=TY (S:=fun _:Int=>True) (f:=Cv) (r:=fun x=>x) (fun x y _ _=>Fv) a.shape b.shape h (fun _ _=>trivial) (fun _ _=>trivial)
   rw[this];simp
 · rw[if_pos (by rw[Ne,Fv];omega)]
   constructor
   · intro h';have:=Fv.1 h';omega
   · intro h';rw[h']at h;exact absurd rfl h
theorem AaA{d:Nat}{a b:Arr}(ha:Aj d a=true)(hb:Aj d b=true)(h:a.shape=b.shape):a.cells.length=b.cells.length:=by
 have h1:=(Ce ha).1
 have h2:=(Ce hb).1
 rw[h,h2]at h1
 have:=(Prod.mk.inj h1).1
 omega
theorem AaK{d:Nat}(h:Row (fun x=>Bi d x=true) (Ja d)):Row (fun a=>Aj d a=true) (J4 (d+1)):=by
 refine Row.lex (Al8.mono fun _ _=>trivial) (fun a ha=> ?_)
 have:=h.list a.cells.length
 have ok : ∀ x,Aj d x=true∧Kr a x=0→x.cells.length=a.cells.length∧∀ c∈x.cells,Bi d c=true:=fun x hx=>⟨(AaA ha hx.1 (Abo.1 hx.2)).symm,(Ce hx.1).2⟩
 exact ⟨fun x y hx hy=>this.val _ _ (ok x hx) (ok y hy),fun x y hx hy=>this.flip _ _ (ok x hx) (ok y hy),fun x y z hx hy hz=>this.go _ _ _ (ok x hx) (ok y hy) (ok z hz)⟩
theorem AaI{d:Nat}(h : ∀ e,d=e+1→Row (fun a=>Aj e a=true) (J4 d)):Row (fun x=>Bi d x=true) (Ja d):=by
 refine Row.lex (f:=fun x y:Cell=>Cv x.kind y.kind) (BE fun x:Cell=>x.kind) (fun x hx=> ?_)
 rcases Tq hx with h0 | h0 | ⟨h0,h1,h2,e,x',he,h3,h4⟩
 · have ok : ∀ y:Cell,Bi d y=true∧Cv x.kind y.kind=0→Et y.n=true∧y.kind=0:=fun y hy=>by
    have:=Fv.1 hy.2
    rcases Tq hy.1 with g | g | g
    · exact ⟨g.2.2.2,g.1⟩
    · omega
    · omega
   exact (Al6.mono (fun y hy=>(ok y hy).1)).congr (fun y z hy hz=>by rw[if_pos (ok y hy).2])
 · have ok : ∀ y:Cell,Bi d y=true∧Cv x.kind y.kind=0→y.kind=1:=fun y hy=>by have:=Fv.1 hy.2;omega
   exact (BE (fun y:Cell=>y.c)).congr (fun y z hy hz=>by rw[if_neg (by have:=ok y hy;omega),if_pos (ok y hy)])
 · subst he
   have ok : ∀ y:Cell,Bi (e+1) y=true∧Cv x.kind y.kind=0→y.kind=2∧Aj e (y.inn.headD .none)=true:=fun y hy=>by
    have:=Fv.1 hy.2
    rcases Tq hy.1 with g | g | ⟨g0,_,_,e',y',he',h5,h6⟩
    · omega
    · omega
    · have:e'=e:=by omega
      subst this
      exact ⟨g0,by rw[h5];exact h6⟩
   have hr:=h e rfl
   have:Row (fun y:Cell=>Bi (e+1) y=true∧Cv x.kind y.kind=0) (fun y z=>J4 (e+1) (y.inn.headD .none) (z.inn.headD .none)):=⟨fun y z hy hz=>hr.val _ _ (ok y hy).2 (ok z hz).2,fun y z hy hz=>hr.flip _ _ (ok y hy).2 (ok z hz).2,fun y z w hy hz hw=>hr.go _ _ _ (ok y hy).2 (ok z hz).2 (ok w hw).2⟩
   exact this.congr (fun y z hy hz=>by rw[if_neg (by have:=(ok y hy).1;omega),if_neg (by have:=(ok y hy).1;omega)])
theorem AaH : ∀ d:Nat,Row (fun x=>Bi d x=true) (Ja d)∧Row (fun a=>Aj d a=true) (J4 (d+1))
 | 0=>by
  have h:=AaI (d:=0) (fun e he=>by omega)
  exact ⟨h,AaK h⟩
 | d+1=>by
  have h:=AaI (d:=d+1) (fun e he=>by cases he;exact (AaH d).2)
  exact ⟨h,AaK h⟩
theorem TC(x:Int):Sp 252 [.int x] [.bool false]:=Af 0 (AdR _ _) (Ac (by simp))
theorem Vq(x y:Int):Sp 218 [.int x,.int y] [.int (Cv x y)]:=by
 refine Af 0 (AdQ _ _ _) (Aa (TC x) (Aa (TC y) (Ej rfl (Ej rfl ?_))))
 simp only[Ao]
 refine Ae (fun h=>Ac (by unfold Cv;rw[if_pos h])) (fun h=>Ae (fun h'=>Ac (by unfold Cv;rw[if_neg h,if_neg (by omega)])) (fun h'=>Ac (by unfold Cv;rw[if_neg h,if_pos (by omega)])))
theorem AcF{α β:Type}{l:List α}{m:List β}{k:Nat}{x:α}{y:β}(h:(l.zip m)[k]? = some (x,y)):l[k]? = some x∧m[k]? = some y:=by
 rw[List.getElem?_zip_eq_some]at h;exact h
theorem UC{α:Type}{l:List α}{k:Nat}{x:α}(h:l[k]? = some x):k<l.length:=(Apf.1 h).1
theorem Am1(l m:List Int)(hl:l.length≤1048576)(e:l.length=m.length):Sp 256 [dI l,dI m] [.int (D1 Cv (l.zip m))]:=by
 refine Af 1048577 (Am0 _ _ _) ?_
 have hz:(l.zip m).length=l.length:=by simp[List.length_zip,e]
 have key:=Ca (l.zip m) (fun q k (_:Unit)=>BY 1048577 q (dI l) (dI m) (dI l) (l.length:Int) (k:Int)) (fun rest _=>[.int (D1 Cv rest)]) (fun _ _=>True)
  (fun q k s hk _=>by
   simp only[Abz,Ch,Apd]
   exact At (At (Ac rfl)))
  (fun q k s p rest hd _ ih=>by
   obtain ⟨h1,h2,h3⟩:=B6 hd
   obtain ⟨x,y⟩:=p
   obtain ⟨g1,g2⟩:=AcF h2
   have l1:=UC g1
   simp only[Abz,Ch,Apd,Apj,Aw g1,Aw g2,Ao,Bh k]
   refine Ad (Ad (Ad (At (Ad (Ad (Aa (Vq x y) ?_))))))
   simp only[Ah,Ao,Dg,D1]
   exact Ae (fun h=>Ac (by rw[if_pos h])) (fun h=>by rw[if_neg h];exact ih () trivial))
  1048577 0 () (by omega) (by omega) trivial
 simp only[Ch,Apd]
 exact key
theorem AbE{n:Num}(h:Et n=true):Hk n:=⟨by have:=(BC h).1;omega,by have:=(BC h).2;omega⟩
theorem OM{d:Nat}(h : ∀ x y:Cell,Bi d x=true→Bi d y=true→Sp 157 [dC x,dC y] [.int (Ja d x y)])(a b:Arr)(ha:Aj d a=true)(hb:Aj d b=true):Sp 220 [dA a,dA b] [.int (J4 (d+1) a b)]:=by
 have la:=Dj ha
 have lb:=Dj hb
 refine Af 1048577 (Af4 _ _ _) ?_
 simp only[Ai]
 refine Aa (Vq _ _) ?_
 rw[AdO]
 unfold Kr
 simp only[Ah,Ao,Dg]
 refine Ae (fun h=>Ac (by simp only[if_pos h])) (fun h1=> ?_)
 simp only[if_neg h1]
 have hl:a.shape.length=b.shape.length:=by have:=Fv.1 (Apm.1 h1);omega
 refine Aa (Am1 a.shape b.shape (by omega) hl) ?_
 simp only[Ah,Ao]
 refine Ae (fun h=>Ac (by simp only[if_pos h])) (fun h2=> ?_)
 simp only[if_neg h2]
 have hs:a.shape=b.shape:=Abo.1 (by unfold Kr;rw[if_neg h1];exact Apm.1 h2)
 have hc:=AaA ha hb hs
 have hz:(a.cells.zip b.cells).length=a.cells.length:=by simp[List.length_zip,hc]
 have key:=Ca (a.cells.zip b.cells) (fun q k (_:Unit)=>W7 1048577 q (a.cells.length:Int) (k:Int) (dA a) (dA b)) (fun rest _=>[.int (D1 (Ja d) rest)]) (fun _ _=>True)
  (fun q k s hk _=>by
   simp only[SD,Ai]
   exact At (Ac rfl))
  (fun q k s p rest hd _ ih=>by
   obtain ⟨_,k2,k3⟩:=B6 hd
   obtain ⟨x,y⟩:=p
   obtain ⟨g1,g2⟩:=AcF k2
   have l1:=UC g1
   simp only[SD,Ai,Aw g1,Aw g2,Bh k]
   refine Ad (Ad (Ad (Ad (Ad (Aa (h x y ((Ce ha).2 x (Aph g1)) ((Ce hb).2 y (Aph g2))) ?_)))))
   simp only[Ah,Ao,D1]
   exact Ae (fun h=>Ac (by rw[if_pos h])) (fun h=>by rw[if_neg h];exact ih () trivial))
  1048577 0 () (by omega) (by omega) trivial
 exact key
theorem RV{d:Nat}(h : ∀ e,d=e+1→∀ a b:Arr,Aj e a=true→Aj e b=true→Sp 220 [dA a,dA b] [.int (J4 d a b)])(x y:Cell)(hx:Bi d x=true)(hy:Bi d y=true):Sp 157 [dC x,dC y] [.int (Ja d x y)]:=by
 refine Af 0 (Af5 _ _ _) ?_
 unfold Ja FM
 simp only[Ai]
 refine Ae (fun hk=>Aa (Vq _ _) (Ac (by rw[if_pos (by rw[Ne,Fv];exact hk)];rfl))) (fun hk=> ?_)
 have hk:=Apm.1 hk
 rw[if_neg (by rw[Ne,Fv];omega)]
 rcases Tq hx with h0 | h0 | ⟨h0,h1,h2,e,x',he,h3,h4⟩ <;> rcases Tq hy with g0 | g0 | ⟨g0,g1,g2,e',y',he',g3,g4⟩
 · exact A0 h0.1 (Aa (Zp (AbE h0.2.2.2) (AbE g0.2.2.2)) (Ac (by rw[if_pos h0.1];rfl)))
 · omega
 · omega
 · omega
 · exact At (A0 h0.1 (Aa (Vq _ _) (Ac (by rw[if_neg (by omega),if_pos h0.1];rfl))))
 · omega
 · omega
 · omega
 · subst he
   have:e'=e:=by omega
   subst this
   simp only[FX,h3,g3,Ed,Ap7,List.map_nil,Apg,Apv,Int.toNat_zero,Ah]
   exact At (At (Ad (Ad (Ad (Ad (Aa (h _ rfl x' y' h4 g4) (Ac (by rw[if_neg (by omega),if_neg (by omega)];rfl))))))))
theorem HK : ∀ d:Nat,(∀ x y:Cell,Bi d x=true→Bi d y=true→Sp 157 [dC x,dC y] [.int (Ja d x y)])∧∀ a b:Arr,Aj d a=true→Aj d b=true→Sp 220 [dA a,dA b] [.int (J4 (d+1) a b)]
 | 0=>by
  have h:=RV (d:=0) (fun e he=>by omega)
  exact ⟨h,OM h⟩
 | d+1=>by
  have h:=RV (d:=d+1) (fun e he=>by cases he;exact (HK d).2)
  exact ⟨h,OM h⟩
def By(k:Nat→Nat→Int)(i j:Nat):Prop:=k i j<0∨(k i j=0∧i≤j)
instance (k:Nat→Nat→Int) (i j:Nat):Decidable (By k i j):=by unfold By;infer_instance
abbrev U1(f:Nat→Nat→Int):Prop:=Row (fun _:Nat=>True) f
section
variable {k:Nat→Nat→Int} (hk:U1 k)
include hk
theorem Agq(i j:Nat):By k i j∨By k j i:=by
 have:=hk.flip i j trivial trivial
 unfold By;omega
theorem Agp{i j:Nat}(h1:By k i j)(h2:By k j i):i=j:=by
 have:=hk.flip i j trivial trivial
 unfold By at h1 h2;omega
theorem P0{i j m:Nat}(h1:By k i j)(h2:By k j m):By k i m:=by
 have g1:k i j≤0:=by unfold By at h1;omega
 have g2:k j m≤0:=by unfold By at h2;omega
 have g3:=hk.go i j m trivial trivial trivial g1 g2
 by_cases h:k i m=0
 · obtain ⟨q1,q2⟩:=hk.two (x:=i) (y:=j) (z:=m) trivial trivial trivial g1 g2 h
   unfold By at h1 h2 ⊢; omega
 · unfold By;omega
theorem Mk{i j:Nat}(h:i<j):(k j i<0)↔¬ By k i j:=by
 have:=hk.flip i j trivial trivial
 unfold By;omega
omit hk in
theorem N3(hk:U1 k){i j:Nat}(h : ¬ By k i j):By k j i:=(Agq hk i j).resolve_left h
end
def Nz(k:Nat→Nat→Int)(x:Nat):List Nat→List Nat
 | []=>[x]
 | y::ys=>if By k x y then x::y::ys else y::Nz k x ys
def Bm(k:Nat→Nat→Int):List Nat→List Nat
 | []=>[]
 | x::xs=>Nz k x (Bm k xs)
theorem IC(k:Nat→Nat→Int)(x:Nat) : ∀ l,(Nz k x l).Perm (x::l)
 | []=>List.Perm.refl _
 | y::ys=>by
  rw[Nz]
  split
  · exact List.Perm.refl _
  · exact ((IC k x ys).cons y).trans (List.Perm.swap x y ys)
theorem Kv(k:Nat→Nat→Int) : ∀ l,(Bm k l).Perm l
 | []=>List.Perm.refl _
 | x::xs=>by rw[Bm];exact (IC k x _).trans ((Kv k xs).cons x)
theorem Dx(k:Nat→Nat→Int)(l:List Nat):(Bm k l).length=l.length:=(Kv k l).length_eq
theorem H8{k:Nat→Nat→Int}{l:List Nat}{x:Nat} : x∈Bm k l↔x∈l:=(Kv k l).mem_iff
section
variable {k:Nat→Nat→Int} (hk:U1 k)
include hk
theorem SX(x:Nat) : ∀ l,l.Pairwise (By k)→(Nz k x l).Pairwise (By k)
 | [],_=>by simp[Nz]
 | y::ys,h=>by
  rw[Nz]
  rw[List.pairwise_cons]at h
  split
  · rename_i hxy
    refine List.pairwise_cons.2 ⟨fun z hz=> ?_,List.pairwise_cons.2 h⟩
    rcases Apt.1 hz with rfl | hz
    · exact hxy
    · exact P0 hk hxy (h.1 z hz)
  · rename_i hxy
    refine List.pairwise_cons.2 ⟨fun z hz=> ?_,SX x ys h.2⟩
    rcases Apt.1 ((IC k x ys).mem_iff.1 hz) with rfl | hz
    · exact N3 hk hxy
    · exact h.1 z hz
theorem Kw : ∀ l,(Bm k l).Pairwise (By k)
 | []=>List.Pairwise.nil
 | x::xs=>SX hk x _ (Kw xs)
theorem AbH : ∀ {l m:List Nat},l.Perm m→l.Pairwise (By k)→m.Pairwise (By k)→l=m
 | [],m,hp,_,_=>(List.Perm.nil_eq hp)
 | x::xs,[],hp,_,_=>by have:=hp.length_eq;simp at this
 | x::xs,y::ys,hp,h1,h2=>by
  rw[List.pairwise_cons]at h1 h2
  have hx:x∈y::ys:=hp.mem_iff.1 (by simp)
  have hy:y∈x::xs:=hp.mem_iff.2 (by simp)
  have e:x=y:=by
   rcases Apt.1 hx with e | hx
   · exact e
   · rcases Apt.1 hy with e | hy
     · exact e.symm
     · exact Agp hk (h1.1 y hy) (h2.1 x hx)
  subst e
  rw[AbH ((List.perm_cons x).1 hp) h1.2 h2.2]
theorem Lt{l z:List Nat}(hp:z.Perm l)(hs:z.Pairwise (By k)):Bm k l=z:=(AbH hk (hp.trans (Kv k l).symm) hs (Kw hk l)).symm
omit hk in
theorem Ane{l:List Nat}(h:l.length≤1):Bm k l=l:=by
 match l with
 | []=>rfl
 | [x]=>rfl
 | _::_::_=>simp at h
omit hk in
theorem CV{l m:List Nat}(h1:l.Pairwise (By k))(h2:m.Pairwise (By k))(h : ∀ x∈l,∀ y∈m,By k x y):(l++m).Pairwise (By k):=List.pairwise_append.2 ⟨h1,h2,h⟩
theorem Uo{l:List Nat}{i:Nat}{y z:Nat}(hs:l.Pairwise (By k))(hi:l[i]? = some y)(h:By k y z) : ∀ x∈l.take (i+1),By k x z:=by
 intro x hx
 obtain ⟨j,hj,rfl⟩:=List.mem_iff_getElem.1 hx
 obtain ⟨hi',rfl⟩:=Apf.1 hi
 rw[Apr]at hj
 rw[List.getElem_take]
 by_cases e:j=i
 · subst e;exact h
 · exact P0 hk (List.pairwise_iff_getElem.1 hs j i (by omega) hi' (by omega)) h
theorem W1{l:List Nat}{i:Nat}{y z:Nat}(hs:l.Pairwise (By k))(hi:l[i]? = some y)(h:By k z y) : ∀ x∈l.drop i,By k z x:=by
 intro x hx
 obtain ⟨j,hj,rfl⟩:=List.mem_iff_getElem.1 hx
 obtain ⟨hi',rfl⟩:=Apf.1 hi
 rw[App]at hj
 rw[List.getElem_drop]
 by_cases e:j=0
 · subst e;exact h
 · exact P0 hk h (List.pairwise_iff_getElem.1 hs i (i+j) hi' (by omega) (by omega))
end
def sg(k:Nat→Nat→Int)(bs:Nat):Nat→List Nat→List Nat
 | 0,l=>Bm k l
 | q+1,l=>if l.length<bs then Bm k l else Bm k (l.take bs)++sg k bs q (l.drop bs)
theorem LU{k:Nat→Nat→Int}{bs:Nat}(hb:1≤bs) : ∀ {q q':Nat} {l:List Nat},l.length≤q→l.length≤q'→sg k bs q l=sg k bs q' l
 | 0,0,l,_,_=>rfl
 | 0,q'+1,l,h,_=>by rw[sg,sg,if_pos (by omega)]
 | q+1,0,l,_,h=>by rw[sg,sg,if_pos (by omega)]
 | q+1,q'+1,l,h,h'=>by
  rw[sg,sg]
  split
  · rfl
  · rw[LU hb (q:=q) (q':=q') (by rw[App];omega) (by rw[App];omega)]
def SG(k:Nat→Nat→Int)(bs:Nat)(l:List Nat):List Nat:=sg k bs l.length l
theorem K6{k:Nat→Nat→Int}{bs:Nat}(hb:1≤bs)(l:List Nat):SG k bs l=if l.length<bs then Bm k l else Bm k (l.take bs)++SG k bs (l.drop bs):=by
 unfold SG
 rw[LU hb (q:=l.length) (q':=l.length+1) (by omega) (by omega),sg]
 split
 · rfl
 · rw[LU hb (q:=l.length) (q':=(l.drop bs).length) (by rw[App];omega) (by omega)]
theorem Oy{k:Nat→Nat→Int}{bs:Nat}(hb:1≤bs){l:List Nat}(h:l.length≤bs):SG k bs l=Bm k l:=by
 rw[K6 hb]
 split
 · rfl
 · have h1:l.take bs=l:=Ap_ h
   have h2:l.drop bs = []:=List.drop_of_length_le h
   rw[h1,h2,K6 hb,if_pos (by simp;omega)]
   simp[Bm]
theorem NL{k:Nat→Nat→Int}{bs:Nat}(hb:1≤bs) : ∀ (q:Nat) (l:List Nat),l.length≤q→(SG k bs l).length=l.length
 | 0,l,h=>by rw[K6 hb,if_pos (by omega),Dx]
 | q+1,l,h=>by
  rw[K6 hb]
  split
  · rw[Dx]
  · rw[Apn,Dx,NL hb q _ (by rw[App];omega),Apr,App];omega
def dP(i:Nat):D:= .int (i:Int)
theorem QB(i:Nat):(dP i).toInt=(i:Int):=rfl
theorem Rn{A:List Nat}{x:Nat}{B:List Nat}{i:Nat}(h:i=A.length):((A++x::B).map dP).getD i D.nil=dP x:=by
 subst h;simp[Ape]
theorem Vi{A M:List Nat}{x y:Nat}{B:List Nat}{i:Nat}(h:i=A.length+1+M.length):((A++x::(M++y::B)).map dP).getD i D.nil=dP y:=by
 rw[show A++x::(M++y::B)=(A++x::M)++y::B by simp]
 exact Rn (by simp;omega)
theorem LQ{A:List Nat}{x y:Nat}{B:List Nat}{i:Nat}(h:i=A.length):((A++x::B).map dP).set i (dP y)=(A++y::B).map dP:=by
 subst h;simp
theorem Abk{A M:List Nat}{x y z:Nat}{B:List Nat}{i:Nat}(h:i=A.length+1+M.length):((A++x::(M++y::B)).map dP).set i (dP z)=(A++x::(M++z::B)).map dP:=by
 rw[show A++x::(M++y::B)=(A++x::M)++y::B by simp,LQ (by simp;omega)]
 simp
theorem AbR{A M:List Nat}{x y:Nat}{B:List Nat}{i j:Nat}(hi:i=A.length)(hj:j=A.length+1+M.length):(((A++x::(M++y::B)).map dP).set i (dP y)).set j (dP x)=(A++y::(M++x::B)).map dP:=by
 rw[LQ hi,Abk hj]
theorem AbQ{A M:List Nat}{x y:Nat}{B:List Nat}{i j:Nat}(hi:i=A.length)(hj:j=A.length+1+M.length):(((A++x::(M++y::B)).map dP).set j (dP x)).set i (dP y)=(A++y::(M++x::B)).map dP:=by
 rw[Abk hj,LQ hi]
theorem W_{i j:Nat}(h:i+j≤1000000):Aom .i64 (Ap3 (Aom .u64 (Aom .i64 ((i:Int)+(j:Int)))) (2 ^ (min (Apa 1) (Apl .u64))))=(((i+j) / 2:Nat):Int):=by
 rw[Ax (x:=(i:Int)+(j:Int)) (by omega) (by omega),Bt (by omega) (by omega),show (2:Int) ^ (min (Apa 1) (Apl .u64))=2 by decide,Int.fdiv_eq_ediv_of_nonneg _ (by decide),Ax (by omega) (by omega)]
 omega
end Go.Proofs.YtokkbgpgaheakaaGreat
