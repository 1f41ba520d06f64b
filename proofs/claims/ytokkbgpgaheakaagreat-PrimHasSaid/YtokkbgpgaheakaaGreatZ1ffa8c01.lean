/- Proved: lemmas for the law of this folder, part 4. No condition. -/
import Derived.Test.YtokkbgpgaheakaaGreatRows
import Derived.WalkKit
import Derived.WalkSpells
import Derived.WalkLawsBesides
import Derived.Lib.Hide
import Derived.Laws.CopyOwn
import Derived.Deep.QuietTactic
import Derived.BigQuiet
import Derived.Orders
import Derived.Defers
import Derived.Recover
import Derived.Test.YtokkbgpgaheakaaGreatProg
import Derived.KernelRfl
import Derived.ProofKit
import Derived.OpenShut
import Derived.Maps.OwnRows
import Derived.Maps.Views
import Derived.Deep.RegionHeld3
import Derived.Deep.AppendLies
import Derived.Test.YtokkbgpgaheakaaGreatZa14fa06e
set_option linter.unusedSimpArgs false
set_option linter.unusedVariables false
set_option maxRecDepth 100000
namespace Go.Proofs.YtokkbgpgaheakaaGreat
def mdL:List (Nat×FMode):=[(299,{ own:=[(0,[])] }),(96,{ own:=[(0,[])] }),(139,{ own:=[(0,[])] }),(247,{ own:=[(0,[])] }),(248,{ own:=[(0,[])] }),(175,{ own:=[(0,[])] }),(331,{ arg:=some 0,back:=true }),(144,{ arg:=some 0,back:=true }),(97,{ noop:=true }),(103,{ noop:=true }),(180,{ noop:=true }),(183,{ noop:=true }),(184,{ noop:=true }),(186,{ noop:=true }),(151,{ noop:=true }),(154,{ noop:=true }),(187,{ noop:=true }),(191,{ noop:=true }),(89,{ noop:=true }),(94,{ noop:=true }),(141,{ noop:=true }),(143,{ noop:=true }),(85,{ noop:=true }),(99,{ own:=[(0,[0]),(0,[1])] }),(150,{ own:=[(0,[])],arg:=some 0 }),(250,{ arg:=some 0,back:=true }),(251,{ arg:=some 0,back:=true }),(300,{ arg:=some 0,back:=true }),(322,{ arg:=some 0,back:=true }),(217,{ arg:=some 0,back:=true }),(155,{ arg:=some 0,back:=true }),(336,{ own:=[(0,[])] }),(174,{ own:=[(0,[])],arg:=some 1 }),(93,{ arg:=some 0,back:=true }),(95,{ arg:=some 0,back:=true }),(142,{ arg:=some 0,back:=true }),(145,{ arg:=some 0,back:=true }),(1000000+94,{ arg:=some 0,back:=true })]
def md(f:Nat):FMode:=AbC mdL f
theorem ZM:WfP Tryz.prog:=Ak7 (by kernel_rfl)
theorem AkK:Tryz.prog.follows .mixedOrders=true:=by kernel_rfl
theorem AjQ:I5 Tryz.prog 97:=Gr (by kernel_rfl)
theorem AjR:I5 Tryz.prog 103:=Gr (by kernel_rfl)
theorem AjS:I5 Tryz.prog 180:=Gr (by kernel_rfl)
theorem AjT:I5 Tryz.prog 183:=Gr (by kernel_rfl)
theorem AjU:I5 Tryz.prog 184:=Gr (by kernel_rfl)
theorem AjV:I5 Tryz.prog 186:=Gr (by kernel_rfl)
theorem AjW:I5 Tryz.prog 151:=Gr (by kernel_rfl)
theorem AjX:I5 Tryz.prog 154:=Gr (by kernel_rfl)
theorem AjY:I5 Tryz.prog 187:=Gr (by kernel_rfl)
theorem AjZ:I5 Tryz.prog 191:=Gr (by kernel_rfl)
theorem Ajb:I5 Tryz.prog 89:=Gr (by kernel_rfl)
theorem Ajc:I5 Tryz.prog 94:=Gr (by kernel_rfl)
theorem Ajd:I5 Tryz.prog 141:=Gr (by kernel_rfl)
theorem Aje:I5 Tryz.prog 143:=Gr (by kernel_rfl)
theorem Ajf:I5 Tryz.prog 85:=Gr (by kernel_rfl)
theorem Ak3:Aa8 Tryz.prog md:=Ahz (by
 intro p hp hn
 simp only[mdL,List.mem_cons,List.not_mem_nil,or_false]at hp
 rcases hp with rfl | rfl | rfl | rfl | rfl | rfl | rfl | rfl | rfl | rfl | rfl | rfl | rfl | rfl | rfl | rfl | rfl | rfl | rfl | rfl | rfl | rfl | rfl | rfl | rfl | rfl | rfl | rfl | rfl | rfl | rfl | rfl | rfl | rfl | rfl | rfl | rfl | rfl
 all_goals first | exact absurd hn (by decide) | skip
 · exact AjQ
 · exact AjR
 · exact AjS
 · exact AjT
 · exact AjU
 · exact AjV
 · exact AjW
 · exact AjX
 · exact AjY
 · exact AjZ
 · exact Ajb
 · exact Ajc
 · exact Ajd
 · exact Aje
 · exact Ajf
 )
theorem Ag{f:Nat}{cts:List CT}{xs ys:List D}{orc:List (Nat×Orc)}{t:Tree}(n:Nat)(h:Ai Tryz.prog md orc n f cts xs=t)(ht:t.wp Tryz.prog md (fun zs=>zs=ys)):Ia Tryz.prog md f cts xs ys :=
 AfF ZM AkK Ak3 (orc:=orc) (n:=n) (by rw[h];exact ht)
noncomputable def eA(O:List (Nat×Orc))(n F:Nat)(p:List Nat):=ev Tryz.prog md n O (OW (AaZ Tryz.prog F) p)
noncomputable def jA(O:List (Nat×Orc))(n F:Nat)(p:List Nat):=AaE Tryz.prog md (PM O (OW (AaZ Tryz.prog F) p)) (ev Tryz.prog md n O (OW (AaZ Tryz.prog F) p))
noncomputable def rA(F:Nat)(a:List Nat)(b:List ResultVar)(c:List Nat):=AhH Tryz.prog md (md F) a b c
noncomputable def lA:=PC Tryz.prog md
def uA(n:Nat):List L:=List.replicate n .undef
def Ms:List (Nat×Orc):=[(5,⟨[(4,none),(18,some 24),(19,none),(20,none)],[],[(.slot 4,1050,3)]⟩)]
noncomputable def Oh(n m5:Nat)(out4:List D)(t18:D)(t19 t20:Int):Tree :=
 lA (eA Ms n 80 [1,1,1,0,1,0,0]) (Ao Ms 5) m5 ⟨(uA 4++(.row 1050::uA 13++(.d 24 t18:: .i .i64 t19:: .i .i64 t20::uA 22))),[(1050,.row 3 out4 true)],[1050],[],[]⟩
  (Ak 0 (Au (jA Ms n 80 [1,1,1,1]) (rA 80 [26] [.tmp 2,.tmp 3] [23,29])))
theorem Ua(n m5:Nat)(out4:List D)(t18:D)(t19 t20:Int):Oh n (m5+1) out4 t18 t19 t20 =
 .br (decide (t20<t19)) (.br (decide (0≤t20)) (.br (decide (t20<(t18.els.length:Int))) (.call 166 [] [(t18.els.getD (Int.toNat t20) D.nil).fld 2] fun yy1 =>
 .br ((((t18.els.getD (Int.toNat t20) D.nil).fld 1).toInt)!=0) (.ret [D.sl [],D.int 3])
 (.br (!((yy1.getD 1 D.nil).toBool)) (.ret [D.sl [],D.int 3])
 (.br (decide (out4.length + [D.int ((yy1.getD 0 D.nil).toInt)].length≤Ar)) (Oh n m5 (out4++[D.int ((yy1.getD 0 D.nil).toInt)]) t18 t19 (IntKind.wrap .i64 (t20+1))) .fail))) .fail) .fail)
 (.ret [D.sl out4,D.int 0]):=by kernel_rfl
theorem OQ(n:Nat)(a0:D):Ai Tryz.prog md Ms n 80 [] [a0] =
 .br (decide (1<(((a0.fld 1).els).length:Int))) (.ret [D.sl [],D.int 5])
 (.br (decide (0≤0)) (.br (decide (0≤(((a0.fld 2).els).length:Int))) (.br (decide ((((a0.fld 2).els).length:Int)≤Ar)) (Oh n n (List.replicate (Int.toNat 0) (D.int 0)) (a0.fld 2) (((a0.fld 2).els).length:Int) 0) .fail) .fail) .fail):=by kernel_rfl
theorem OP(n:Nat)(a0:D):Ai Tryz.prog md [] n 82 [] [a0] =
 .br ((((a0.fld 2).els).length:Int)==0) (.call 138 [] [D.int 0] fun yy1 =>
 .ret [yy1.getD 0 D.nil])
 (.call 138 [] [D.int 0] fun yy2 =>
 .br (decide (0≤0)) (.br (decide (0<(((a0.fld 2).els).length:Int))) (.br ((((((a0.fld 2).els).getD (Int.toNat 0) D.nil).fld 1).toInt)==1) (.call 171 [] [D.int 32] fun yy3 =>
 .br (decide (0≤0)) (.br (decide (0<(((a0.fld 2).els).length:Int))) (.ret [D.agg [D.int (((((a0.fld 2).els).getD (Int.toNat 0) D.nil).fld 0).toInt),D.int (((yy3.getD 0 D.nil).fld 1).toInt),(yy3.getD 0 D.nil).fld 2,D.int (((yy3.getD 0 D.nil).fld 3).toInt),(yy3.getD 0 D.nil).fld 4]]) .fail) .fail)
 (.br (decide (0≤0)) (.br (decide (0<(((a0.fld 2).els).length:Int))) (.ret [D.agg [D.int (((((a0.fld 2).els).getD (Int.toNat 0) D.nil).fld 0).toInt),D.int (((yy2.getD 0 D.nil).fld 1).toInt),(yy2.getD 0 D.nil).fld 2,D.int (((yy2.getD 0 D.nil).fld 3).toInt),(yy2.getD 0 D.nil).fld 4]]) .fail) .fail)) .fail) .fail):=by kernel_rfl
def Db:List (Nat×Orc):=[(3,⟨[(3,none),(11,some 24),(12,none),(13,none)],[],[]⟩),(7,⟨[(3,none),(11,some 24),(12,none),(13,none),(22,some 65),(23,none),(24,none)],[],[]⟩)]
noncomputable def Mu(n m3 m7:Nat)(out3:Int)(t11:D)(t12 t13:Int)(t22:D)(t23 t24:Int):Tree :=
 lA (eA Db n 84 [1,1,0,1,0,0,1,1,0,0,1,1,1,0,0]) (Ao Db 7) m7 ⟨(uA 3++(.i .u64 out3::uA 7++(.d 24 t11:: .i .i64 t12:: .i .i64 t13::uA 8++(.d 65 t22:: .i .i64 t23:: .i .i64 t24::uA 10)))),[],[],[],[]⟩
  (Ak 2 (Ak 1 (Au (jA Db n 84 [1,1,0,1,0,0,1,1,1]) (J0 Tryz.prog md (Ao Db 3) (fun s1=>lA (eA Db n 84 [1,1,0,1,0,0]) (Ao Db 3) m3 s1 (Ak 0 (Au (jA Db n 84 [1,1,1]) (rA 84 [26] [.tmp 2] [22])))) (Ak 0 (Au (jA Db n 84 [1,1,1]) (rA 84 [26] [.tmp 2] [22])))))))
noncomputable def Mt(n m3:Nat)(out3:Int)(t11:D)(t12 t13:Int):Tree :=
 lA (eA Db n 84 [1,1,0,1,0,0]) (Ao Db 3) m3 ⟨(uA 3++(.i .u64 out3::uA 7++(.d 24 t11:: .i .i64 t12:: .i .i64 t13::uA 21))),[],[],[],[]⟩
  (Ak 0 (Au (jA Db n 84 [1,1,1]) (rA 84 [26] [.tmp 2] [22])))
theorem Rw(n m3 m7:Nat)(out3:Int)(t11:D)(t12 t13:Int)(t22:D)(t23 t24:Int):Mu n m3 (m7+1) out3 t11 t12 t13 t22 t23 t24 =
 .br (decide (t24<t23)) (.br (decide (0≤t24)) (.br (decide (t24<(t22.els.length:Int))) (.call 84 [] [t22.els.getD (Int.toNat t24) D.nil] fun yy2 =>
 .call 83 [] [D.int out3,D.int ((yy2.getD 0 D.nil).toInt)] fun yy3 =>
 Mu n m3 m7 ((yy3.getD 0 D.nil).toInt) t11 t12 t13 t22 t23 (IntKind.wrap .i64 (t24+1))) .fail) .fail)
 (Mt n m3 out3 t11 t12 (IntKind.wrap .i64 (t13+1))):=by kernel_rfl
theorem Rv(n m3:Nat)(out3:Int)(t11:D)(t12 t13:Int):Mt n (m3+1) out3 t11 t12 t13 =
 .br (decide (t13<t12)) (.br (decide (0≤t13)) (.br (decide (t13<(t11.els.length:Int))) (.call 83 [] [D.int out3,D.int (((t11.els.getD (Int.toNat t13) D.nil).fld 0).toInt)] fun yy1 =>
 Mu n m3 n ((yy1.getD 0 D.nil).toInt) t11 t12 t13 ((t11.els.getD (Int.toNat t13) D.nil).fld 4) ((((t11.els.getD (Int.toNat t13) D.nil).fld 4).els).length:Int) 0) .fail) .fail)
 (.ret [D.int out3]):=by kernel_rfl
theorem LX(n:Nat)(a0:D):Ai Tryz.prog md Db n 84 [] [a0] =
 Mt n n ((a0.fld 0).toInt) (a0.fld 2) (((a0.fld 2).els).length:Int) 0:=by kernel_rfl
theorem LW(n:Nat)(a0 l1:D):Ai Tryz.prog md [] n 90 [] [a0,l1] =
 .call 83 [] [D.int ((a0.fld 0).toInt),D.int l1.toInt] fun yy1 =>
 .ret [D.agg [D.int ((yy1.getD 0 D.nil).toInt),a0.fld 1,a0.fld 2]]:=by kernel_rfl
theorem JQ(n:Nat)(c0:D):Ai Tryz.prog md [] n 104 [] [c0] =
 .br (((c0.fld 1).toInt)==2) (.br ((((c0.fld 4).els).length:Int)==1) (.br (decide (0≤0)) (.br (decide (0<(((c0.fld 4).els).length:Int))) (.call 90 [] [((c0.fld 4).els).getD (Int.toNat 0) D.nil,D.int ((c0.fld 0).toInt)] fun yy1 =>
 .ret [yy1.getD 0 D.nil]) .fail) .fail)
 (.call 178 [] [c0] fun yy2 =>
 .call 90 [] [yy2.getD 0 D.nil,D.int ((c0.fld 0).toInt)] fun yy3 =>
 .ret [yy3.getD 0 D.nil]))
 (.call 178 [] [c0] fun yy4 =>
 .call 90 [] [yy4.getD 0 D.nil,D.int ((c0.fld 0).toInt)] fun yy5 =>
 .ret [yy5.getD 0 D.nil]):=by kernel_rfl
theorem TO(n:Nat)(nn0:D):Ai Tryz.prog md [] n 138 [] [nn0] =
 .call 212 [] [D.int nn0.toInt] fun yy1 =>
 .ret [D.agg [D.int 0,D.int 0,yy1.getD 0 D.nil,D.int 0,D.sl []]]:=by kernel_rfl
theorem JP(n:Nat)(a0:D):Ai Tryz.prog md [] n 146 [] [a0] =
 .call 213 [] [a0] fun yy1 =>
 .br ((yy1.getD 0 D.nil).toBool) (.br (decide (0≤0)) (.br (decide (0<(((a0.fld 2).els).length:Int))) (.ret [D.bool ((((((a0.fld 2).els).getD (Int.toNat 0) D.nil).fld 1).toInt)!=2)]) .fail) .fail)
 (.ret [D.bool false]):=by kernel_rfl
def Da:List (Nat×Orc):=[(5,⟨[(3,none),(11,some 24),(12,none),(13,none)],[],[]⟩),(8,⟨[(3,none),(11,some 24),(12,none),(13,none),(18,some 65),(19,none),(20,none)],[],[]⟩)]
noncomputable def Mr(n m5 m8:Nat)(out3:Int)(t11:D)(t12 t13:Int)(t18:D)(t19 t20:Int):Tree :=
 lA (eA Da n 147 [1,1,1,0,1,0,0,1,1,0,0,1,1,0,0]) (Ao Da 8) m8 ⟨(uA 3++(.i .i64 out3::uA 7++(.d 24 t11:: .i .i64 t12:: .i .i64 t13::uA 4++(.d 65 t18:: .i .i64 t19:: .i .i64 t20::uA 11)))),[],[],[],[]⟩
  (Ak 2 (Ak 1 (Au (jA Da n 147 [1,1,1,0,1,0,0,1,1,1]) (J0 Tryz.prog md (Ao Da 5) (fun s1=>lA (eA Da n 147 [1,1,1,0,1,0,0]) (Ao Da 5) m5 s1 (Ak 0 (Au (jA Da n 147 [1,1,1,1]) (rA 147 [26] [.tmp 2] [3])))) (Ak 0 (Au (jA Da n 147 [1,1,1,1]) (rA 147 [26] [.tmp 2] [3])))))))
noncomputable def Mq(n m5:Nat)(out3:Int)(t11:D)(t12 t13:Int):Tree :=
 lA (eA Da n 147 [1,1,1,0,1,0,0]) (Ao Da 5) m5 ⟨(uA 3++(.i .i64 out3::uA 7++(.d 24 t11:: .i .i64 t12:: .i .i64 t13::uA 18))),[],[],[],[]⟩
  (Ak 0 (Au (jA Da n 147 [1,1,1,1]) (rA 147 [26] [.tmp 2] [3])))
theorem Ru(n m5 m8:Nat)(out3:Int)(t11:D)(t12 t13:Int)(t18:D)(t19 t20:Int):Mr n m5 (m8+1) out3 t11 t12 t13 t18 t19 t20 =
 .br (decide (t20<t19)) (.br (decide (0≤t20)) (.br (decide (t20<(t18.els.length:Int))) (.call 147 [] [t18.els.getD (Int.toNat t20) D.nil] fun yy2 =>
 Mr n m5 m8 (if out3<((yy2.getD 0 D.nil).toInt) then ((yy2.getD 0 D.nil).toInt) else out3) t11 t12 t13 t18 t19 (IntKind.wrap .i64 (t20+1))) .fail) .fail)
 (Mq n m5 out3 t11 t12 (IntKind.wrap .i64 (t13+1))):=by kernel_rfl
theorem Rt(n m5:Nat)(out3:Int)(t11:D)(t12 t13:Int):Mq n (m5+1) out3 t11 t12 t13 =
 .br (decide (t13<t12)) (.br (decide (0≤t13)) (.br (decide (t13<(t11.els.length:Int))) (Mr n m5 n out3 t11 t12 t13 ((t11.els.getD (Int.toNat t13) D.nil).fld 4) ((((t11.els.getD (Int.toNat t13) D.nil).fld 4).els).length:Int) 0) .fail) .fail)
 (.ret [D.int (IntKind.wrap .i64 (out3+1))]):=by kernel_rfl
theorem LU(n:Nat)(a0:D):Ai Tryz.prog md Da n 147 [] [a0] =
 .call 146 [] [a0] fun yy1 =>
 .br ((yy1.getD 0 D.nil).toBool) (.ret [D.int 0])
 (Mq n n 0 (a0.fld 2) (((a0.fld 2).els).length:Int) 0):=by kernel_rfl
def Kp:List (Nat×Orc):=[(3,⟨[(0,some 24),(2,none),(3,none),(9,some 24),(10,none),(11,none)],[(2,false)],[(.slot 3,1030,67)]⟩)]
noncomputable def Ln(n m3:Nat)(l0:D)(cells3:List D)(t9:D)(t10 t11 t2_0:Int):Tree :=
 lA (eA Kp n 149 [1,1,0,1,0,0]) (Ao Kp 3) m3 ⟨(.d 24 l0:: .undef:: .ptr 2 []:: .row 1030::uA 5++(.d 24 t9:: .i .i64 t10:: .i .i64 t11::uA 15)),[(2,.var 26 (.agg 26 [.i .u64 t2_0,.mt,.mt]) true),(1030,.row 67 cells3 true)],[2,1030],[],[]⟩
  (Ak 0 (Au (jA Kp n 149 [1,1,1]) (rA 149 [24] [.cell 2 26] [26])))
theorem P4(n m3:Nat)(l0:D)(cells3:List D)(t9:D)(t10 t11 t2_0:Int):Ln n (m3+1) l0 cells3 t9 t10 t11 t2_0 =
 .br (decide (t11<t10)) (.br (decide (0≤t11)) (.br (decide (t11<(t9.els.length:Int))) (.call 214 [] [t9.els.getD (Int.toNat t11) D.nil] fun yy1 =>
 .br (decide (0≤t11)) (.br (decide (t11<(cells3.length:Int))) (Ln n m3 l0 (cells3.set (Int.toNat t11) (yy1.getD 0 D.nil)) t9 t10 (IntKind.wrap .i64 (t11+1)) t2_0) .fail) .fail) .fail) .fail)
 (.ret [D.agg [D.int 0,D.sl [D.int (l0.els.length:Int)],D.sl cells3]]):=by kernel_rfl
theorem JR(n:Nat)(l0:D):Ai Tryz.prog md Kp n 149 [] [l0] =
 .br (decide (0≤(l0.els.length:Int))) (.br (decide ((l0.els.length:Int)≤(l0.els.length:Int))) (.br (decide ((l0.els.length:Int)≤Ar)) (Ln n n l0 (List.replicate (Int.toNat (l0.els.length:Int)) (D.agg [D.int 0,D.int 0,D.agg [D.bool false,D.sl [],D.sl []],D.int 0,D.sl []])) l0 (l0.els.length:Int) 0 0) .fail) .fail) .fail:=by kernel_rfl
theorem TN(n:Nat)(c0:D):Ai Tryz.prog md [] n 171 [] [c0] =
 .ret [D.agg [D.int 0,D.int 1,D.agg [D.bool false,D.sl [],D.sl []],D.int c0.toInt,D.sl []]]:=by kernel_rfl
theorem JO(n:Nat)(c0:D):Ai Tryz.prog md [] n 178 [] [c0] =
 .call 214 [] [c0] fun yy1 =>
 .ret [D.agg [D.int 0,D.sl [],D.sl [yy1.getD 0 D.nil]]]:=by kernel_rfl
theorem LV(n:Nat)(a0 b1:D):Ai Tryz.prog md [] n 179 [] [a0,b1] =
 .call 232 [] [a0,b1,D.bool false] fun yy1 =>
 .ret [D.bool ((yy1.getD 0 D.nil).toBool)]:=by kernel_rfl
theorem LY(n:Nat)(a0:D):Ai Tryz.prog md [] n 213 [] [a0] =
 .br ((((a0.fld 1).els).length:Int)==0) (.ret [D.bool ((((a0.fld 2).els).length:Int)==1)])
 (.ret [D.bool false]):=by kernel_rfl
theorem TS(n:Nat)(c0:D):Ai Tryz.prog md [] n 214 [] [c0] =
 .call 247 [] [(c0.fld 2).fld 1] fun yy1 =>
 .call 247 [] [(c0.fld 2).fld 2] fun yy2 =>
 .call 248 [] [c0.fld 4] fun yy3 =>
 .ret [D.agg [D.int ((c0.fld 0).toInt),D.int ((c0.fld 1).toInt),D.agg [D.bool (((c0.fld 2).fld 0).toBool),D.sl ((yy1.getD 0 D.nil).els),D.sl ((yy2.getD 0 D.nil).els)],D.int ((c0.fld 3).toInt),D.sl ((yy3.getD 0 D.nil).els)]]:=by kernel_rfl
theorem LZ(n:Nat)(a0 b1 labels2:D):Ai Tryz.prog md [] n 232 [] [a0,b1,labels2] =
 .br labels2.toBool (.br (((a0.fld 0).toInt)!=((b1.fld 0).toInt)) (.ret [D.bool false])
 (.call 234 [] [a0.fld 1,b1.fld 1] fun yy1 =>
 .br (!((yy1.getD 0 D.nil).toBool)) (.ret [D.bool false])
 (.call 272 [] [a0.fld 2,b1.fld 2,D.fn 273 [.ref 4] [D.ref (D.bool labels2.toBool)]] fun yy2 =>
 .ret [D.bool ((yy2.getD 0 D.nil).toBool)])))
 (.call 234 [] [a0.fld 1,b1.fld 1] fun yy3 =>
 .br (!((yy3.getD 0 D.nil).toBool)) (.ret [D.bool false])
 (.call 272 [] [a0.fld 2,b1.fld 2,D.fn 273 [.ref 4] [D.ref (D.bool labels2.toBool)]] fun yy4 =>
 .ret [D.bool ((yy4.getD 0 D.nil).toBool)])):=by kernel_rfl
theorem TP(n:Nat)(nn0:D):Ai Tryz.prog md [] n 257 [] [nn0] =
 .call 214 [] [D.agg [D.int 0,D.int 0,nn0,D.int 0,D.sl []]] fun yy1 =>
 .ret [yy1.getD 0 D.nil]:=by kernel_rfl
theorem DP(n:Nat)(x0 y1 c2:D):Ai Tryz.prog md [] n 273 [.ref 4] [x0,y1,c2] =
 .br c2.unref.toBool (.br (((x0.fld 0).toInt)!=((y1.fld 0).toInt)) (.ret [D.bool false])
 (.br (((x0.fld 1).toInt)!=((y1.fld 1).toInt)) (.ret [D.bool false])
 (.br (((x0.fld 3).toInt)!=((y1.fld 3).toInt)) (.ret [D.bool false])
 (.call 274 [] [x0.fld 2,y1.fld 2] fun yy1 =>
 .br (!((yy1.getD 0 D.nil).toBool)) (.ret [D.bool false])
 (.call 275 [] [x0.fld 4,y1.fld 4,D.fn 276 [.ref 4] [D.ref c2.unref]] fun yy2 =>
 .ret [D.bool ((yy2.getD 0 D.nil).toBool)])))))
 (.br (((x0.fld 1).toInt)!=((y1.fld 1).toInt)) (.ret [D.bool false])
 (.br (((x0.fld 3).toInt)!=((y1.fld 3).toInt)) (.ret [D.bool false])
 (.call 274 [] [x0.fld 2,y1.fld 2] fun yy3 =>
 .br (!((yy3.getD 0 D.nil).toBool)) (.ret [D.bool false])
 (.call 275 [] [x0.fld 4,y1.fld 4,D.fn 276 [.ref 4] [D.ref c2.unref]] fun yy4 =>
 .ret [D.bool ((yy4.getD 0 D.nil).toBool)])))):=by kernel_rfl
theorem AJ(n:Nat)(p0 q1 c2:D):Ai Tryz.prog md [] n 276 [.ref 4] [p0,q1,c2] =
 .call 232 [] [p0,q1,D.bool c2.unref.toBool] fun yy1 =>
 .ret [D.bool ((yy1.getD 0 D.nil).toBool)]:=by kernel_rfl
def Lv:List (Nat×Orc):=[(5,⟨[(1,none),(2,none),(5,none),(7,none)],[(2,true)],[]⟩)]
noncomputable def Nf(n m5:Nat)(deep1 nn5 i7:Int)(a2:D):Tree :=
 lA (eA Lv n 13 [1,1,1,0,1,0,0]) (Ao Lv 5) m5 ⟨(.undef:: .i .i64 deep1:: .ptr 2 []:: .undef:: .undef:: .i .i64 nn5:: .undef:: .i .i64 i7::uA 28),[(2,.var 26 (.d 26 a2) true)],[2],[],[]⟩
  (Ak 0 (Au (jA Lv n 13 [1,1,1,1]) (rA 13 [26,3] [.tmp 4] [4])))
theorem R7(n m5:Nat)(deep1 nn5 i7:Int)(a2:D):Nf n (m5+1) deep1 nn5 i7 a2 =
 .br (decide (i7<nn5)) (.br (decide (0≤i7)) (.br (decide (i7<(((a2.fld 2).els).length:Int))) (.call 53 [] [((a2.fld 2).els).getD (Int.toNat i7) D.nil,D.int deep1] fun yy2 =>
 .br (!((yy2.getD 0 D.nil).toBool)) (.ret [D.bool false])
 (Nf n m5 deep1 nn5 (IntKind.wrap .i64 (i7+1)) a2)) .fail) .fail)
 (.ret [D.bool true]):=by kernel_rfl
theorem NV(n:Nat)(a0 deep1:D):Ai Tryz.prog md Lv n 13 [] [a0,deep1] =
 .call 52 [] [a0.fld 1] fun yy1 =>
 .br (((yy1.getD 1 D.nil).toInt)!=0) (.ret [D.bool false])
 (.br (((yy1.getD 0 D.nil).toInt)!=(((a0.fld 2).els).length:Int)) (.ret [D.bool false])
 (Nf n n deep1.toInt ((yy1.getD 0 D.nil).toInt) 0 a0)):=by kernel_rfl
theorem RI(n:Nat)(a0:D):Ai Tryz.prog md [] n 30 [] [a0] =
 .call 75 [] [a0] fun yy1 =>
 .br ((yy1.getD 0 D.nil).toBool) (.call 13 [] [a0,D.int 8] fun yy2 =>
 .br ((yy2.getD 0 D.nil).toBool) (.call 76 [] [a0] fun yy3 =>
 .ret [D.bool ((yy3.getD 0 D.nil).toBool)])
 (.ret [D.bool false]))
 (.ret [D.bool false]):=by kernel_rfl
def Ng:List (Nat×Orc):=[(4,⟨[(2,none),(3,none),(5,none)],[(2,true),(3,true)],[]⟩)]
noncomputable def Pa(n m4:Nat)(i5:Int)(a2 b3:D):Tree :=
 lA (eA Ng n 34 [1,1,0,1,0,0]) (Ao Ng 4) m4 ⟨(.undef:: .undef:: .ptr 2 []:: .ptr 3 []:: .undef:: .i .i64 i5::uA 41),[(2,.var 26 (.d 26 a2) true),(3,.var 26 (.d 26 b3) true)],[2,3],[],[]⟩
  (Ak 0 (Au (jA Ng n 34 [1,1,1]) (rA 34 [26,26] [.tmp 4] [4])))
theorem Uv(n m4:Nat)(i5:Int)(a2 b3:D):Pa n (m4+1) i5 a2 b3 =
 .br (decide (i5<(((a2.fld 2).els).length:Int))) (.br (decide (0≤i5)) (.br (decide (i5<(((a2.fld 2).els).length:Int))) (.br (decide (0≤i5)) (.br (decide (i5<(((b3.fld 2).els).length:Int))) (.call 79 [] [((a2.fld 2).els).getD (Int.toNat i5) D.nil,((b3.fld 2).els).getD (Int.toNat i5) D.nil] fun yy2 =>
 .br (!((yy2.getD 0 D.nil).toBool)) (.ret [D.bool false])
 (Pa n m4 (IntKind.wrap .i64 (i5+1)) a2 b3)) .fail) .fail) .fail) .fail)
 (.ret [D.bool true]):=by kernel_rfl
theorem RJ(n:Nat)(a0 b1:D):Ai Tryz.prog md Ng n 34 [] [a0,b1] =
 .br (((a0.fld 0).toInt)!=((b1.fld 0).toInt)) (.ret [D.bool false])
 (.call 54 [] [a0.fld 1,b1.fld 1] fun yy1 =>
 .br (!((yy1.getD 0 D.nil).toBool)) (.ret [D.bool false])
 (.br ((((a0.fld 2).els).length:Int)!=(((b1.fld 2).els).length:Int)) (.ret [D.bool false])
 (Pa n n 0 a0 b1))):=by kernel_rfl
theorem RH(n:Nat)(c0 deep1:D):Ai Tryz.prog md [] n 53 [] [c0,deep1] =
 .br (((c0.fld 1).toInt)==0) (.br (((c0.fld 3).toInt)==0) (.br ((((c0.fld 4).els).length:Int)==0) (.call 133 [] [c0.fld 2] fun yy1 =>
 .ret [D.bool ((yy1.getD 0 D.nil).toBool)])
 (.ret [D.bool false]))
 (.ret [D.bool false]))
 (.br (((c0.fld 1).toInt)==1) (.call 134 [] [c0.fld 2] fun yy2 =>
 .br ((yy2.getD 0 D.nil).toBool) (.br ((((c0.fld 4).els).length:Int)==0) (.call 135 [] [D.int ((c0.fld 3).toInt)] fun yy3 =>
 .ret [D.bool ((yy3.getD 0 D.nil).toBool)])
 (.ret [D.bool false]))
 (.ret [D.bool false]))
 (.br (((c0.fld 1).toInt)==2) (.call 134 [] [c0.fld 2] fun yy4 =>
 .br ((yy4.getD 0 D.nil).toBool) (.br (((c0.fld 3).toInt)==0) (.br ((((c0.fld 4).els).length:Int)==1) (.br (decide (0<deep1.toInt)) (.br (decide (0≤0)) (.br (decide (0<(((c0.fld 4).els).length:Int))) (.call 136 [] [((c0.fld 4).els).getD (Int.toNat 0) D.nil] fun yy5 =>
 .br (!((yy5.getD 0 D.nil).toBool)) (.br (decide (0≤0)) (.br (decide (0<(((c0.fld 4).els).length:Int))) (.call 13 [] [((c0.fld 4).els).getD (Int.toNat 0) D.nil,D.int (IntKind.wrap .i64 (deep1.toInt-1))] fun yy6 =>
 .ret [D.bool ((yy6.getD 0 D.nil).toBool)]) .fail) .fail)
 (.ret [D.bool false])) .fail) .fail)
 (.ret [D.bool false]))
 (.ret [D.bool false]))
 (.ret [D.bool false]))
 (.ret [D.bool false]))
 (.ret [D.bool false]))):=by kernel_rfl
theorem XB(n:Nat)(a0:D):Ai Tryz.prog md [] n 75 [] [a0] =
 .call 161 [] [a0,D.int 12,D.int 4000] fun yy1 =>
 .ret [D.bool (decide (0≤((yy1.getD 0 D.nil).toInt)))]:=by kernel_rfl
def Cu:List (Nat×Orc):=[(3,⟨[(1,none),(3,none),(4,none)],[(1,true)],[]⟩),(10,⟨[(1,none),(5,none)],[(1,true)],[]⟩),(13,⟨[(1,none),(5,none),(6,none)],[(1,true)],[]⟩)]
noncomputable def Nh(n m10 m13:Nat)(i5 k6:Int)(a1:D):Tree :=
 lA (eA Cu n 76 [1,1,1,1,0,1,0,0,1,0,0,1,0,0]) (Ao Cu 13) m13 ⟨(.undef:: .ptr 1 []::uA 3++(.i .i64 i5:: .i .i64 k6::uA 55)),[(1,.var 26 (.d 26 a1) true)],[1],[],[]⟩
  (Ak 4 (Ak 3 (Au (jA Cu n 76 [1,1,1,1,0,1,0,0,1,1]) (J0 Tryz.prog md (Ao Cu 10) (fun s1=>lA (eA Cu n 76 [1,1,1,1,0,1,0,0]) (Ao Cu 10) m10 s1 (Ak 2 (Au (jA Cu n 76 [1,1,1,1,1]) (rA 76 [26] [.tmp 2] [4])))) (Ak 2 (Au (jA Cu n 76 [1,1,1,1,1]) (rA 76 [26] [.tmp 2] [4])))))))
noncomputable def Gs(n m10:Nat)(i5:Int)(a1:D):Tree :=
 lA (eA Cu n 76 [1,1,1,1,0,1,0,0]) (Ao Cu 10) m10 ⟨(.undef:: .ptr 1 []::uA 3++(.i .i64 i5::uA 56)),[(1,.var 26 (.d 26 a1) true)],[1],[],[]⟩
  (Ak 2 (Au (jA Cu n 76 [1,1,1,1,1]) (rA 76 [26] [.tmp 2] [4])))
noncomputable def Le(n m3:Nat)(nn3 i4:Int)(a1:D):Tree :=
 lA (eA Cu n 76 [1,1,0,1,0,0]) (Ao Cu 3) m3 ⟨(.undef:: .ptr 1 []:: .undef:: .i .i64 nn3:: .i .i64 i4::uA 57),[(1,.var 26 (.d 26 a1) true)],[1],[],[]⟩
  (Ak 0 (Au (jA Cu n 76 [1,1,1]) (rA 76 [26] [.tmp 2] [4])))
theorem R9(n m10 m13:Nat)(i5 k6:Int)(a1:D):Nh n m10 (m13+1) i5 k6 a1 =
 .br (decide (0≤i5)) (.br (decide (i5<(((a1.fld 2).els).length:Int))) (.br (decide (k6<((((((a1.fld 2).els).getD (Int.toNat i5) D.nil).fld 4).els).length:Int))) (.br (decide (0≤i5)) (.br (decide (i5<(((a1.fld 2).els).length:Int))) (.br (decide (0≤k6)) (.br (decide (k6<((((((a1.fld 2).els).getD (Int.toNat i5) D.nil).fld 4).els).length:Int))) (.call 76 [] [(((((a1.fld 2).els).getD (Int.toNat i5) D.nil).fld 4).els).getD (Int.toNat k6) D.nil] fun yy1 =>
 .br (!((yy1.getD 0 D.nil).toBool)) (.ret [D.bool false])
 (Nh n m10 m13 i5 (IntKind.wrap .i64 (k6+1)) a1)) .fail) .fail) .fail) .fail)
 (Gs n m10 (IntKind.wrap .i64 (i5+1)) a1)) .fail) .fail:=by kernel_rfl
theorem R8(n m10:Nat)(i5:Int)(a1:D):Gs n (m10+1) i5 a1 =
 .br (decide (i5<(((a1.fld 2).els).length:Int))) (Nh n m10 n i5 0 a1)
 (.ret [D.bool true]):=by kernel_rfl
theorem Uy(n m3:Nat)(nn3 i4:Int)(a1:D):Le n (m3+1) nn3 i4 a1 =
 .br (decide (i4<(((a1.fld 1).els).length:Int))) (.br (decide (nn3≤100000)) (.br (decide (0≤i4)) (.br (decide (i4<(((a1.fld 1).els).length:Int))) (.br (decide (0<((((a1.fld 1).els).getD (Int.toNat i4) D.nil).toInt))) (.br (decide (0≤i4)) (.br (decide (i4<(((a1.fld 1).els).length:Int))) (Le n m3 (IntKind.wrap .i64 (nn3*((((a1.fld 1).els).getD (Int.toNat i4) D.nil).toInt))) (IntKind.wrap .i64 (i4+1)) a1) .fail) .fail)
 (Le n m3 nn3 (IntKind.wrap .i64 (i4+1)) a1)) .fail) .fail)
 (.br (decide (100000<nn3)) (.ret [D.bool false])
 (Gs n n 0 a1)))
 (.br (decide (100000<nn3)) (.ret [D.bool false])
 (Gs n n 0 a1)):=by kernel_rfl
theorem RL(n:Nat)(a0:D):Ai Tryz.prog md Cu n 76 [] [a0] =
 Le n n 1 0 a0:=by kernel_rfl
theorem XC(n:Nat)(nn0:D):Ai Tryz.prog md [] n 78 [] [nn0] =
 .call 165 [] [D.int nn0.toInt] fun yy1 =>
 .ret [D.agg [D.int 0,D.int 0,yy1.getD 0 D.nil,D.int 0,D.sl []]]:=by kernel_rfl
def Jj:List (Nat×Orc):=[(4,⟨[(2,none),(3,none),(5,none)],[(2,true),(3,true)],[]⟩)]
noncomputable def J2(n m4:Nat)(i5:Int)(a2 b3:D):Tree :=
 lA (eA Jj n 79 [1,1,0,1,0,0]) (Ao Jj 4) m4 ⟨(.undef:: .undef:: .ptr 2 []:: .ptr 3 []:: .undef:: .i .i64 i5::uA 55),[(2,.var 67 (.d 67 a2) true),(3,.var 67 (.d 67 b3) true)],[2,3],[],[]⟩
  (Ak 0 (Au (jA Jj n 79 [1,1,1]) (rA 79 [67,67] [.tmp 4] [4])))
theorem N9(n m4:Nat)(i5:Int)(a2 b3:D):J2 n (m4+1) i5 a2 b3 =
 .br (decide (i5<(((a2.fld 4).els).length:Int))) (.br (decide (0≤i5)) (.br (decide (i5<(((a2.fld 4).els).length:Int))) (.br (decide (0≤i5)) (.br (decide (i5<(((b3.fld 4).els).length:Int))) (.call 34 [] [((a2.fld 4).els).getD (Int.toNat i5) D.nil,((b3.fld 4).els).getD (Int.toNat i5) D.nil] fun yy2 =>
 .br (!((yy2.getD 0 D.nil).toBool)) (.ret [D.bool false])
 (J2 n m4 (IntKind.wrap .i64 (i5+1)) a2 b3)) .fail) .fail) .fail) .fail)
 (.ret [D.bool true]):=by kernel_rfl
theorem DD(n:Nat)(a0 b1:D):Ai Tryz.prog md Jj n 79 [] [a0,b1] =
 .br (((a0.fld 0).toInt)!=((b1.fld 0).toInt)) (.ret [D.bool false])
 (.br (((a0.fld 1).toInt)!=((b1.fld 1).toInt)) (.ret [D.bool false])
 (.br (((a0.fld 3).toInt)!=((b1.fld 3).toInt)) (.ret [D.bool false])
 (.call 137 [] [a0.fld 2,b1.fld 2] fun yy1 =>
 .br (!((yy1.getD 0 D.nil).toBool)) (.ret [D.bool false])
 (.br ((((a0.fld 4).els).length:Int)!=(((b1.fld 4).els).length:Int)) (.ret [D.bool false])
 (J2 n n 0 a0 b1))))):=by kernel_rfl
theorem RM(n:Nat)(nn0:D):Ai Tryz.prog md [] n 134 [] [nn0] =
 .br (!((nn0.fld 0).toBool)) (.br ((((nn0.fld 1).els).length:Int)==0) (.ret [D.bool ((((nn0.fld 2).els).length:Int)==0)])
 (.ret [D.bool false]))
 (.ret [D.bool false]):=by kernel_rfl
theorem KA(n:Nat)(a0:D):Ai Tryz.prog md [] n 136 [] [a0] =
 .br ((((a0.fld 1).els).length:Int)==0) (.br ((((a0.fld 2).els).length:Int)==1) (.br (decide (0≤0)) (.br (decide (0<(((a0.fld 2).els).length:Int))) (.ret [D.bool ((((((a0.fld 2).els).getD (Int.toNat 0) D.nil).fld 1).toInt)!=2)]) .fail) .fail)
 (.ret [D.bool false]))
 (.ret [D.bool false]):=by kernel_rfl
def Do:List (Nat×Orc):=[(5,⟨[(1,none),(2,none),(3,none),(7,none)],[(3,true)],[]⟩),(9,⟨[(1,none),(2,none),(3,none),(7,none),(8,none)],[(3,true)],[]⟩)]
noncomputable def Pb(n m5 m9:Nat)(deep1 nn2:Int)(i7 k8:Int)(a3:D):Tree :=
 lA (eA Do n 161 [1,1,1,0,1,0,0,1,0,0,1,1,0,0]) (Ao Do 9) m9 ⟨(.undef:: .i .i64 deep1:: .i .i64 nn2:: .ptr 3 []::uA 3++(.i .i64 i7:: .i .i64 k8::uA 68)),[(3,.var 26 (.d 26 a3) true)],[3],[],[]⟩
  (Ak 2 (Ak 1 (Au (jA Do n 161 [1,1,1,0,1,0,0,1,1]) (J0 Tryz.prog md (Ao Do 5) (fun s1=>lA (eA Do n 161 [1,1,1,0,1,0,0]) (Ao Do 5) m5 s1 (Ak 0 (Au (jA Do n 161 [1,1,1,1]) (rA 161 [26,3,3] [.tmp 6] [3])))) (Ak 0 (Au (jA Do n 161 [1,1,1,1]) (rA 161 [26,3,3] [.tmp 6] [3])))))))
noncomputable def Ld(n m5:Nat)(deep1 nn2 i7:Int)(a3:D):Tree :=
 lA (eA Do n 161 [1,1,1,0,1,0,0]) (Ao Do 5) m5 ⟨(.undef:: .i .i64 deep1:: .i .i64 nn2:: .ptr 3 []::uA 3++(.i .i64 i7::uA 69)),[(3,.var 26 (.d 26 a3) true)],[3],[],[]⟩
  (Ak 0 (Au (jA Do n 161 [1,1,1,1]) (rA 161 [26,3,3] [.tmp 6] [3])))
theorem Ux(n m5 m9:Nat)(deep1 nn2:Int)(i7 k8:Int)(a3:D):Pb n m5 (m9+1) deep1 nn2 i7 k8 a3 =
 .br (decide (0≤i7)) (.br (decide (i7<(((a3.fld 2).els).length:Int))) (.br (decide (k8<((((((a3.fld 2).els).getD (Int.toNat i7) D.nil).fld 4).els).length:Int))) (.br (decide (0≤nn2)) (.br (decide (0≤i7)) (.br (decide (i7<(((a3.fld 2).els).length:Int))) (.br (decide (0≤k8)) (.br (decide (k8<((((((a3.fld 2).els).getD (Int.toNat i7) D.nil).fld 4).els).length:Int))) (.call 161 [] [(((((a3.fld 2).els).getD (Int.toNat i7) D.nil).fld 4).els).getD (Int.toNat k8) D.nil,D.int (IntKind.wrap .i64 (deep1-1)),D.int nn2] fun yy1 =>
 Pb n m5 m9 deep1 ((yy1.getD 0 D.nil).toInt) i7 (IntKind.wrap .i64 (k8+1)) a3) .fail) .fail) .fail) .fail)
 (Ld n m5 deep1 nn2 (IntKind.wrap .i64 (i7+1)) a3))
 (Ld n m5 deep1 nn2 (IntKind.wrap .i64 (i7+1)) a3)) .fail) .fail:=by kernel_rfl
theorem Uw(n m5:Nat)(deep1 nn2 i7:Int)(a3:D):Ld n (m5+1) deep1 nn2 i7 a3 =
 .br (decide (i7<(((a3.fld 2).els).length:Int))) (.br (decide (0≤nn2)) (.br (decide (0≤i7)) (.br (decide (i7<(((a3.fld 2).els).length:Int))) (.br (decide (0≤i7)) (.br (decide (i7<(((a3.fld 2).els).length:Int))) (Pb n m5 n deep1 (IntKind.wrap .i64 ((IntKind.wrap .i64 ((IntKind.wrap .i64 (nn2-1))-(((((((a3.fld 2).els).getD (Int.toNat i7) D.nil).fld 2).fld 1).els).length:Int)))-(((((((a3.fld 2).els).getD (Int.toNat i7) D.nil).fld 2).fld 2).els).length:Int))) i7 0 a3) .fail) .fail) .fail) .fail)
 (.ret [D.int nn2]))
 (.ret [D.int nn2]):=by kernel_rfl
theorem Yk(n:Nat)(a0 deep1 nn2:D):Ai Tryz.prog md Do n 161 [] [a0,deep1,nn2] =
 .br (deep1.toInt == 0) (.ret [D.int (-1)])
 (Ld n n deep1.toInt (IntKind.wrap .i64 ((IntKind.wrap .i64 (nn2.toInt-1))-(((a0.fld 1).els).length:Int))) 0 a0):=by kernel_rfl
def M_:List (Nat×Orc):=[(4,⟨[(0,some 23),(1,some 23),(5,none)],[],[]⟩)]
noncomputable def Oz(n m4:Nat)(a0 b1:D)(i5:Int):Tree :=
 lA (eA M_ n 27 [1,1,0,1,0,0]) (Ao M_ 4) m4 ⟨(.d 23 a0:: .d 23 b1::uA 3++(.i .i64 i5::uA 20)),[],[],[],[]⟩
  (Ak 0 (Au (jA M_ n 27 [1,1,1]) (rA 27 [23,23] [.tmp 4] [4])))
theorem Ut(n m4:Nat)(a0 b1:D)(i5:Int):Oz n (m4+1) a0 b1 i5 =
 .br (decide (i5<(a0.els.length:Int))) (.br (decide (0≤i5)) (.br (decide (i5<(a0.els.length:Int))) (.br (decide (0≤i5)) (.br (decide (i5<(b1.els.length:Int))) (.br (((a0.els.getD (Int.toNat i5) D.nil).toInt)!=((b1.els.getD (Int.toNat i5) D.nil).toInt)) (.ret [D.bool false])
 (Oz n m4 a0 b1 (IntKind.wrap .i64 (i5+1)))) .fail) .fail) .fail) .fail)
 (.ret [D.bool true]):=by kernel_rfl
theorem QY(n:Nat)(a0 b1:D):Ai Tryz.prog md M_ n 27 [] [a0,b1] =
 .br ((a0.els.length:Int)!=(b1.els.length:Int)) (.ret [D.bool false])
 (Oz n n a0 b1 0):=by kernel_rfl
theorem PP(n:Nat)(a0 b1:D):Ai Tryz.prog md [] n 83 [] [a0,b1] =
 .ret [D.int (Bs .or .u64 a0.toInt b1.toInt)]:=by kernel_rfl
abbrev Co:=BitVec 64
abbrev Av:=BitVec 32
structure Num where
 neg:Bool
 top:List Av
 bot:List Av
 deriving DecidableEq
structure CellF (α:Type) where
 l:Co
 kind:Int
 n:Num
 c:Int
 inn:List α
inductive Arr where
 | mk (s:Co) (shape:List Int) (cells:List (CellF Arr))
abbrev Cell:=CellF Arr
def Arr.s:Arr→Co | .mk s _ _=>s
def Arr.shape:Arr→List Int | .mk _ s _=>s
def Arr.cells:Arr→List Cell | .mk _ _ c=>c
@[simp] theorem Arr.s_mk (s sh cs):(Arr.mk s sh cs).s=s:=rfl
@[simp] theorem Arr.shape_mk (s sh cs):(Arr.mk s sh cs).shape=sh:=rfl
@[simp] theorem Arr.cells_mk (s sh cs):(Arr.mk s sh cs).cells=cs:=rfl
def Num.zero:Num:=⟨false,[],[]⟩
def Cell.none:Cell:=⟨0,0,.zero,0,[]⟩
def Arr.none:Arr:= .mk 0 [] []
theorem Arr.ind {p:Arr→Prop} (h : ∀ s sh cs,(∀ c∈cs,∀ x∈c.inn,p x)→p (.mk s sh cs)) (a:Arr):p a :=
 Arr.rec (motive_1:=p) (motive_2:=fun cs=>∀ c∈cs,∀ x∈c.inn,p x) (motive_3:=fun c=>∀ x∈c.inn,p x) (motive_4:=fun as_=>∀ x∈as_,p x)
  (fun s sh cs ih=>h s sh cs ih) (fun c hc=>by cases hc)
  (fun c cs h1 h2 d hd=>by rcases List.mem_cons.1 hd with rfl | hd;exact h1;exact h2 d hd)
  (fun _ _ _ _ _ ih=>ih) (fun x hx=>by cases hx)
  (fun a as_ h1 h2 x hx=>by rcases List.mem_cons.1 hx with rfl | hx;exact h1;exact h2 x hx) a
def dB{k:Nat}(x:BitVec k):D:= .int (x.toNat:Int)
def dI(l:List Int):D:= .sl (l.map .int)
def dL(l:List Av):D:= .sl (l.map dB)
def dN(n:Num):D:= .agg [.bool n.neg,dL n.top,dL n.bot]
mutual
def dA:Arr→D
 | .mk s sh cs=> .agg [dB s,dI sh,.sl (dCs cs)]
def dCs:List (CellF Arr)→List D
 | []=>[]
 | c::cs=>dC c::dCs cs
def dC:CellF Arr→D
 | ⟨l,k,n,c,inn⟩=> .agg [dB l,.int k,dN n,.int c,.sl (dAs inn)]
def dAs:List Arr→List D
 | []=>[]
 | a::as_=>dA a::dAs as_
end
theorem Ad7 : ∀ cs,dCs cs=cs.map dC
 | []=>by simp[dCs]
 | c::cs=>by simp[dCs,Ad7 cs]
theorem Ad6 : ∀ as_,dAs as_=as_.map dA
 | []=>by simp[dAs]
 | a::as_=>by simp[dAs,Ad6 as_]
theorem Fz(a:Arr):dA a = .agg [dB a.s,dI a.shape,.sl (a.cells.map dC)]:=by cases a;simp[dA,Ad7]
theorem F6(c:Cell):dC c = .agg [dB c.l,.int c.kind,dN c.n,.int c.c,.sl (c.inn.map dA)]:=by cases c;simp[dC,Ad6]
theorem Aky(s:Co)(sh:List Int)(cs:List Cell):D.agg [dB s,dI sh,.sl (cs.map dC)]=dA (.mk s sh cs):=by rw[Fz];rfl
section simps
@[simp] theorem Ks (x:D) (l:List D):(D.agg (x::l)).fld 0=x:=rfl
@[simp] theorem Kt (x y:D) (l:List D):(D.agg (x::y::l)).fld 1=y:=rfl
@[simp] theorem AW (x y z:D) (l:List D):(D.agg (x::y::z::l)).fld 2=z:=rfl
@[simp] theorem AkG (x y z u:D) (l:List D):(D.agg (x::y::z::u::l)).fld 3=u:=rfl
@[simp] theorem AkH (x y z u v:D) (l:List D):(D.agg (x::y::z::u::v::l)).fld 4=v:=rfl
@[simp] theorem AgP (a:Arr):(dA a).fld 0=dB a.s:=by rw[Fz];rfl
@[simp] theorem Ae1 (a:Arr):(dA a).fld 1=dI a.shape:=by rw[Fz];rfl
@[simp] theorem AgQ (a:Arr):(dA a).fld 2 = .sl (a.cells.map dC):=by rw[Fz];rfl
@[simp] theorem AkD (c:Cell):(dC c).fld 0=dB c.l:=by rw[F6];rfl
@[simp] theorem AjC (c:Cell):(dC c).fld 1 = .int c.kind:=by rw[F6];rfl
@[simp] theorem AkE (c:Cell):(dC c).fld 2=dN c.n:=by rw[F6];rfl
@[simp] theorem AkF (c:Cell):(dC c).fld 3 = .int c.c:=by rw[F6];rfl
@[simp] theorem AgR (c:Cell):(dC c).fld 4 = .sl (c.inn.map dA):=by rw[F6];rfl
@[simp] theorem MD (n:Num):(dN n).fld 0 = .bool n.neg:=rfl
@[simp] theorem TZ (n:Num):(dN n).fld 1=dL n.top:=rfl
@[simp] theorem ME (n:Num):(dN n).fld 2=dL n.bot:=rfl
@[simp] theorem Ez (l:List D):(D.sl l).els=l:=rfl
@[simp] theorem Bx (l:List Int):(dI l).els=l.map .int:=rfl
@[simp] theorem Bu (l:List Av):(dL l).els=l.map dB:=rfl
@[simp] theorem Ah (n:Int):(D.int n).toInt=n:=rfl
@[simp] theorem Ds {k:Nat} (x:BitVec k):(dB x).toInt=(x.toNat:Int):=rfl
@[simp] theorem Al (b:Bool):(D.bool b).toBool=b:=rfl
@[simp] theorem Yq (x:D):(D.ref x).unref=x:=rfl
@[simp] theorem H2 (f c d):(D.fn f c d).fnId=f:=rfl
@[simp] theorem Gm (f c d):(D.fn f c d).fnCts=c:=rfl
@[simp] theorem H1 (f c d):(D.fn f c d).fnDs=d:=rfl
@[simp] theorem Af (x:D) (l:List D):(x::l).getD 0 D.nil=x:=rfl
@[simp] theorem Ce (x y:D) (l:List D):(x::y::l).getD 1 D.nil=y:=rfl
@[simp] theorem IU (x y z:D) (l:List D):(x::y::z::l).getD 2 D.nil=z:=rfl
@[simp] theorem AkM (x y z u:D) (l:List D):(x::y::z::u::l).getD 3 D.nil=u:=rfl
theorem Si{k:Nat}(x:BitVec k):D.int (x.toNat:Int)=dB x:=rfl
theorem AjF(l:List Int):D.sl (l.map .int)=dI l:=rfl
theorem AjG(l:List Av):D.sl (l.map dB)=dL l:=rfl
end simps
theorem Az{α:Type}{l:List α}{i:Nat}{x:α}{xs:List α}(h:l.drop i=x::xs):i<l.length∧l[i]? = some x∧l.drop (i+1)=xs:=by
 have hi:i<l.length:=by
  rcases Nat.lt_or_ge i l.length with h1 | h1
  · exact h1
  · rw[List.drop_eq_nil_of_le h1]at h;cases h
 rw[List.drop_eq_getElem_cons hi]at h
 injection h with h1 h2
 exact ⟨hi,by rw[List.getElem?_eq_getElem hi,h1],h2⟩
theorem AgT{α:Type}{l:List α}{i:Nat}(h:l.drop i = []):l.length≤i:=List.drop_eq_nil_iff.1 h
theorem Aj{α:Type}{l:List α}{i:Nat}{x:α}{f:α→D}(h:l[i]? = some x):(l.map f).getD i D.nil=f x:=by
 rw[List.getD_eq_getElem?_getD,List.getElem?_map,h];rfl
theorem Ap{x:Int}(h1 : -9223372036854775808≤x)(h2:x≤9223372036854775807):IntKind.wrap .i64 x=x:=by rw[IntKind.wrap_i64];omega
theorem A_{x:Int}(h1:0≤x)(h2:x<18446744073709551616):IntKind.wrap .u64 x=x:=by rw[IntKind.wrap_u64];omega
theorem Fp{x:Int}(h1:0≤x)(h2:x<4294967296):IntKind.wrap .u32 x=x:=by rw[IntKind.wrap_u32];omega
abbrev Sp(f:Nat)(xs ys:List D):Prop:=Ia Tryz.prog md f [] xs ys
abbrev Tw(t:Tree)(ys:List D):Prop:=t.wp Tryz.prog md (fun zs=>zs=ys)
theorem Bz(x y:Int):(x == y)=decide (x=y):=by by_cases h:x=y <;> simp[h]
theorem Cz(x y:Int):(x != y)=decide (¬ x=y):=by by_cases h:x=y <;> simp[h]
theorem Fo(p:Prop) [Decidable p]:(!decide p)=decide (¬ p):=by by_cases h:p <;> simp[h]
theorem An{k:Nat}(h:k<9223372036854775807):IntKind.wrap .i64 ((k:Int)+1)=((k+1:Nat):Int):=by rw[Ap (by omega) (by omega)];rfl
theorem As:(∀ a:Arr,(dA a).fld 0=dB a.s)∧(∀ a:Arr,(dA a).fld 1=dI a.shape)∧(∀ a:Arr,(dA a).fld 2 = .sl (a.cells.map dC))∧(∀ c:Cell,(dC c).fld 0=dB c.l)∧(∀ c:Cell,(dC c).fld 1 = .int c.kind)∧(∀ c:Cell,(dC c).fld 2=dN c.n)∧(∀ c:Cell,(dC c).fld 3 = .int c.c)∧(∀ c:Cell,(dC c).fld 4 = .sl (c.inn.map dA))∧(∀ n:Num,(dN n).fld 0 = .bool n.neg)∧(∀ n:Num,(dN n).fld 1=dL n.top)∧(∀ n:Num,(dN n).fld 2=dL n.bot)∧(∀ l:List D,(D.sl l).els=l)∧(∀ l:List Int,(dI l).els=l.map .int)∧(∀ l:List Av,(dL l).els=l.map dB)∧(∀ (α β:Type) (l:List α) (f:α→β),(l.map f).length=l.length)∧(∀ n:Nat,Int.toNat (n:Int)=n)∧(∀ n:Int,(D.int n).toInt=n)∧(∀ (k:Nat) (x:BitVec k),(dB x).toInt=(x.toNat:Int))∧(∀ b:Bool,(D.bool b).toBool=b)∧(∀ (x:D) (l:List D),(x::l).getD 0 D.nil=x)∧(∀ (x y:D) (l:List D),(x::y::l).getD 1 D.nil=y)∧(∀ x y:Int,(x == y)=decide (x=y))∧(∀ x y:Int,(x != y)=decide (¬ x=y))∧(∀ (p:Prop) [Decidable p],(!decide p)=decide (¬ p))∧(∀ (k:Nat) (x:BitVec k),D.int (x.toNat:Int)=dB x)∧Int.toNat 0=0 :=
 ⟨AgP,Ae1,AgQ,AkD,AjC,AkE,AkF,AgR,MD,TZ,ME,Ez,Bx,Bu,fun _ _ _ _=>List.length_map _,Int.toNat_natCast,Ah,fun _=>Ds,Al,Af,Ce,Bz,Cz,Fo,fun _=>Si,Int.toNat_zero⟩
theorem Ae{P:Program}{md:Nat→FMode}{Φ:List D→Prop}{c:Prop} [Decidable c] {t e:Tree}(ht:t.wp P md Φ)(h:c:=by omega):(Tree.br (decide c) t e).wp P md Φ:=At h ht
theorem A7{α σ:Type}{P:Program}{md:Nat→FMode}(xs:List α)(L:Nat→Nat→σ→Tree)(f:List α→σ→List D)(I:List α→σ→Prop)
  (hnil : ∀ m k s,k=xs.length→I [] s→(L (m+1) k s).wp P md (fun zs=>zs=f [] s))
  (hcons : ∀ m k s x rest,xs.drop k=x::rest→I (x::rest) s→(∀ s',I rest s'→(L m (k+1) s').wp P md (fun zs=>zs=f rest s'))→(L (m+1) k s).wp P md (fun zs=>zs=f (x::rest) s)) :
  ∀ m k s,xs.length-k<m→k≤xs.length→I (xs.drop k) s→(L m k s).wp P md (fun zs=>zs=f (xs.drop k) s):=by
 intro m
 induction m with
 | zero=>intro k s h;omega
 | succ m ih =>
  intro k s h1 h2 hI
  cases hd:xs.drop k with
  | nil=>rw[hd]at hI;exact hnil m k s (by have:=AgT hd;omega) hI
  | cons x rest =>
   rw[hd]at hI
   obtain ⟨a1,a2,a3⟩:=Az hd
   refine hcons m k s x rest hd hI (fun s' hI'=> ?_)
   have:=ih (k+1) s' (by omega) (by omega) (by rw[a3];exact hI')
   rwa[a3]at this
theorem C4{σ:Type}{P:Program}{md:Nat→FMode}(N:Nat)(L:Nat→Nat→σ→Tree)(f:Nat→σ→List D)(I:Nat→σ→Prop)
  (hend : ∀ m s,I N s→(L (m+1) N s).wp P md (fun zs=>zs=f N s))
  (hstep : ∀ m k s,k<N→I k s→(∀ s',I (k+1) s'→(L m (k+1) s').wp P md (fun zs=>zs=f (k+1) s'))→(L (m+1) k s).wp P md (fun zs=>zs=f k s)) :
  ∀ m k s,N-k<m→k≤N→I k s→(L m k s).wp P md (fun zs=>zs=f k s):=by
 intro m
 induction m with
 | zero=>intro k s h;omega
 | succ m ih =>
  intro k s h1 h2 hI
  by_cases hk:k=N
  · subst hk;exact hend m s hI
  · exact hstep m k s (by omega) hI (fun s' hI'=>ih (k+1) s' (by omega) (by omega) hI')
theorem G0{σ:Type}{P:Program}{md:Nat→FMode}(L:Nat→Nat→σ→Tree)(f:Nat→σ→List D)(I:Nat→σ→Prop)
  (hend : ∀ m s,I 0 s→(L (m+1) 0 s).wp P md (fun zs=>zs=f 0 s))
  (hstep : ∀ m k s,I (k+1) s→(∀ s',I k s'→(L m k s').wp P md (fun zs=>zs=f k s'))→(L (m+1) (k+1) s).wp P md (fun zs=>zs=f (k+1) s)) :
  ∀ m k s,k<m→I k s→(L m k s).wp P md (fun zs=>zs=f k s):=by
 intro m
 induction m with
 | zero=>intro k s h;omega
 | succ m ih =>
  intro k s h1 hI
  cases k with
  | zero=>exact hend m s hI
  | succ k=>exact hstep m k s hI (fun s' hI'=>ih k s' (by omega) hI')
theorem VG(a b:Co):Bs .or .u64 (a.toNat:Int) (b.toNat:Int)=((a|||b).toNat:Int):=by
 show IntKind.wrap .u64 ((BitVec.ofInt 64 (a.toNat:Int)|||BitVec.ofInt 64 (b.toNat:Int)).toNat:Int)=_
 have h:=(a|||b).isLt
 rw[show BitVec.ofInt 64 (a.toNat:Int)=a by simp,show BitVec.ofInt 64 (b.toNat:Int)=b by simp]
 exact A_ (Int.natCast_nonneg _) (Int.ofNat_lt.2 h)
theorem Dc(a b:Co):Sp 83 [dB a,dB b] [dB (a|||b)]:=by
 refine Ag 0 (PP 0 _ _) (Ac ?_)
 simp only[Ds,VG];rfl
theorem NS(n:Nat)(a0:D):Ai Tryz.prog md [] n 77 [] [a0] =
 .call 162 [] [a0] fun yy1 =>
 .br (!((yy1.getD 0 D.nil).toBool)) (.ret [D.int 0,D.bool false])
 (.call 164 [] [a0] fun yy2 =>
 .call 163 [] [yy2.getD 0 D.nil] fun yy3 =>
 .ret [D.int ((yy3.getD 0 D.nil).toInt),D.bool ((yy3.getD 1 D.nil).toBool)]):=by kernel_rfl
theorem NR(n:Nat)(a0:D):Ai Tryz.prog md [] n 133 [] [a0] =
 .br (decide (32<(((a0.fld 1).els).length:Int))) (.ret [D.bool false])
 (.br (decide (32<(((a0.fld 2).els).length:Int))) (.ret [D.bool false])
 (.call 164 [] [a0] fun yy1 =>
 .call 210 [] [a0] fun yy2 =>
 .call 209 [] [yy1.getD 0 D.nil,yy2.getD 0 D.nil] fun yy3 =>
 .br (((yy3.getD 1 D.nil).toInt)==0) (.call 137 [] [a0,yy3.getD 0 D.nil] fun yy4 =>
 .ret [D.bool ((yy4.getD 0 D.nil).toBool)])
 (.ret [D.bool false]))):=by kernel_rfl
theorem RF(n:Nat)(a0 b1:D):Ai Tryz.prog md [] n 137 [] [a0,b1] =
 .br (((a0.fld 0).toBool)==((b1.fld 0).toBool)) (.call 211 [] [a0.fld 1,b1.fld 1] fun yy1 =>
 .br ((yy1.getD 0 D.nil).toBool) (.call 211 [] [a0.fld 2,b1.fld 2] fun yy2 =>
 .ret [D.bool ((yy2.getD 0 D.nil).toBool)])
 (.ret [D.bool false]))
 (.ret [D.bool false]):=by kernel_rfl
theorem GA(n:Nat)(a0:D):Ai Tryz.prog md [] n 162 [] [a0] =
 .br ((((a0.fld 2).els).length:Int)==1) (.br (decide (0≤0)) (.br (decide (0<(((a0.fld 2).els).length:Int))) (.ret [D.bool (((((a0.fld 2).els).getD (Int.toNat 0) D.nil).toInt)==1)]) .fail) .fail)
 (.ret [D.bool false]):=by kernel_rfl
theorem WX(n:Nat)(a0:D):Ai Tryz.prog md [] n 164 [] [a0] =
 .call 223 [] [D.agg [D.bool ((a0.fld 0).toBool),a0.fld 1]] fun yy1 =>
 .ret [yy1.getD 0 D.nil]:=by kernel_rfl
theorem Aaz(n:Nat)(nn0:D):Ai Tryz.prog md [] n 165 [] [nn0] =
 .call 225 [] [D.int nn0.toInt] fun yy1 =>
 .call 226 [] [yy1.getD 0 D.nil] fun yy2 =>
 .ret [yy2.getD 0 D.nil]:=by kernel_rfl
theorem NL(n:Nat)(a0:D):Ai Tryz.prog md [] n 166 [] [a0] =
 .call 227 [] [a0.fld 2] fun yy1 =>
 .br (!((yy1.getD 0 D.nil).toBool)) (.ret [D.int 0,D.bool false])
 (.call 229 [] [a0] fun yy2 =>
 .call 228 [] [yy2.getD 0 D.nil] fun yy3 =>
 .ret [D.int ((yy3.getD 0 D.nil).toInt),D.bool ((yy3.getD 1 D.nil).toBool)]):=by kernel_rfl
theorem RE(n:Nat)(p0 q1:D):Ai Tryz.prog md [] n 209 [] [p0,q1] =
 .call 223 [] [p0] fun yy1 =>
 .call 223 [] [q1] fun yy2 =>
 .br (((((yy2.getD 0 D.nil).fld 1).els).length:Int)==0) (.ret [D.agg [D.bool false,D.sl [],D.sl []],D.int 3])
 (.call 243 [] [(yy1.getD 0 D.nil).fld 1,(yy2.getD 0 D.nil).fld 1] fun yy3 =>
 .call 244 [] [(yy1.getD 0 D.nil).fld 1,yy3.getD 0 D.nil] fun yy4 =>
 .call 244 [] [(yy2.getD 0 D.nil).fld 1,yy3.getD 0 D.nil] fun yy5 =>
 .br (decide (32<(((yy4.getD 0 D.nil).els).length:Int))) (.ret [D.agg [D.bool false,D.sl [],D.sl []],D.int 7])
 (.br (decide (32<(((yy5.getD 0 D.nil).els).length:Int))) (.ret [D.agg [D.bool false,D.sl [],D.sl []],D.int 7])
 (.br (decide (0<(((yy4.getD 0 D.nil).els).length:Int))) (.ret [D.agg [D.bool (!((((yy1.getD 0 D.nil).fld 0).toBool)==(((yy2.getD 0 D.nil).fld 0).toBool))),yy4.getD 0 D.nil,yy5.getD 0 D.nil],D.int 0])
 (.ret [D.agg [D.bool false,yy4.getD 0 D.nil,yy5.getD 0 D.nil],D.int 0])))):=by kernel_rfl
theorem WU(n:Nat)(a0:D):Ai Tryz.prog md [] n 210 [] [a0] =
 .call 223 [] [D.agg [D.bool false,a0.fld 2]] fun yy1 =>
 .ret [yy1.getD 0 D.nil]:=by kernel_rfl
theorem Aau(n:Nat)(nn0:D):Ai Tryz.prog md [] n 212 [] [nn0] =
 .call 246 [] [D.int nn0.toInt] fun yy1 =>
 .call 245 [] [yy1.getD 0 D.nil] fun yy2 =>
 .ret [yy2.getD 0 D.nil]:=by kernel_rfl
theorem VY(n:Nat)(a0 b1:D):Ai Tryz.prog md [] n 219 [] [a0,b1] =
 .call 227 [] [a0.fld 2] fun yy1 =>
 .br ((yy1.getD 0 D.nil).toBool) (.call 227 [] [b1.fld 2] fun yy2 =>
 .br ((yy2.getD 0 D.nil).toBool) (.call 229 [] [a0] fun yy3 =>
 .call 229 [] [b1] fun yy4 =>
 .call 253 [] [yy3.getD 0 D.nil,yy4.getD 0 D.nil] fun yy5 =>
 .ret [D.int ((yy5.getD 0 D.nil).toInt)])
 (.call 229 [] [a0] fun yy6 =>
 .call 255 [] [b1] fun yy7 =>
 .call 254 [] [yy6.getD 0 D.nil,yy7.getD 0 D.nil] fun yy8 =>
 .call 229 [] [b1] fun yy9 =>
 .call 255 [] [a0] fun yy10 =>
 .call 254 [] [yy9.getD 0 D.nil,yy10.getD 0 D.nil] fun yy11 =>
 .call 253 [] [yy8.getD 0 D.nil,yy11.getD 0 D.nil] fun yy12 =>
 .ret [D.int ((yy12.getD 0 D.nil).toInt)]))
 (.call 229 [] [a0] fun yy13 =>
 .call 255 [] [b1] fun yy14 =>
 .call 254 [] [yy13.getD 0 D.nil,yy14.getD 0 D.nil] fun yy15 =>
 .call 229 [] [b1] fun yy16 =>
 .call 255 [] [a0] fun yy17 =>
 .call 254 [] [yy16.getD 0 D.nil,yy17.getD 0 D.nil] fun yy18 =>
 .call 253 [] [yy15.getD 0 D.nil,yy18.getD 0 D.nil] fun yy19 =>
 .ret [D.int ((yy19.getD 0 D.nil).toInt)]):=by kernel_rfl
theorem NT(n:Nat)(nn0:D):Ai Tryz.prog md [] n 226 [] [nn0] =
 .call 223 [] [nn0] fun yy1 =>
 .ret [D.agg [D.bool (((yy1.getD 0 D.nil).fld 0).toBool),(yy1.getD 0 D.nil).fld 1,D.sl [D.int 1]]]:=by kernel_rfl
theorem NN(n:Nat)(a0:D):Ai Tryz.prog md [] n 227 [] [a0] =
 .br ((a0.els.length:Int)==1) (.br (decide (0≤0)) (.br (decide (0<(a0.els.length:Int))) (.ret [D.bool (((a0.els.getD (Int.toNat 0) D.nil).toInt)==1)]) .fail) .fail)
 (.ret [D.bool false]):=by kernel_rfl
theorem WI(n:Nat)(a0:D):Ai Tryz.prog md [] n 229 [] [a0] =
 .ret [D.agg [D.bool ((a0.fld 0).toBool),a0.fld 1]]:=by kernel_rfl
theorem NM(n:Nat)(nn0:D):Ai Tryz.prog md [] n 245 [] [nn0] =
 .call 269 [] [nn0] fun yy1 =>
 .br (decide (32<((((yy1.getD 0 D.nil).fld 1).els).length:Int))) (.ret [D.agg [D.bool false,D.sl [],D.sl []]])
 (.ret [D.agg [D.bool (((yy1.getD 0 D.nil).fld 0).toBool),(yy1.getD 0 D.nil).fld 1,D.sl [D.int 1]]]):=by kernel_rfl
theorem WH(n:Nat)(a0:D):Ai Tryz.prog md [] n 255 [] [a0] =
 .ret [D.agg [D.bool false,a0.fld 2]]:=by kernel_rfl
theorem WE(n:Nat)(a0:D):Ai Tryz.prog md [] n 258 [] [a0] =
 .call 304 [] [D.bool (!((a0.fld 0).toBool)),a0] fun yy1 =>
 .ret [yy1.getD 0 D.nil]:=by kernel_rfl
theorem QV(n:Nat)(a0:D):Ai Tryz.prog md [] n 259 [] [a0] =
 .call 229 [] [a0] fun yy1 =>
 .call 301 [] [yy1.getD 0 D.nil] fun yy2 =>
 .ret [D.int ((yy2.getD 0 D.nil).toInt)]:=by kernel_rfl
theorem VZ(n:Nat)(a0 b1:D):Ai Tryz.prog md [] n 260 [] [a0,b1] =
 .call 229 [] [a0] fun yy1 =>
 .call 255 [] [b1] fun yy2 =>
 .call 254 [] [yy1.getD 0 D.nil,yy2.getD 0 D.nil] fun yy3 =>
 .call 255 [] [a0] fun yy4 =>
 .call 229 [] [b1] fun yy5 =>
 .call 254 [] [yy4.getD 0 D.nil,yy5.getD 0 D.nil] fun yy6 =>
 .call 305 [] [yy3.getD 0 D.nil,yy6.getD 0 D.nil] fun yy7 =>
 .ret [yy7.getD 0 D.nil,D.int ((yy7.getD 1 D.nil).toInt)]:=by kernel_rfl
theorem QS(n:Nat)(a0:D):Ai Tryz.prog md [] n 261 [] [a0] =
 .call 258 [] [a0] fun yy1 =>
 .call 262 [] [yy1.getD 0 D.nil] fun yy2 =>
 .call 258 [] [yy2.getD 0 D.nil] fun yy3 =>
 .ret [yy3.getD 0 D.nil]:=by kernel_rfl
theorem NK(n:Nat)(a0:D):Ai Tryz.prog md [] n 262 [] [a0] =
 .call 229 [] [a0] fun yy1 =>
 .call 255 [] [a0] fun yy2 =>
 .call 306 [] [yy1.getD 0 D.nil,yy2.getD 0 D.nil] fun yy3 =>
 .call 245 [] [yy3.getD 0 D.nil] fun yy4 =>
 .ret [yy4.getD 0 D.nil]:=by kernel_rfl
theorem VW(n:Nat)(a0:D):Ai Tryz.prog md [] n 263 [] [a0] =
 .call 304 [] [D.bool false,a0] fun yy1 =>
 .ret [yy1.getD 0 D.nil]:=by kernel_rfl
theorem QU(n:Nat)(a0 b1:D):Ai Tryz.prog md [] n 274 [] [a0,b1] =
 .br (((a0.fld 0).toBool)==((b1.fld 0).toBool)) (.call 312 [] [a0.fld 1,b1.fld 1] fun yy1 =>
 .br ((yy1.getD 0 D.nil).toBool) (.call 312 [] [a0.fld 2,b1.fld 2] fun yy2 =>
 .ret [D.bool ((yy2.getD 0 D.nil).toBool)])
 (.ret [D.bool false]))
 (.ret [D.bool false]):=by kernel_rfl
theorem VX(n:Nat)(a0 b1:D):Ai Tryz.prog md [] n 277 [] [a0,b1] =
 .call 229 [] [a0] fun yy1 =>
 .call 255 [] [b1] fun yy2 =>
 .call 254 [] [yy1.getD 0 D.nil,yy2.getD 0 D.nil] fun yy3 =>
 .call 229 [] [b1] fun yy4 =>
 .call 255 [] [a0] fun yy5 =>
 .call 254 [] [yy4.getD 0 D.nil,yy5.getD 0 D.nil] fun yy6 =>
 .call 313 [] [yy3.getD 0 D.nil,yy6.getD 0 D.nil] fun yy7 =>
 .call 255 [] [a0] fun yy8 =>
 .call 255 [] [b1] fun yy9 =>
 .call 254 [] [yy8.getD 0 D.nil,yy9.getD 0 D.nil] fun yy10 =>
 .call 305 [] [yy7.getD 0 D.nil,yy10.getD 0 D.nil] fun yy11 =>
 .ret [yy11.getD 0 D.nil,D.int ((yy11.getD 1 D.nil).toInt)]:=by kernel_rfl
theorem WG(n:Nat)(a0 b1:D):Ai Tryz.prog md [] n 278 [] [a0,b1] =
 .call 258 [] [b1] fun yy1 =>
 .call 277 [] [a0,yy1.getD 0 D.nil] fun yy2 =>
 .ret [yy2.getD 0 D.nil,D.int ((yy2.getD 1 D.nil).toInt)]:=by kernel_rfl
theorem WD(n:Nat)(a0 b1:D):Ai Tryz.prog md [] n 279 [] [a0,b1] =
 .call 229 [] [a0] fun yy1 =>
 .call 229 [] [b1] fun yy2 =>
 .call 254 [] [yy1.getD 0 D.nil,yy2.getD 0 D.nil] fun yy3 =>
 .call 255 [] [a0] fun yy4 =>
 .call 255 [] [b1] fun yy5 =>
 .call 254 [] [yy4.getD 0 D.nil,yy5.getD 0 D.nil] fun yy6 =>
 .call 305 [] [yy3.getD 0 D.nil,yy6.getD 0 D.nil] fun yy7 =>
 .ret [yy7.getD 0 D.nil,D.int ((yy7.getD 1 D.nil).toInt)]:=by kernel_rfl
theorem WC(n:Nat)(a0 b1:D):Ai Tryz.prog md [] n 280 [] [a0,b1] =
 .call 259 [] [a0] fun yy1 =>
 .br (((yy1.getD 0 D.nil).toInt)==0) (.call 304 [] [D.bool ((b1.fld 0).toBool),b1] fun yy2 =>
 .ret [yy2.getD 0 D.nil,D.int 0])
 (.call 260 [] [b1,a0] fun yy3 =>
 .br (((yy3.getD 1 D.nil).toInt)!=0) (.ret [D.agg [D.bool false,D.sl [],D.sl []],D.int ((yy3.getD 1 D.nil).toInt)])
 (.call 262 [] [yy3.getD 0 D.nil] fun yy4 =>
 .call 279 [] [a0,yy4.getD 0 D.nil] fun yy5 =>
 .br (((yy5.getD 1 D.nil).toInt)!=0) (.ret [D.agg [D.bool false,D.sl [],D.sl []],D.int ((yy5.getD 1 D.nil).toInt)])
 (.call 278 [] [b1,yy5.getD 0 D.nil] fun yy6 =>
 .ret [yy6.getD 0 D.nil,D.int ((yy6.getD 1 D.nil).toInt)]))):=by kernel_rfl
theorem WF(n:Nat)(a0 nn1:D):Ai Tryz.prog md [] n 281 [] [a0,nn1] =
 .call 229 [] [a0] fun yy1 =>
 .call 255 [] [a0] fun yy2 =>
 .br (decide (nn1.toInt<0)) (.call 301 [] [yy1.getD 0 D.nil] fun yy3 =>
 .br (((yy3.getD 0 D.nil).toInt)==0) (.ret [D.agg [D.bool false,D.sl [],D.sl []],D.int 3])
 (.br (nn1.toInt == (-9223372036854775808)) (.ret [D.agg [D.bool false,D.sl [],D.sl []],D.int 3])
 (.call 314 [] [yy2.getD 0 D.nil,D.int (IntKind.wrap .i64 (0-nn1.toInt))] fun yy4 =>
 .br (((yy4.getD 1 D.nil).toInt)!=0) (.ret [D.agg [D.bool false,D.sl [],D.sl []],D.int ((yy4.getD 1 D.nil).toInt)])
 (.call 314 [] [yy1.getD 0 D.nil,D.int (IntKind.wrap .i64 (0-nn1.toInt))] fun yy5 =>
 .br (((yy5.getD 1 D.nil).toInt)!=0) (.ret [D.agg [D.bool false,D.sl [],D.sl []],D.int ((yy5.getD 1 D.nil).toInt)])
 (.call 305 [] [yy4.getD 0 D.nil,yy5.getD 0 D.nil] fun yy6 =>
 .ret [yy6.getD 0 D.nil,D.int ((yy6.getD 1 D.nil).toInt)])))))
 (.call 314 [] [yy1.getD 0 D.nil,D.int nn1.toInt] fun yy7 =>
 .br (((yy7.getD 1 D.nil).toInt)!=0) (.ret [D.agg [D.bool false,D.sl [],D.sl []],D.int ((yy7.getD 1 D.nil).toInt)])
 (.call 314 [] [yy2.getD 0 D.nil,D.int nn1.toInt] fun yy8 =>
 .br (((yy8.getD 1 D.nil).toInt)!=0) (.ret [D.agg [D.bool false,D.sl [],D.sl []],D.int ((yy8.getD 1 D.nil).toInt)])
 (.call 305 [] [yy7.getD 0 D.nil,yy8.getD 0 D.nil] fun yy9 =>
 .ret [yy9.getD 0 D.nil,D.int ((yy9.getD 1 D.nil).toInt)]))):=by kernel_rfl
theorem WB(n:Nat)(a0 b1:D):Ai Tryz.prog md [] n 282 [] [a0,b1] =
 .call 283 [] [a0,b1] fun yy1 =>
 .br (((yy1.getD 1 D.nil).toInt)!=0) (.ret [D.agg [D.bool false,D.sl [],D.sl []],D.int ((yy1.getD 1 D.nil).toInt)])
 (.call 259 [] [yy1.getD 0 D.nil] fun yy2 =>
 .br (((yy2.getD 0 D.nil).toInt)==0) (.call 212 [] [D.int 0] fun yy3 =>
 .ret [yy3.getD 0 D.nil,D.int 0])
 (.call 260 [] [a0,yy1.getD 0 D.nil] fun yy4 =>
 .br (((yy4.getD 1 D.nil).toInt)!=0) (.ret [D.agg [D.bool false,D.sl [],D.sl []],D.int ((yy4.getD 1 D.nil).toInt)])
 (.call 279 [] [yy4.getD 0 D.nil,b1] fun yy5 =>
 .ret [yy5.getD 0 D.nil,D.int ((yy5.getD 1 D.nil).toInt)]))):=by kernel_rfl
theorem WA(n:Nat)(a0 b1:D):Ai Tryz.prog md [] n 283 [] [a0,b1] =
 .call 227 [] [a0.fld 2] fun yy1 =>
 .br (!((yy1.getD 0 D.nil).toBool)) (.ret [D.agg [D.bool false,D.sl [],D.sl []],D.int 3])
 (.call 227 [] [b1.fld 2] fun yy2 =>
 .br (!((yy2.getD 0 D.nil).toBool)) (.ret [D.agg [D.bool false,D.sl [],D.sl []],D.int 3])
 (.call 315 [] [a0.fld 1,b1.fld 1] fun yy3 =>
 .call 245 [] [D.agg [D.bool false,yy3.getD 0 D.nil]] fun yy4 =>
 .ret [yy4.getD 0 D.nil,D.int 0])):=by kernel_rfl
theorem JX(n:Nat)(neg0 a1:D):Ai Tryz.prog md [] n 304 [] [neg0,a1] =
 .call 299 [] [a1.fld 1] fun yy1 =>
 .call 299 [] [a1.fld 2] fun yy2 =>
 .br neg0.toBool (.ret [D.agg [D.bool (decide (0<(((yy1.getD 0 D.nil).els).length:Int))),D.sl ((yy1.getD 0 D.nil).els),D.sl ((yy2.getD 0 D.nil).els)]])
 (.ret [D.agg [D.bool false,D.sl ((yy1.getD 0 D.nil).els),D.sl ((yy2.getD 0 D.nil).els)]]):=by kernel_rfl
theorem QT(n:Nat)(p0 q1:D):Ai Tryz.prog md [] n 305 [] [p0,q1] =
 .call 299 [] [p0.fld 1] fun yy1 =>
 .call 299 [] [q1.fld 1] fun yy2 =>
 .br ((((yy2.getD 0 D.nil).els).length:Int)==0) (.ret [D.agg [D.bool false,D.sl [],D.sl []],D.int 3])
 (.call 227 [] [D.sl ((yy2.getD 0 D.nil).els)] fun yy3 =>
 .br (!((yy3.getD 0 D.nil).toBool)) (.call 315 [] [D.sl ((yy1.getD 0 D.nil).els),D.sl ((yy2.getD 0 D.nil).els)] fun yy4 =>
 .call 227 [] [yy4.getD 0 D.nil] fun yy5 =>
 .br (!((yy5.getD 0 D.nil).toBool)) (.call 323 [] [D.sl ((yy1.getD 0 D.nil).els),yy4.getD 0 D.nil] fun yy6 =>
 .call 323 [] [D.sl ((yy2.getD 0 D.nil).els),yy4.getD 0 D.nil] fun yy7 =>
 .br (decide (32<(((yy6.getD 0 D.nil).els).length:Int))) (.ret [D.agg [D.bool false,D.sl [],D.sl []],D.int 7])
 (.br (decide (32<(((yy7.getD 0 D.nil).els).length:Int))) (.ret [D.agg [D.bool false,D.sl [],D.sl []],D.int 7])
 (.br (decide (0<(((yy6.getD 0 D.nil).els).length:Int))) (.ret [D.agg [D.bool (!(((p0.fld 0).toBool)==((q1.fld 0).toBool))),yy6.getD 0 D.nil,yy7.getD 0 D.nil],D.int 0])
 (.ret [D.agg [D.bool false,yy6.getD 0 D.nil,yy7.getD 0 D.nil],D.int 0]))))
 (.br (decide (32<(((yy1.getD 0 D.nil).els).length:Int))) (.ret [D.agg [D.bool false,D.sl [],D.sl []],D.int 7])
 (.br (decide (32<(((yy2.getD 0 D.nil).els).length:Int))) (.ret [D.agg [D.bool false,D.sl [],D.sl []],D.int 7])
 (.br (decide (0<(((yy1.getD 0 D.nil).els).length:Int))) (.ret [D.agg [D.bool (!(((p0.fld 0).toBool)==((q1.fld 0).toBool))),D.sl ((yy1.getD 0 D.nil).els),D.sl ((yy2.getD 0 D.nil).els)],D.int 0])
 (.ret [D.agg [D.bool false,D.sl ((yy1.getD 0 D.nil).els),D.sl ((yy2.getD 0 D.nil).els)],D.int 0])))))
 (.br (decide (32<(((yy1.getD 0 D.nil).els).length:Int))) (.ret [D.agg [D.bool false,D.sl [],D.sl []],D.int 7])
 (.br (decide (32<(((yy2.getD 0 D.nil).els).length:Int))) (.ret [D.agg [D.bool false,D.sl [],D.sl []],D.int 7])
 (.br (decide (0<(((yy1.getD 0 D.nil).els).length:Int))) (.ret [D.agg [D.bool (!(((p0.fld 0).toBool)==((q1.fld 0).toBool))),D.sl ((yy1.getD 0 D.nil).els),D.sl ((yy2.getD 0 D.nil).els)],D.int 0])
 (.ret [D.agg [D.bool false,D.sl ((yy1.getD 0 D.nil).els),D.sl ((yy2.getD 0 D.nil).els)],D.int 0]))))):=by kernel_rfl
theorem Z5(n:Nat)(a0:D):Ai Tryz.prog md [] n 307 [] [a0] =
 .call 227 [] [a0.fld 2] fun yy1 =>
 .br (!((yy1.getD 0 D.nil).toBool)) (.ret [D.agg [D.bool false,D.sl []],D.bool false])
 (.call 229 [] [a0] fun yy2 =>
 .call 269 [] [yy2.getD 0 D.nil] fun yy3 =>
 .ret [yy3.getD 0 D.nil,D.bool true]):=by kernel_rfl
def Gd:List (Nat×Orc):=[(5,⟨[(0,some 23),(4,none),(5,none),(6,none)],[],[]⟩),(17,⟨[(0,some 23),(7,none),(8,none)],[],[]⟩)]
noncomputable def Ji(n m17:Nat)(s0:D)(nn7 i8:Int):Tree :=
 lA (eA Gd n 52 [1,1,1,1,1,1,1,0,1,0,0]) (Ao Gd 17) m17 ⟨(.d 23 s0::uA 6++(.i .i64 nn7:: .i .i64 i8::uA 47)),[],[],[],[]⟩
  (Ak 2 (Au (jA Gd n 52 [1,1,1,1,1,1,1,1]) (rA 52 [23] [.tmp 2,.tmp 3] [3,3])))
noncomputable def Fy(n m5:Nat)(s0:D)(big4 none5:Bool)(i6:Int):Tree :=
 lA (eA Gd n 52 [1,1,1,0,1,0,0]) (Ao Gd 5) m5 ⟨(.d 23 s0::uA 3++(.b big4:: .b none5:: .i .i64 i6::uA 49)),[],[],[],[]⟩
  (Ak 0 (Au (jA Gd n 52 [1,1,1,1]) (rA 52 [23] [.tmp 2,.tmp 3] [3,3])))
theorem Q6(n m17:Nat)(s0:D)(nn7 i8:Int):Ji n (m17+1) s0 nn7 i8 =
 .br (decide (i8<(s0.els.length:Int))) (.br (decide (0≤i8)) (.br (decide (i8<(s0.els.length:Int))) (.br (decide (2048<(IntKind.wrap .i64 (nn7*((s0.els.getD (Int.toNat i8) D.nil).toInt))))) (.ret [D.int 0,D.int 7])
 (Ji n m17 s0 (IntKind.wrap .i64 (nn7*((s0.els.getD (Int.toNat i8) D.nil).toInt))) (IntKind.wrap .i64 (i8+1)))) .fail) .fail)
 (.ret [D.int nn7,D.int 0]):=by kernel_rfl
theorem R6(n m5:Nat)(s0:D)(big4 none5:Bool)(i6:Int):Fy n (m5+1) s0 big4 none5 i6 =
 .br (decide (i6<(s0.els.length:Int))) (.br (decide (0≤i6)) (.br (decide (i6<(s0.els.length:Int))) (.br (decide (((s0.els.getD (Int.toNat i6) D.nil).toInt)<0)) (.ret [D.int 0,D.int 3])
 (.br big4 (.br none5 (Fy n m5 s0 true true (IntKind.wrap .i64 (i6+1)))
 (.br (decide (0≤i6)) (.br (decide (i6<(s0.els.length:Int))) (Fy n m5 s0 true (((s0.els.getD (Int.toNat i6) D.nil).toInt)==0) (IntKind.wrap .i64 (i6+1))) .fail) .fail))
 (.br (decide (0≤i6)) (.br (decide (i6<(s0.els.length:Int))) (.br none5 (Fy n m5 s0 (decide (2048<((s0.els.getD (Int.toNat i6) D.nil).toInt))) true (IntKind.wrap .i64 (i6+1)))
 (.br (decide (0≤i6)) (.br (decide (i6<(s0.els.length:Int))) (Fy n m5 s0 (decide (2048<((s0.els.getD (Int.toNat i6) D.nil).toInt))) (((s0.els.getD (Int.toNat i6) D.nil).toInt)==0) (IntKind.wrap .i64 (i6+1))) .fail) .fail)) .fail) .fail))) .fail) .fail)
 (.br big4 (.ret [D.int 0,D.int 7])
 (.br none5 (.ret [D.int 0,D.int 0])
 (Ji n n s0 1 0))):=by kernel_rfl
theorem NU(n:Nat)(s0:D):Ai Tryz.prog md Gd n 52 [] [s0] =
 .br (decide (6<(s0.els.length:Int))) (.ret [D.int 0,D.int 7])
 (Fy n n s0 false false 0):=by kernel_rfl
def Nd:List (Nat×Orc):=[(4,⟨[(0,some 23),(1,some 23),(5,none)],[],[]⟩)]
noncomputable def O_(n m4:Nat)(a0 b1:D)(i5:Int):Tree :=
 lA (eA Nd n 54 [1,1,0,1,0,0]) (Ao Nd 4) m4 ⟨(.d 23 a0:: .d 23 b1::uA 3++(.i .i64 i5::uA 20)),[],[],[],[]⟩
  (Ak 0 (Au (jA Nd n 54 [1,1,1]) (rA 54 [23,23] [.tmp 4] [4])))
theorem GE(n m4:Nat)(a0 b1:D)(i5:Int):O_ n (m4+1) a0 b1 i5 =
 .br (decide (i5<(a0.els.length:Int))) (.br (decide (0≤i5)) (.br (decide (i5<(a0.els.length:Int))) (.br (decide (0≤i5)) (.br (decide (i5<(b1.els.length:Int))) (.br (((a0.els.getD (Int.toNat i5) D.nil).toInt)!=((b1.els.getD (Int.toNat i5) D.nil).toInt)) (.ret [D.bool false])
 (O_ n m4 a0 b1 (IntKind.wrap .i64 (i5+1)))) .fail) .fail) .fail) .fail)
 (.ret [D.bool true]):=by kernel_rfl
theorem RG(n:Nat)(a0 b1:D):Ai Tryz.prog md Nd n 54 [] [a0,b1] =
 .br ((a0.els.length:Int)!=(b1.els.length:Int)) (.ret [D.bool false])
 (O_ n n a0 b1 0):=by kernel_rfl
theorem S4(n:Nat)(s0 v1:D):Ai Tryz.prog md [] n 74 [] [s0,v1] =
 .call 160 [] [s0,D.int v1.toInt] fun yy1 =>
 .ret [D.bool (decide (0≤((yy1.getD 0 D.nil).toInt)))]:=by kernel_rfl
theorem OD(n:Nat)(s0:D):Ai Tryz.prog md [] n 81 [] [s0] =
 .br (decide (6<(s0.els.length:Int))) (.ret [D.int 0,D.int 7])
 (.call 167 [] [s0,D.fn 168 [] []] fun yy1 =>
 .br ((yy1.getD 0 D.nil).toBool) (.ret [D.int 0,D.int 3])
 (.call 167 [] [s0,D.fn 169 [] []] fun yy2 =>
 .br ((yy2.getD 0 D.nil).toBool) (.ret [D.int 0,D.int 7])
 (.call 74 [] [s0,D.int 0] fun yy3 =>
 .br ((yy3.getD 0 D.nil).toBool) (.ret [D.int 0,D.int 0])
 (.call 170 [] [s0] fun yy4 =>
 .br (((yy4.getD 0 D.nil).toInt)==0) (.ret [D.int 0,D.int 7])
 (.ret [D.int ((yy4.getD 0 D.nil).toInt),D.int 0]))))):=by kernel_rfl
theorem Ly(n:Nat)(s0:D):Ai Tryz.prog md [] n 96 [] [s0] =
 .amb s0.els.isEmpty (.ret [D.sl []])
 (.br (decide (([]:List D).length+s0.els.length≤Ar)) (.ret [D.sl ([]++s0.els)]) .fail):=by kernel_rfl
theorem Nm(n:Nat)(s0:D):Ai Tryz.prog md [] n 139 [] [s0] =
 .amb s0.els.isEmpty (.ret [D.sl []])
 (.br (decide (([]:List D).length+s0.els.length≤Ar)) (.ret [D.sl ([]++s0.els)]) .fail):=by kernel_rfl
theorem KI(n:Nat)(s0 axis1:D):Ai Tryz.prog md [] n 140 [] [s0,axis1] =
 .call 81 [] [s0] fun yy1 =>
 .br (((yy1.getD 1 D.nil).toInt)!=0) (.ret [D.int 0,D.int 0,D.int 0,D.bool false])
 (.br (decide (axis1.toInt<0)) (.ret [D.int 0,D.int 0,D.int 0,D.bool false])
 (.br (decide ((s0.els.length:Int)≤axis1.toInt)) (.ret [D.int 0,D.int 0,D.int 0,D.bool false])
 (.br (decide (0≤axis1.toInt)) (.br (decide (axis1.toInt≤(s0.els.length:Int))) (.call 170 [] [D.sl (s0.els.take (Int.toNat axis1.toInt))] fun yy2 =>
 .br (decide (0≤axis1.toInt)) (.br (decide (axis1.toInt<(s0.els.length:Int))) (.br (decide (0≤IntKind.wrap .i64 (axis1.toInt+1))) (.br (decide (IntKind.wrap .i64 (axis1.toInt+1)≤(s0.els.length:Int))) (.call 170 [] [D.sl (s0.els.drop (Int.toNat (IntKind.wrap .i64 (axis1.toInt+1))))] fun yy3 =>
 .ret [D.int ((yy2.getD 0 D.nil).toInt),D.int ((s0.els.getD (Int.toNat axis1.toInt) D.nil).toInt),D.int ((yy3.getD 0 D.nil).toInt),D.bool true]) .fail) .fail) .fail) .fail) .fail) .fail))):=by kernel_rfl
def Hl:List (Nat×Orc):=[(1,⟨[(0,none),(2,none),(3,none)],[],[(.slot 0,0,3)]⟩)]
noncomputable def F3(n m1:Nat)(s0:List D)(i2 j3:Int):Tree :=
 lA (eA Hl n 144 [1,0,0]) (Ao Hl 1) m1 ⟨(.row 0:: .undef:: .i .i64 i2:: .i .i64 j3::uA 24),[(0,.row 3 s0 true)],[0],[],[0]⟩
  (Ak 0 (rA 144 [23] [] []))
theorem Rg(n m1:Nat)(s0:List D)(i2 j3:Int):F3 n (m1+1) s0 i2 j3 =
 .br (decide (i2<j3)) (.br (decide (0≤j3)) (.br (decide (j3<(s0.length:Int))) (.br (decide (0≤i2)) (.br (decide (i2<(s0.length:Int))) (.br (decide (0≤i2)) (.br (decide (i2<(s0.length:Int))) (.br (decide (0≤j3)) (.br (decide (j3<((s0.set (Int.toNat i2) (D.int ((s0.getD (Int.toNat j3) D.nil).toInt))).length:Int))) (F3 n m1 ((s0.set (Int.toNat i2) (D.int ((s0.getD (Int.toNat j3) D.nil).toInt))).set (Int.toNat j3) (D.int ((s0.getD (Int.toNat i2) D.nil).toInt))) (IntKind.wrap .i64 (i2+1)) (IntKind.wrap .i64 (j3-1))) .fail) .fail) .fail) .fail) .fail) .fail) .fail) .fail)
 (.ret [D.sl s0]):=by kernel_rfl
theorem U5(n:Nat)(s0:D):Ai Tryz.prog md Hl n 144 [] [s0] =
 F3 n n s0.els 0 (IntKind.wrap .i64 ((s0.els.length:Int)-1)):=by kernel_rfl
theorem Im(n:Nat)(x0 cmp1_c0 cmp1_c1:D):Ai Tryz.prog md [] n 155 [] [x0,(D.fn 156 [.ref 4,.ref 26] [cmp1_c0,cmp1_c1])] =
 .call 217 [] [D.sl x0.els,D.int (x0.els.length:Int),(D.fn 156 [.ref 4,.ref 26] [cmp1_c0,cmp1_c1])] fun yy1 =>
 .ret [D.sl ((yy1.getD 0 D.nil).els)]:=by kernel_rfl
def Gg:List (Nat×Orc):=[(2,⟨[(0,some 23),(1,none),(7,none),(8,none)],[],[]⟩)]
noncomputable def Gk(n m2:Nat)(s0:D)(v1 t7 t8:Int):Tree :=
 lA (eA Gg n 160 [1,0,1,0,0]) (Ao Gg 2) m2 ⟨(.d 23 s0:: .i .i64 v1::uA 5++(.i .i64 t7:: .i .i64 t8::uA 10)),[],[],[],[]⟩
  (Ak 0 (Au (jA Gg n 160 [1,1]) (rA 160 [23,3] [.tmp 4] [3])))
theorem Kk(n m2:Nat)(s0:D)(v1 t7 t8:Int):Gk n (m2+1) s0 v1 t7 t8 =
 .br (decide (t8<t7)) (.br (decide (0≤t8)) (.br (decide (t8<(s0.els.length:Int))) (.br (v1 == ((s0.els.getD (Int.toNat t8) D.nil).toInt)) (.ret [D.int t8])
 (Gk n m2 s0 v1 t7 (IntKind.wrap .i64 (t8+1)))) .fail) .fail)
 (.ret [D.int (-1)]):=by kernel_rfl
theorem V_(n:Nat)(s0 v1:D):Ai Tryz.prog md Gg n 160 [] [s0,v1] =
 Gk n n s0 v1.toInt (s0.els.length:Int) 0:=by kernel_rfl
theorem Iw(n:Nat)(s0:D):Ai Tryz.prog md [] n 167 [] [s0,(D.fn 168 [] [])] =
 .call 230 [] [s0,(D.fn 168 [] [])] fun yy1 =>
 .ret [D.bool (decide (0≤((yy1.getD 0 D.nil).toInt)))]:=by kernel_rfl
theorem Ix(n:Nat)(s0:D):Ai Tryz.prog md [] n 167 [] [s0,(D.fn 169 [] [])] =
 .call 230 [] [s0,(D.fn 169 [] [])] fun yy1 =>
 .ret [D.bool (decide (0≤((yy1.getD 0 D.nil).toInt)))]:=by kernel_rfl
theorem H5(n:Nat)(s0:D):Ai Tryz.prog md [] n 167 [] [s0,(D.fn 188 [] [])] =
 .call 230 [] [s0,(D.fn 188 [] [])] fun yy1 =>
 .ret [D.bool (decide (0≤((yy1.getD 0 D.nil).toInt)))]:=by kernel_rfl
theorem GV(n:Nat)(nn0:D):Ai Tryz.prog md [] n 168 [] [nn0] =
 .ret [D.bool (decide (nn0.toInt<0))]:=by kernel_rfl
theorem GW(n:Nat)(nn0:D):Ai Tryz.prog md [] n 169 [] [nn0] =
 .ret [D.bool (decide (2048<nn0.toInt))]:=by kernel_rfl
def J3:List (Nat×Orc):=[(3,⟨[(3,none),(6,some 23),(7,none),(8,none)],[],[]⟩)]
noncomputable def Il(n m3:Nat)(out3:Int)(t6:D)(t7 t8:Int):Tree :=
 lA (eA J3 n 170 [1,1,0,1,0,0]) (Ao J3 3) m3 ⟨(uA 3++(.i .i64 out3:: .undef:: .undef:: .d 23 t6:: .i .i64 t7:: .i .i64 t8::uA 10)),[],[],[],[]⟩
  (Ak 0 (Au (jA J3 n 170 [1,1,1]) (rA 170 [23] [.tmp 2] [3])))
theorem Hc(n m3:Nat)(out3:Int)(t6:D)(t7 t8:Int):Il n (m3+1) out3 t6 t7 t8 =
 .br (decide (t8<t7)) (.br (decide (0≤t8)) (.br (decide (t8<(t6.els.length:Int))) (.br (decide (2048<(IntKind.wrap .i64 (out3*((t6.els.getD (Int.toNat t8) D.nil).toInt))))) (.ret [D.int 0])
 (Il n m3 (IntKind.wrap .i64 (out3*((t6.els.getD (Int.toNat t8) D.nil).toInt))) t6 t7 (IntKind.wrap .i64 (t8+1)))) .fail) .fail)
 (.ret [D.int out3]):=by kernel_rfl
theorem U2(n:Nat)(s0:D):Ai Tryz.prog md J3 n 170 [] [s0] =
 Il n n 1 s0 (s0.els.length:Int) 0:=by kernel_rfl
theorem SJ(n:Nat)(s0 axis1 nn2:D):Ai Tryz.prog md [] n 173 [] [s0,axis1,nn2] =
 .br (decide (axis1.toInt<0)) (.ret [D.sl [],D.bool false])
 (.br (decide ((s0.els.length:Int)≤axis1.toInt)) (.ret [D.sl [],D.bool false])
 (.call 96 [] [s0] fun yy1 =>
 .br (decide (0≤axis1.toInt)) (.br (decide (axis1.toInt<(((yy1.getD 0 D.nil).els).length:Int))) (.ret [D.sl (((yy1.getD 0 D.nil).els).set (Int.toNat axis1.toInt) (D.int nn2.toInt)),D.bool true]) .fail) .fail)):=by kernel_rfl
def Rf:List (Nat×Orc):=[(6,⟨[(0,some 23),(1,none),(8,none),(9,none)],[],[(.slot 8,1060,3)]⟩)]
noncomputable def Tq(n m6:Nat)(s0:D)(nn1:Int)(out8:List D)(i9:Int):Tree :=
 lA (eA Rf n 175 [1,1,1,1,0,1,0,0]) (Ao Rf 6) m6 ⟨(.d 23 s0:: .i .i64 nn1::uA 6++(.row 1060:: .i .i64 i9::uA 42)),[(1060,.row 3 out8 true)],[1060],[],[]⟩
  (Ak 0 (Au (jA Rf n 175 [1,1,1,1,1]) (rA 175 [23,3] [.tmp 4,.tmp 5] [23,4])))
theorem Xp(n m6:Nat)(s0:D)(nn1:Int)(out8:List D)(i9:Int):Tq n (m6+1) s0 nn1 out8 i9 =
 .br (decide (0≤i9)) (.br (decide (0≤i9)) (.br (decide (i9<(s0.els.length:Int))) (.br (!(((s0.els.getD (Int.toNat i9) D.nil).toInt)==(0:Int))) (.br (decide (0≤i9)) (.br (decide (i9<(out8.length:Int))) (.br (decide (0≤i9)) (.br (decide (i9<(s0.els.length:Int))) (.br (!(((s0.els.getD (Int.toNat i9) D.nil).toInt)==(0:Int))) (Tq n m6 s0 (IntKind.wrap .i64 (Int.tdiv nn1 ((s0.els.getD (Int.toNat i9) D.nil).toInt))) (out8.set (Int.toNat i9) (D.int (Int.tmod nn1 ((s0.els.getD (Int.toNat i9) D.nil).toInt)))) (IntKind.wrap .i64 (i9-1))) .fail) .fail) .fail) .fail) .fail) .fail) .fail) .fail)
 (.ret [D.sl out8,D.bool true]):=by kernel_rfl
theorem Aa6(n:Nat)(s0 nn1:D):Ai Tryz.prog md Rf n 175 [] [s0,nn1] =
 .call 81 [] [s0] fun yy1 =>
 .br (((yy1.getD 1 D.nil).toInt)!=0) (.ret [D.sl [],D.bool false])
 (.br (decide (nn1.toInt<0)) (.ret [D.sl [],D.bool false])
 (.br (decide (((yy1.getD 0 D.nil).toInt)≤nn1.toInt)) (.ret [D.sl [],D.bool false])
 (.br (decide (0≤(s0.els.length:Int))) (.br (decide ((s0.els.length:Int)≤(s0.els.length:Int))) (.br (decide ((s0.els.length:Int)≤Ar)) (Tq n n s0 nn1.toInt (List.replicate (Int.toNat (s0.els.length:Int)) (D.int 0)) (IntKind.wrap .i64 ((s0.els.length:Int)-1))) .fail) .fail) .fail))):=by kernel_rfl
def Lx:List (Nat×Orc):=[(6,⟨[(1,some 23),(8,none),(25,some 23),(26,none),(27,none)],[],[]⟩)]
noncomputable def Nl(n m6:Nat)(at1:D)(out8:Int)(t25:D)(t26 t27:Int):Tree :=
 lA (eA Lx n 176 [1,1,1,0,1,0,0]) (Ao Lx 6) m6 ⟨(.undef:: .d 23 at1::uA 6++(.i .i64 out8::uA 16++(.d 23 t25:: .i .i64 t26:: .i .i64 t27::uA 27))),[],[],[],[]⟩
  (Ak 0 (Au (jA Lx n 176 [1,1,1,1]) (rA 176 [23,23] [.tmp 4,.tmp 5] [3,4])))
theorem Sa(n m6:Nat)(at1:D)(out8:Int)(t25:D)(t26 t27:Int):Nl n (m6+1) at1 out8 t25 t26 t27 =
 .br (decide (t27<t26)) (.br (decide (0≤t27)) (.br (decide (t27<(t25.els.length:Int))) (.br (decide (0≤t27)) (.br (decide (t27<(at1.els.length:Int))) (.br (decide (((at1.els.getD (Int.toNat t27) D.nil).toInt)<0)) (.ret [D.int 0,D.bool false])
 (.br (decide (0≤t27)) (.br (decide (t27<(at1.els.length:Int))) (.br (decide (((t25.els.getD (Int.toNat t27) D.nil).toInt)≤((at1.els.getD (Int.toNat t27) D.nil).toInt))) (.ret [D.int 0,D.bool false])
 (.br (decide (0≤t27)) (.br (decide (t27<(at1.els.length:Int))) (Nl n m6 at1 (IntKind.wrap .i64 ((IntKind.wrap .i64 (out8*((t25.els.getD (Int.toNat t27) D.nil).toInt)))+((at1.els.getD (Int.toNat t27) D.nil).toInt))) t25 t26 (IntKind.wrap .i64 (t27+1))) .fail) .fail)) .fail) .fail)) .fail) .fail) .fail) .fail)
 (.ret [D.int out8,D.bool true]):=by kernel_rfl
theorem OE(n:Nat)(s0 at1:D):Ai Tryz.prog md Lx n 176 [] [s0,at1] =
 .call 81 [] [s0] fun yy1 =>
 .br (((yy1.getD 1 D.nil).toInt)!=0) (.ret [D.int 0,D.bool false])
 (.br ((at1.els.length:Int)!=(s0.els.length:Int)) (.ret [D.int 0,D.bool false])
 (Nl n n at1 0 s0 (s0.els.length:Int) 0)):=by kernel_rfl
def Bi:List (Nat×Orc):=[(2,⟨[(0,none),(1,none),(2,some 107),(6,none),(7,none),(8,none)],[],[(.slot 0,0,3)]⟩),(7,⟨[(0,none),(1,none),(2,some 107),(6,none)],[],[(.slot 0,0,3)]⟩),(9,⟨[(0,none),(1,none),(2,some 107),(6,none),(7,none),(8,none)],[],[(.slot 0,0,3)]⟩)]
def Fn:List Nat:=[23,3,107]
noncomputable def Fm(n m7 m9:Nat)(data0:List D)(nn1:Int)(cmp2:D)(blockSize6 a7 b8:Int):Tree :=
 lA (eA Bi n 217 [1,1,1,1,0,0,1,0,1,0,0,0]) (Ao Bi 9) m9 ⟨(.row 0:: .i .i64 nn1:: .d 107 cmp2::uA 3++(.i .i64 blockSize6:: .i .i64 a7:: .i .i64 b8::uA 54)),[(0,.row 3 data0 true)],[0],[],[0]⟩
  (Ak 4 (Au (jA Bi n 217 [1,1,1,1,0,0,1,0,1,1]) (Ak 3 (J0 Tryz.prog md (Ao Bi 7) (fun s1=>lA (eA Bi n 217 [1,1,1,1,0,0]) (Ao Bi 7) m7 s1 (Ak 2 (rA 217 Fn [] []))) (Ak 2 (rA 217 Fn [] []))))))
noncomputable def Di(n m7:Nat)(data0:List D)(nn1:Int)(cmp2:D)(blockSize6:Int):Tree :=
 lA (eA Bi n 217 [1,1,1,1,0,0]) (Ao Bi 7) m7 ⟨(.row 0:: .i .i64 nn1:: .d 107 cmp2::uA 3++(.i .i64 blockSize6::uA 56)),[(0,.row 3 data0 true)],[0],[],[0]⟩
  (Ak 2 (rA 217 Fn [] []))
noncomputable def Fl(n m2:Nat)(data0:List D)(nn1:Int)(cmp2:D)(blockSize6 a7 b8:Int):Tree :=
 lA (eA Bi n 217 [1,1,0,0,0]) (Ao Bi 2) m2 ⟨(.row 0:: .i .i64 nn1:: .d 107 cmp2::uA 3++(.i .i64 blockSize6:: .i .i64 a7:: .i .i64 b8::uA 54)),[(0,.row 3 data0 true)],[0],[],[0]⟩
  (Ak 0 (Au (jA Bi n 217 [1,1,1]) (rA 217 Fn [] [])))
theorem I2(n m7 m9:Nat)(data0:List D)(nn1:Int)(cmp2_c0 cmp2_c1:D)(blockSize6 a7 b8:Int):Fm n m7 (m9+1) data0 nn1 (D.fn 156 [.ref 4,.ref 26] [cmp2_c0,cmp2_c1]) blockSize6 a7 b8 =
 .br (decide (b8≤nn1)) (.call 251 [] [D.sl data0,D.int a7,D.int (IntKind.wrap .i64 (a7+blockSize6)),D.int b8,(D.fn 156 [.ref 4,.ref 26] [cmp2_c0,cmp2_c1])] fun yy3 =>
 Fm n m7 m9 ((yy3.getD 0 D.nil).els) nn1 (D.fn 156 [.ref 4,.ref 26] [cmp2_c0,cmp2_c1]) blockSize6 b8 (IntKind.wrap .i64 (b8+(IntKind.wrap .i64 (2*blockSize6)))))
 (.br (decide ((IntKind.wrap .i64 (a7+blockSize6))<nn1)) (.call 251 [] [D.sl data0,D.int a7,D.int (IntKind.wrap .i64 (a7+blockSize6)),D.int nn1,(D.fn 156 [.ref 4,.ref 26] [cmp2_c0,cmp2_c1])] fun yy4 =>
 Di n m7 ((yy4.getD 0 D.nil).els) nn1 (D.fn 156 [.ref 4,.ref 26] [cmp2_c0,cmp2_c1]) (IntKind.wrap .i64 (blockSize6*2)))
 (Di n m7 data0 nn1 (D.fn 156 [.ref 4,.ref 26] [cmp2_c0,cmp2_c1]) (IntKind.wrap .i64 (blockSize6*2)))):=by kernel_rfl
theorem I1(n m7:Nat)(data0:List D)(nn1:Int)(cmp2_c0 cmp2_c1:D)(blockSize6:Int):Di n (m7+1) data0 nn1 (D.fn 156 [.ref 4,.ref 26] [cmp2_c0,cmp2_c1]) blockSize6 =
 .br (decide (blockSize6<nn1)) (Fm n m7 n data0 nn1 (D.fn 156 [.ref 4,.ref 26] [cmp2_c0,cmp2_c1]) blockSize6 0 (IntKind.wrap .i64 (2*blockSize6)))
 (.ret [D.sl data0]):=by kernel_rfl
theorem I0(n m2:Nat)(data0:List D)(nn1:Int)(cmp2_c0 cmp2_c1:D)(blockSize6 a7 b8:Int):Fl n (m2+1) data0 nn1 (D.fn 156 [.ref 4,.ref 26] [cmp2_c0,cmp2_c1]) blockSize6 a7 b8 =
 .br (decide (b8≤nn1)) (.call 250 [] [D.sl data0,D.int a7,D.int b8,(D.fn 156 [.ref 4,.ref 26] [cmp2_c0,cmp2_c1])] fun yy1 =>
 Fl n m2 ((yy1.getD 0 D.nil).els) nn1 (D.fn 156 [.ref 4,.ref 26] [cmp2_c0,cmp2_c1]) blockSize6 b8 (IntKind.wrap .i64 (b8+blockSize6)))
 (.call 250 [] [D.sl data0,D.int a7,D.int nn1,(D.fn 156 [.ref 4,.ref 26] [cmp2_c0,cmp2_c1])] fun yy2 =>
 Di n n ((yy2.getD 0 D.nil).els) nn1 (D.fn 156 [.ref 4,.ref 26] [cmp2_c0,cmp2_c1]) blockSize6):=by kernel_rfl
theorem Jw(n:Nat)(data0 nn1:D)(cmp2_c0 cmp2_c1:D):Ai Tryz.prog md Bi n 217 [] [data0,nn1,(D.fn 156 [.ref 4,.ref 26] [cmp2_c0,cmp2_c1])] =
 Fl n n data0.els nn1.toInt (D.fn 156 [.ref 4,.ref 26] [cmp2_c0,cmp2_c1]) 20 0 20:=by kernel_rfl
def C_:List (Nat×Orc):=[(2,⟨[(0,some 23),(1,some 119),(7,none),(8,none)],[],[]⟩)]
noncomputable def Bm(n m2:Nat)(s0 f1:D)(t7 t8:Int):Tree :=
 lA (eA C_ n 230 [1,0,1,0,0]) (Ao C_ 2) m2 ⟨(.d 23 s0:: .d 119 f1::uA 5++(.i .i64 t7:: .i .i64 t8::uA 10)),[],[],[],[]⟩
  (Ak 0 (Au (jA C_ n 230 [1,1]) (rA 230 [23,119] [.tmp 4] [3])))
theorem Ff(n m2:Nat)(s0:D)(t7 t8:Int):Bm n (m2+1) s0 (D.fn 168 [] []) t7 t8 =
 .br (decide (t8<t7)) (.br (decide (0≤t8)) (.br (decide (t8<(s0.els.length:Int))) (.call (D.fn 168 [] []).fnId (D.fn 168 [] []).fnCts ([D.int ((s0.els.getD (Int.toNat t8) D.nil).toInt)]++(D.fn 168 [] []).fnDs) fun yy1 =>
 .br ((yy1.getD 0 D.nil).toBool) (.ret [D.int t8])
 (Bm n m2 s0 (D.fn 168 [] []) t7 (IntKind.wrap .i64 (t8+1)))) .fail) .fail)
 (.ret [D.int (-1)]):=by kernel_rfl
theorem Fg(n m2:Nat)(s0:D)(t7 t8:Int):Bm n (m2+1) s0 (D.fn 169 [] []) t7 t8 =
 .br (decide (t8<t7)) (.br (decide (0≤t8)) (.br (decide (t8<(s0.els.length:Int))) (.call (D.fn 169 [] []).fnId (D.fn 169 [] []).fnCts ([D.int ((s0.els.getD (Int.toNat t8) D.nil).toInt)]++(D.fn 169 [] []).fnDs) fun yy1 =>
 .br ((yy1.getD 0 D.nil).toBool) (.ret [D.int t8])
 (Bm n m2 s0 (D.fn 169 [] []) t7 (IntKind.wrap .i64 (t8+1)))) .fail) .fail)
 (.ret [D.int (-1)]):=by kernel_rfl
theorem Et(n m2:Nat)(s0:D)(t7 t8:Int):Bm n (m2+1) s0 (D.fn 188 [] []) t7 t8 =
 .br (decide (t8<t7)) (.br (decide (0≤t8)) (.br (decide (t8<(s0.els.length:Int))) (.call (D.fn 188 [] []).fnId (D.fn 188 [] []).fnCts ([D.int ((s0.els.getD (Int.toNat t8) D.nil).toInt)]++(D.fn 188 [] []).fnDs) fun yy1 =>
 .br ((yy1.getD 0 D.nil).toBool) (.ret [D.int t8])
 (Bm n m2 s0 (D.fn 188 [] []) t7 (IntKind.wrap .i64 (t8+1)))) .fail) .fail)
 (.ret [D.int (-1)]):=by kernel_rfl
theorem Jt(n:Nat)(s0:D):Ai Tryz.prog md C_ n 230 [] [s0,(D.fn 168 [] [])] =
 Bm n n s0 (D.fn 168 [] []) (s0.els.length:Int) 0:=by kernel_rfl
theorem Ju(n:Nat)(s0:D):Ai Tryz.prog md C_ n 230 [] [s0,(D.fn 169 [] [])] =
 Bm n n s0 (D.fn 169 [] []) (s0.els.length:Int) 0:=by kernel_rfl
theorem Iy(n:Nat)(s0:D):Ai Tryz.prog md C_ n 230 [] [s0,(D.fn 188 [] [])] =
 Bm n n s0 (D.fn 188 [] []) (s0.els.length:Int) 0:=by kernel_rfl
def Gf:List (Nat×Orc):=[(4,⟨[(0,some 23),(1,some 23),(12,none),(13,none)],[],[]⟩)]
noncomputable def Gj(n m4:Nat)(s10 s21:D)(t12 t13:Int):Tree :=
 lA (eA Gf n 234 [1,1,0,1,0,0]) (Ao Gf 4) m4 ⟨(.d 23 s10:: .d 23 s21::uA 10++(.i .i64 t12:: .i .i64 t13::uA 12)),[],[],[],[]⟩
  (Ak 0 (Au (jA Gf n 234 [1,1,1]) (rA 234 [23,23] [.tmp 4] [4])))
theorem S5(n m4:Nat)(s10 s21:D)(t12 t13:Int):Gj n (m4+1) s10 s21 t12 t13 =
 .br (decide (t13<t12)) (.br (decide (0≤t13)) (.br (decide (t13<(s10.els.length:Int))) (.br (decide (0≤t13)) (.br (decide (t13<(s21.els.length:Int))) (.br (((s10.els.getD (Int.toNat t13) D.nil).toInt)!=((s21.els.getD (Int.toNat t13) D.nil).toInt)) (.ret [D.bool false])
 (Gj n m4 s10 s21 t12 (IntKind.wrap .i64 (t13+1)))) .fail) .fail) .fail) .fail)
 (.ret [D.bool true]):=by kernel_rfl
theorem V9(n:Nat)(s10 s21:D):Ai Tryz.prog md Gf n 234 [] [s10,s21] =
 .br ((s10.els.length:Int)!=(s21.els.length:Int)) (.ret [D.bool false])
 (Gj n n s10 s21 (s10.els.length:Int) 0):=by kernel_rfl
theorem P1(n:Nat)(s0:D):Ai Tryz.prog md [] n 247 [] [s0] =
 .amb s0.els.isEmpty (.ret [D.sl []])
 (.br (decide (([]:List D).length+s0.els.length≤Ar)) (.ret [D.sl ([]++s0.els)]) .fail):=by kernel_rfl
theorem L5(n:Nat)(s0:D):Ai Tryz.prog md [] n 248 [] [s0] =
 .amb s0.els.isEmpty (.ret [D.sl []])
 (.br (decide (([]:List D).length+s0.els.length≤Ar)) (.ret [D.sl ([]++s0.els)]) .fail):=by kernel_rfl
def Bn:List (Nat×Orc):=[(1,⟨[(0,none),(1,none),(2,none),(3,some 107),(8,none)],[],[(.slot 0,0,3)]⟩),(4,⟨[(0,none),(1,none),(2,none),(3,some 107),(8,none),(9,none)],[],[(.slot 0,0,3)]⟩)]
def Fi:List Nat:=[23,3,3,107]
noncomputable def Dw(n m1 m4:Nat)(data0:List D)(a1 b2:Int)(cmp3:D)(i8 j9:Int):Tree :=
 lA (eA Bn n 250 [1,0,0,1,0,0,1,0,0]) (Ao Bn 4) m4 ⟨(.row 0:: .i .i64 a1:: .i .i64 b2:: .d 107 cmp3::uA 4++(.i .i64 i8:: .i .i64 j9::uA 43)),[(0,.row 3 data0 true)],[0],[],[0]⟩
  (Ak 2 (Ak 1 (Au (jA Bn n 250 [1,0,0,1,1]) (J0 Tryz.prog md (Ao Bn 1) (fun s1=>lA (eA Bn n 250 [1,0,0]) (Ao Bn 1) m1 s1 (Ak 0 (rA 250 Fi [] []))) (Ak 0 (rA 250 Fi [] []))))))
noncomputable def Cn(n m1:Nat)(data0:List D)(a1 b2:Int)(cmp3:D)(i8:Int):Tree :=
 lA (eA Bn n 250 [1,0,0]) (Ao Bn 1) m1 ⟨(.row 0:: .i .i64 a1:: .i .i64 b2:: .d 107 cmp3::uA 4++(.i .i64 i8::uA 44)),[(0,.row 3 data0 true)],[0],[],[0]⟩
  (Ak 0 (rA 250 Fi [] []))
theorem Ed(n m1 m4:Nat)(data0:List D)(a1 b2:Int)(cmp3_c0 cmp3_c1:D)(i8 j9:Int):Dw n m1 (m4+1) data0 a1 b2 (D.fn 156 [.ref 4,.ref 26] [cmp3_c0,cmp3_c1]) i8 j9 =
 .br (decide (a1<j9)) (.br (decide (0≤j9)) (.br (decide (j9<(data0.length:Int))) (.br (decide (0≤IntKind.wrap .i64 (j9-1))) (.br (decide (IntKind.wrap .i64 (j9-1)<(data0.length:Int))) (.call (D.fn 156 [.ref 4,.ref 26] [cmp3_c0,cmp3_c1]).fnId (D.fn 156 [.ref 4,.ref 26] [cmp3_c0,cmp3_c1]).fnCts ([D.int ((data0.getD (Int.toNat j9) D.nil).toInt),D.int ((data0.getD (Int.toNat (IntKind.wrap .i64 (j9-1))) D.nil).toInt)]++(D.fn 156 [.ref 4,.ref 26] [cmp3_c0,cmp3_c1]).fnDs) fun yy1 =>
 .br (decide (((yy1.getD 0 D.nil).toInt)<0)) (.br (decide (0≤IntKind.wrap .i64 (j9-1))) (.br (decide (IntKind.wrap .i64 (j9-1)<(data0.length:Int))) (.br (decide (0≤j9)) (.br (decide (j9<(data0.length:Int))) (.br (decide (0≤j9)) (.br (decide (j9<(data0.length:Int))) (.br (decide (0≤IntKind.wrap .i64 (j9-1))) (.br (decide (IntKind.wrap .i64 (j9-1)<((data0.set (Int.toNat j9) (D.int ((data0.getD (Int.toNat (IntKind.wrap .i64 (j9-1))) D.nil).toInt))).length:Int))) (Dw n m1 m4 ((data0.set (Int.toNat j9) (D.int ((data0.getD (Int.toNat (IntKind.wrap .i64 (j9-1))) D.nil).toInt))).set (Int.toNat (IntKind.wrap .i64 (j9-1))) (D.int ((data0.getD (Int.toNat j9) D.nil).toInt))) a1 b2 (D.fn 156 [.ref 4,.ref 26] [cmp3_c0,cmp3_c1]) i8 (IntKind.wrap .i64 (j9-1))) .fail) .fail) .fail) .fail) .fail) .fail) .fail) .fail)
 (Cn n m1 data0 a1 b2 (D.fn 156 [.ref 4,.ref 26] [cmp3_c0,cmp3_c1]) (IntKind.wrap .i64 (i8+1)))) .fail) .fail) .fail) .fail)
 (Cn n m1 data0 a1 b2 (D.fn 156 [.ref 4,.ref 26] [cmp3_c0,cmp3_c1]) (IntKind.wrap .i64 (i8+1))):=by kernel_rfl
theorem Ec(n m1:Nat)(data0:List D)(a1 b2:Int)(cmp3_c0 cmp3_c1:D)(i8:Int):Cn n (m1+1) data0 a1 b2 (D.fn 156 [.ref 4,.ref 26] [cmp3_c0,cmp3_c1]) i8 =
 .br (decide (i8<b2)) (Dw n m1 n data0 a1 b2 (D.fn 156 [.ref 4,.ref 26] [cmp3_c0,cmp3_c1]) i8 i8)
 (.ret [D.sl data0]):=by kernel_rfl
theorem Hv(n:Nat)(data0 a1:D)(b2 cmp3_c0 cmp3_c1:D):Ai Tryz.prog md Bn n 250 [] [data0,a1,b2,(D.fn 156 [.ref 4,.ref 26] [cmp3_c0,cmp3_c1])] =
 Cn n n data0.els a1.toInt b2.toInt (D.fn 156 [.ref 4,.ref 26] [cmp3_c0,cmp3_c1]) (IntKind.wrap .i64 (a1.toInt+1)):=by kernel_rfl
def Aq:List (Nat×Orc):=[(3,⟨[(0,none),(1,none),(4,some 107),(10,none),(11,none)],[],[(.slot 0,0,3)]⟩),(9,⟨[(0,none),(10,none),(13,none)],[],[(.slot 0,0,3)]⟩),(15,⟨[(0,none),(2,none),(4,some 107),(14,none),(15,none)],[],[(.slot 0,0,3)]⟩),(21,⟨[(0,none),(14,none),(17,none)],[],[(.slot 0,0,3)]⟩),(33,⟨[(0,none),(1,none),(2,none),(3,none),(4,some 107),(18,none),(19,none),(20,none),(21,none),(22,none)],[],[(.slot 0,0,3)]⟩)]
def Du:List Nat:=[23,3,3,3,107]
noncomputable def Ev(n m9:Nat)(data0:List D)(i10 k13:Int):Tree :=
 lA (eA Aq n 251 [0,1,0,1,1,1,0,1,0,0]) (Ao Aq 9) m9 ⟨(.row 0::uA 9++(.i .i64 i10:: .undef:: .undef:: .i .i64 k13::uA 206)),[(0,.row 3 data0 true)],[0],[],[0]⟩
  (Ak 2 (Au (jA Aq n 251 [0,1,0,1,1,1,1]) (Au (jA Aq n 251 [1]) (rA 251 Du [] []))))
noncomputable def Dt(n m3:Nat)(data0:List D)(a1:Int)(cmp4:D)(i10 j11:Int):Tree :=
 lA (eA Aq n 251 [0,1,0,1,1,0,0,0]) (Ao Aq 3) m3 ⟨(.row 0:: .i .i64 a1:: .undef:: .undef:: .d 107 cmp4::uA 5++(.i .i64 i10:: .i .i64 j11::uA 208)),[(0,.row 3 data0 true)],[0],[],[0]⟩
  (Ak 0 (Au (jA Aq n 251 [0,1,0,1,1,1]) (Au (jA Aq n 251 [1]) (rA 251 Du [] []))))
noncomputable def Ep(n m21:Nat)(data0:List D)(i14 k17:Int):Tree :=
 lA (eA Aq n 251 [1,0,1,0,1,1,1,0,1,0,0]) (Ao Aq 21) m21 ⟨(.row 0::uA 13++(.i .i64 i14:: .undef:: .undef:: .i .i64 k17::uA 202)),[(0,.row 3 data0 true)],[0],[],[0]⟩
  (Ak 6 (Au (jA Aq n 251 [1,0,1,0,1,1,1,1]) (Au (jA Aq n 251 [1,1]) (rA 251 Du [] []))))
noncomputable def Dq(n m15:Nat)(data0:List D)(mm2:Int)(cmp4:D)(i14 j15:Int):Tree :=
 lA (eA Aq n 251 [1,0,1,0,1,1,0,0,0]) (Ao Aq 15) m15 ⟨(.row 0:: .undef:: .i .i64 mm2:: .undef:: .d 107 cmp4::uA 9++(.i .i64 i14:: .i .i64 j15::uA 204)),[(0,.row 3 data0 true)],[0],[],[0]⟩
  (Ak 4 (Au (jA Aq n 251 [1,0,1,0,1,1,1]) (Au (jA Aq n 251 [1,1]) (rA 251 Du [] []))))
noncomputable def C5(n m33:Nat)(data0:List D)(a1 mm2 b3:Int)(cmp4:D)(mid18 nn19:Int)(start20 r21 p22:Int):Tree :=
 lA (eA Aq n 251 [1,1,1,1,1,1,1,0,0,0]) (Ao Aq 33) m33 ⟨(.row 0:: .i .i64 a1:: .i .i64 mm2:: .i .i64 b3:: .d 107 cmp4::uA 13++(.i .i64 mid18:: .i .i64 nn19:: .i .i64 start20:: .i .i64 r21:: .i .i64 p22::uA 197)),[(0,.row 3 data0 true)],[0],[],[0]⟩
  (Ak 8 (Au (jA Aq n 251 [1,1,1,1,1,1,1,1]) (rA 251 Du [] [])))
theorem Hp(n m9:Nat)(data0:List D)(i10 k13:Int):Ev n (m9+1) data0 i10 k13 =
 .br (decide (k13<(IntKind.wrap .i64 (i10-1)))) (.br (decide (0≤IntKind.wrap .i64 (k13+1))) (.br (decide (IntKind.wrap .i64 (k13+1)<(data0.length:Int))) (.br (decide (0≤k13)) (.br (decide (k13<(data0.length:Int))) (.br (decide (0≤k13)) (.br (decide (k13<(data0.length:Int))) (.br (decide (0≤IntKind.wrap .i64 (k13+1))) (.br (decide (IntKind.wrap .i64 (k13+1)<((data0.set (Int.toNat k13) (D.int ((data0.getD (Int.toNat (IntKind.wrap .i64 (k13+1))) D.nil).toInt))).length:Int))) (Ev n m9 ((data0.set (Int.toNat k13) (D.int ((data0.getD (Int.toNat (IntKind.wrap .i64 (k13+1))) D.nil).toInt))).set (Int.toNat (IntKind.wrap .i64 (k13+1))) (D.int ((data0.getD (Int.toNat k13) D.nil).toInt))) i10 (IntKind.wrap .i64 (k13+1))) .fail) .fail) .fail) .fail) .fail) .fail) .fail) .fail)
 (.ret [D.sl data0]):=by kernel_rfl
theorem In(n m3:Nat)(data0:List D)(a1:Int)(cmp4_c0 cmp4_c1:D)(i10 j11:Int):Dt n (m3+1) data0 a1 (D.fn 156 [.ref 4,.ref 26] [cmp4_c0,cmp4_c1]) i10 j11 =
 .br (decide (i10<j11)) (.br (decide (0≤1)) (.br (decide (0≤IntKind.wrap .i64 (Int.fdiv (IntKind.wrap .u64 (IntKind.wrap .i64 (i10+j11))) (2 ^ (min (Int.toNat 1) (IntKind.bits .u64)))))) (.br (decide (IntKind.wrap .i64 (Int.fdiv (IntKind.wrap .u64 (IntKind.wrap .i64 (i10+j11))) (2 ^ (min (Int.toNat 1) (IntKind.bits .u64))))<(data0.length:Int))) (.br (decide (0≤a1)) (.br (decide (a1<(data0.length:Int))) (.call (D.fn 156 [.ref 4,.ref 26] [cmp4_c0,cmp4_c1]).fnId (D.fn 156 [.ref 4,.ref 26] [cmp4_c0,cmp4_c1]).fnCts ([D.int ((data0.getD (Int.toNat (IntKind.wrap .i64 (Int.fdiv (IntKind.wrap .u64 (IntKind.wrap .i64 (i10+j11))) (2 ^ (min (Int.toNat 1) (IntKind.bits .u64)))))) D.nil).toInt),D.int ((data0.getD (Int.toNat a1) D.nil).toInt)]++(D.fn 156 [.ref 4,.ref 26] [cmp4_c0,cmp4_c1]).fnDs) fun yy1 =>
 .br (decide (((yy1.getD 0 D.nil).toInt)<0)) (Dt n m3 data0 a1 (D.fn 156 [.ref 4,.ref 26] [cmp4_c0,cmp4_c1]) (IntKind.wrap .i64 ((IntKind.wrap .i64 (Int.fdiv (IntKind.wrap .u64 (IntKind.wrap .i64 (i10+j11))) (2 ^ (min (Int.toNat 1) (IntKind.bits .u64)))))+1)) j11)
 (Dt n m3 data0 a1 (D.fn 156 [.ref 4,.ref 26] [cmp4_c0,cmp4_c1]) i10 (IntKind.wrap .i64 (Int.fdiv (IntKind.wrap .u64 (IntKind.wrap .i64 (i10+j11))) (2 ^ (min (Int.toNat 1) (IntKind.bits .u64))))))) .fail) .fail) .fail) .fail) .fail)
 (Ev n n data0 i10 a1):=by kernel_rfl
theorem Hf(n m21:Nat)(data0:List D)(i14 k17:Int):Ep n (m21+1) data0 i14 k17 =
 .br (decide (i14<k17)) (.br (decide (0≤IntKind.wrap .i64 (k17-1))) (.br (decide (IntKind.wrap .i64 (k17-1)<(data0.length:Int))) (.br (decide (0≤k17)) (.br (decide (k17<(data0.length:Int))) (.br (decide (0≤k17)) (.br (decide (k17<(data0.length:Int))) (.br (decide (0≤IntKind.wrap .i64 (k17-1))) (.br (decide (IntKind.wrap .i64 (k17-1)<((data0.set (Int.toNat k17) (D.int ((data0.getD (Int.toNat (IntKind.wrap .i64 (k17-1))) D.nil).toInt))).length:Int))) (Ep n m21 ((data0.set (Int.toNat k17) (D.int ((data0.getD (Int.toNat (IntKind.wrap .i64 (k17-1))) D.nil).toInt))).set (Int.toNat (IntKind.wrap .i64 (k17-1))) (D.int ((data0.getD (Int.toNat k17) D.nil).toInt))) i14 (IntKind.wrap .i64 (k17-1))) .fail) .fail) .fail) .fail) .fail) .fail) .fail) .fail)
 (.ret [D.sl data0]):=by kernel_rfl
theorem H6(n m15:Nat)(data0:List D)(mm2:Int)(cmp4_c0 cmp4_c1:D)(i14 j15:Int):Dq n (m15+1) data0 mm2 (D.fn 156 [.ref 4,.ref 26] [cmp4_c0,cmp4_c1]) i14 j15 =
 .br (decide (i14<j15)) (.br (decide (0≤1)) (.br (decide (0≤mm2)) (.br (decide (mm2<(data0.length:Int))) (.br (decide (0≤IntKind.wrap .i64 (Int.fdiv (IntKind.wrap .u64 (IntKind.wrap .i64 (i14+j15))) (2 ^ (min (Int.toNat 1) (IntKind.bits .u64)))))) (.br (decide (IntKind.wrap .i64 (Int.fdiv (IntKind.wrap .u64 (IntKind.wrap .i64 (i14+j15))) (2 ^ (min (Int.toNat 1) (IntKind.bits .u64))))<(data0.length:Int))) (.call (D.fn 156 [.ref 4,.ref 26] [cmp4_c0,cmp4_c1]).fnId (D.fn 156 [.ref 4,.ref 26] [cmp4_c0,cmp4_c1]).fnCts ([D.int ((data0.getD (Int.toNat mm2) D.nil).toInt),D.int ((data0.getD (Int.toNat (IntKind.wrap .i64 (Int.fdiv (IntKind.wrap .u64 (IntKind.wrap .i64 (i14+j15))) (2 ^ (min (Int.toNat 1) (IntKind.bits .u64)))))) D.nil).toInt)]++(D.fn 156 [.ref 4,.ref 26] [cmp4_c0,cmp4_c1]).fnDs) fun yy2 =>
 .br (!(decide (((yy2.getD 0 D.nil).toInt)<0))) (Dq n m15 data0 mm2 (D.fn 156 [.ref 4,.ref 26] [cmp4_c0,cmp4_c1]) (IntKind.wrap .i64 ((IntKind.wrap .i64 (Int.fdiv (IntKind.wrap .u64 (IntKind.wrap .i64 (i14+j15))) (2 ^ (min (Int.toNat 1) (IntKind.bits .u64)))))+1)) j15)
 (Dq n m15 data0 mm2 (D.fn 156 [.ref 4,.ref 26] [cmp4_c0,cmp4_c1]) i14 (IntKind.wrap .i64 (Int.fdiv (IntKind.wrap .u64 (IntKind.wrap .i64 (i14+j15))) (2 ^ (min (Int.toNat 1) (IntKind.bits .u64))))))) .fail) .fail) .fail) .fail) .fail)
 (Ep n n data0 i14 mm2):=by kernel_rfl
theorem H8(n m33:Nat)(data0:List D)(a1 mm2 b3:Int)(cmp4_c0 cmp4_c1:D)(mid18 nn19:Int)(start20 r21 p22:Int):C5 n (m33+1) data0 a1 mm2 b3 (D.fn 156 [.ref 4,.ref 26] [cmp4_c0,cmp4_c1]) mid18 nn19 start20 r21 p22 =
 .br (decide (start20<r21)) (.br (decide (0≤1)) (.br (decide (0≤IntKind.wrap .i64 (p22-(IntKind.wrap .i64 (Int.fdiv (IntKind.wrap .u64 (IntKind.wrap .i64 (start20+r21))) (2 ^ (min (Int.toNat 1) (IntKind.bits .u64)))))))) (.br (decide (IntKind.wrap .i64 (p22-(IntKind.wrap .i64 (Int.fdiv (IntKind.wrap .u64 (IntKind.wrap .i64 (start20+r21))) (2 ^ (min (Int.toNat 1) (IntKind.bits .u64))))))<(data0.length:Int))) (.br (decide (0≤IntKind.wrap .i64 (Int.fdiv (IntKind.wrap .u64 (IntKind.wrap .i64 (start20+r21))) (2 ^ (min (Int.toNat 1) (IntKind.bits .u64)))))) (.br (decide (IntKind.wrap .i64 (Int.fdiv (IntKind.wrap .u64 (IntKind.wrap .i64 (start20+r21))) (2 ^ (min (Int.toNat 1) (IntKind.bits .u64))))<(data0.length:Int))) (.call (D.fn 156 [.ref 4,.ref 26] [cmp4_c0,cmp4_c1]).fnId (D.fn 156 [.ref 4,.ref 26] [cmp4_c0,cmp4_c1]).fnCts ([D.int ((data0.getD (Int.toNat (IntKind.wrap .i64 (p22-(IntKind.wrap .i64 (Int.fdiv (IntKind.wrap .u64 (IntKind.wrap .i64 (start20+r21))) (2 ^ (min (Int.toNat 1) (IntKind.bits .u64)))))))) D.nil).toInt),D.int ((data0.getD (Int.toNat (IntKind.wrap .i64 (Int.fdiv (IntKind.wrap .u64 (IntKind.wrap .i64 (start20+r21))) (2 ^ (min (Int.toNat 1) (IntKind.bits .u64)))))) D.nil).toInt)]++(D.fn 156 [.ref 4,.ref 26] [cmp4_c0,cmp4_c1]).fnDs) fun yy3 =>
 .br (!(decide (((yy3.getD 0 D.nil).toInt)<0))) (C5 n m33 data0 a1 mm2 b3 (D.fn 156 [.ref 4,.ref 26] [cmp4_c0,cmp4_c1]) mid18 nn19 (IntKind.wrap .i64 ((IntKind.wrap .i64 (Int.fdiv (IntKind.wrap .u64 (IntKind.wrap .i64 (start20+r21))) (2 ^ (min (Int.toNat 1) (IntKind.bits .u64)))))+1)) r21 p22)
 (C5 n m33 data0 a1 mm2 b3 (D.fn 156 [.ref 4,.ref 26] [cmp4_c0,cmp4_c1]) mid18 nn19 start20 (IntKind.wrap .i64 (Int.fdiv (IntKind.wrap .u64 (IntKind.wrap .i64 (start20+r21))) (2 ^ (min (Int.toNat 1) (IntKind.bits .u64))))) p22)) .fail) .fail) .fail) .fail) .fail)
 (.br (decide (start20<mm2)) (.br (decide (mm2<(IntKind.wrap .i64 (nn19-start20)))) (.call 300 [] [D.sl data0,D.int start20,D.int mm2,D.int (IntKind.wrap .i64 (nn19-start20)),(D.fn 156 [.ref 4,.ref 26] [cmp4_c0,cmp4_c1])] fun yy4 =>
 .br (decide (a1<start20)) (.br (decide (start20<mid18)) (.call 251 [] [D.sl ((yy4.getD 0 D.nil).els),D.int a1,D.int start20,D.int mid18,(D.fn 156 [.ref 4,.ref 26] [cmp4_c0,cmp4_c1])] fun yy5 =>
 .br (decide (mid18<(IntKind.wrap .i64 (nn19-start20)))) (.br (decide ((IntKind.wrap .i64 (nn19-start20))<b3)) (.call 251 [] [D.sl ((yy5.getD 0 D.nil).els),D.int mid18,D.int (IntKind.wrap .i64 (nn19-start20)),D.int b3,(D.fn 156 [.ref 4,.ref 26] [cmp4_c0,cmp4_c1])] fun yy6 =>
 .ret [D.sl ((yy6.getD 0 D.nil).els)])
 (.ret [D.sl ((yy5.getD 0 D.nil).els)]))
 (.ret [D.sl ((yy5.getD 0 D.nil).els)]))
 (.br (decide (mid18<(IntKind.wrap .i64 (nn19-start20)))) (.br (decide ((IntKind.wrap .i64 (nn19-start20))<b3)) (.call 251 [] [D.sl ((yy4.getD 0 D.nil).els),D.int mid18,D.int (IntKind.wrap .i64 (nn19-start20)),D.int b3,(D.fn 156 [.ref 4,.ref 26] [cmp4_c0,cmp4_c1])] fun yy7 =>
 .ret [D.sl ((yy7.getD 0 D.nil).els)])
 (.ret [D.sl ((yy4.getD 0 D.nil).els)]))
 (.ret [D.sl ((yy4.getD 0 D.nil).els)])))
 (.br (decide (mid18<(IntKind.wrap .i64 (nn19-start20)))) (.br (decide ((IntKind.wrap .i64 (nn19-start20))<b3)) (.call 251 [] [D.sl ((yy4.getD 0 D.nil).els),D.int mid18,D.int (IntKind.wrap .i64 (nn19-start20)),D.int b3,(D.fn 156 [.ref 4,.ref 26] [cmp4_c0,cmp4_c1])] fun yy8 =>
 .ret [D.sl ((yy8.getD 0 D.nil).els)])
 (.ret [D.sl ((yy4.getD 0 D.nil).els)]))
 (.ret [D.sl ((yy4.getD 0 D.nil).els)])))
 (.br (decide (a1<start20)) (.br (decide (start20<mid18)) (.call 251 [] [D.sl data0,D.int a1,D.int start20,D.int mid18,(D.fn 156 [.ref 4,.ref 26] [cmp4_c0,cmp4_c1])] fun yy9 =>
 .br (decide (mid18<(IntKind.wrap .i64 (nn19-start20)))) (.br (decide ((IntKind.wrap .i64 (nn19-start20))<b3)) (.call 251 [] [D.sl ((yy9.getD 0 D.nil).els),D.int mid18,D.int (IntKind.wrap .i64 (nn19-start20)),D.int b3,(D.fn 156 [.ref 4,.ref 26] [cmp4_c0,cmp4_c1])] fun yy10 =>
 .ret [D.sl ((yy10.getD 0 D.nil).els)])
 (.ret [D.sl ((yy9.getD 0 D.nil).els)]))
 (.ret [D.sl ((yy9.getD 0 D.nil).els)]))
 (.br (decide (mid18<(IntKind.wrap .i64 (nn19-start20)))) (.br (decide ((IntKind.wrap .i64 (nn19-start20))<b3)) (.call 251 [] [D.sl data0,D.int mid18,D.int (IntKind.wrap .i64 (nn19-start20)),D.int b3,(D.fn 156 [.ref 4,.ref 26] [cmp4_c0,cmp4_c1])] fun yy11 =>
 .ret [D.sl ((yy11.getD 0 D.nil).els)])
 (.ret [D.sl data0]))
 (.ret [D.sl data0])))
 (.br (decide (mid18<(IntKind.wrap .i64 (nn19-start20)))) (.br (decide ((IntKind.wrap .i64 (nn19-start20))<b3)) (.call 251 [] [D.sl data0,D.int mid18,D.int (IntKind.wrap .i64 (nn19-start20)),D.int b3,(D.fn 156 [.ref 4,.ref 26] [cmp4_c0,cmp4_c1])] fun yy12 =>
 .ret [D.sl ((yy12.getD 0 D.nil).els)])
 (.ret [D.sl data0]))
 (.ret [D.sl data0]))))
 (.br (decide (a1<start20)) (.br (decide (start20<mid18)) (.call 251 [] [D.sl data0,D.int a1,D.int start20,D.int mid18,(D.fn 156 [.ref 4,.ref 26] [cmp4_c0,cmp4_c1])] fun yy13 =>
 .br (decide (mid18<(IntKind.wrap .i64 (nn19-start20)))) (.br (decide ((IntKind.wrap .i64 (nn19-start20))<b3)) (.call 251 [] [D.sl ((yy13.getD 0 D.nil).els),D.int mid18,D.int (IntKind.wrap .i64 (nn19-start20)),D.int b3,(D.fn 156 [.ref 4,.ref 26] [cmp4_c0,cmp4_c1])] fun yy14 =>
 .ret [D.sl ((yy14.getD 0 D.nil).els)])
 (.ret [D.sl ((yy13.getD 0 D.nil).els)]))
 (.ret [D.sl ((yy13.getD 0 D.nil).els)]))
 (.br (decide (mid18<(IntKind.wrap .i64 (nn19-start20)))) (.br (decide ((IntKind.wrap .i64 (nn19-start20))<b3)) (.call 251 [] [D.sl data0,D.int mid18,D.int (IntKind.wrap .i64 (nn19-start20)),D.int b3,(D.fn 156 [.ref 4,.ref 26] [cmp4_c0,cmp4_c1])] fun yy15 =>
 .ret [D.sl ((yy15.getD 0 D.nil).els)])
 (.ret [D.sl data0]))
 (.ret [D.sl data0])))
 (.br (decide (mid18<(IntKind.wrap .i64 (nn19-start20)))) (.br (decide ((IntKind.wrap .i64 (nn19-start20))<b3)) (.call 251 [] [D.sl data0,D.int mid18,D.int (IntKind.wrap .i64 (nn19-start20)),D.int b3,(D.fn 156 [.ref 4,.ref 26] [cmp4_c0,cmp4_c1])] fun yy16 =>
 .ret [D.sl ((yy16.getD 0 D.nil).els)])
 (.ret [D.sl data0]))
 (.ret [D.sl data0])))):=by kernel_rfl
theorem Jl(n:Nat)(data0 a1:D)(mm2 b3:D)(cmp4_c0 cmp4_c1:D):Ai Tryz.prog md Aq n 251 [] [data0,a1,mm2,b3,(D.fn 156 [.ref 4,.ref 26] [cmp4_c0,cmp4_c1])] =
 .br ((IntKind.wrap .i64 (mm2.toInt-a1.toInt))==1) (Dt n n data0.els a1.toInt (D.fn 156 [.ref 4,.ref 26] [cmp4_c0,cmp4_c1]) mm2.toInt b3.toInt)
 (.br ((IntKind.wrap .i64 (b3.toInt-mm2.toInt))==1) (Dq n n data0.els mm2.toInt (D.fn 156 [.ref 4,.ref 26] [cmp4_c0,cmp4_c1]) a1.toInt mm2.toInt)
 (.br (decide (0≤1)) (.br (decide ((IntKind.wrap .i64 (Int.fdiv (IntKind.wrap .u64 (IntKind.wrap .i64 (a1.toInt+b3.toInt))) (2 ^ (min (Int.toNat 1) (IntKind.bits .u64)))))<mm2.toInt)) (C5 n n data0.els a1.toInt mm2.toInt b3.toInt (D.fn 156 [.ref 4,.ref 26] [cmp4_c0,cmp4_c1]) (IntKind.wrap .i64 (Int.fdiv (IntKind.wrap .u64 (IntKind.wrap .i64 (a1.toInt+b3.toInt))) (2 ^ (min (Int.toNat 1) (IntKind.bits .u64))))) (IntKind.wrap .i64 ((IntKind.wrap .i64 (Int.fdiv (IntKind.wrap .u64 (IntKind.wrap .i64 (a1.toInt+b3.toInt))) (2 ^ (min (Int.toNat 1) (IntKind.bits .u64)))))+mm2.toInt)) (IntKind.wrap .i64 ((IntKind.wrap .i64 ((IntKind.wrap .i64 (Int.fdiv (IntKind.wrap .u64 (IntKind.wrap .i64 (a1.toInt+b3.toInt))) (2 ^ (min (Int.toNat 1) (IntKind.bits .u64)))))+mm2.toInt))-b3.toInt)) (IntKind.wrap .i64 (Int.fdiv (IntKind.wrap .u64 (IntKind.wrap .i64 (a1.toInt+b3.toInt))) (2 ^ (min (Int.toNat 1) (IntKind.bits .u64))))) (IntKind.wrap .i64 ((IntKind.wrap .i64 ((IntKind.wrap .i64 (Int.fdiv (IntKind.wrap .u64 (IntKind.wrap .i64 (a1.toInt+b3.toInt))) (2 ^ (min (Int.toNat 1) (IntKind.bits .u64)))))+mm2.toInt))-1)))
 (C5 n n data0.els a1.toInt mm2.toInt b3.toInt (D.fn 156 [.ref 4,.ref 26] [cmp4_c0,cmp4_c1]) (IntKind.wrap .i64 (Int.fdiv (IntKind.wrap .u64 (IntKind.wrap .i64 (a1.toInt+b3.toInt))) (2 ^ (min (Int.toNat 1) (IntKind.bits .u64))))) (IntKind.wrap .i64 ((IntKind.wrap .i64 (Int.fdiv (IntKind.wrap .u64 (IntKind.wrap .i64 (a1.toInt+b3.toInt))) (2 ^ (min (Int.toNat 1) (IntKind.bits .u64)))))+mm2.toInt)) a1.toInt mm2.toInt (IntKind.wrap .i64 ((IntKind.wrap .i64 ((IntKind.wrap .i64 (Int.fdiv (IntKind.wrap .u64 (IntKind.wrap .i64 (a1.toInt+b3.toInt))) (2 ^ (min (Int.toNat 1) (IntKind.bits .u64)))))+mm2.toInt))-1)))) .fail)):=by kernel_rfl
def Fs:List (Nat×Orc):=[(2,⟨[(0,some 23),(1,some 23),(9,some 23),(10,none),(11,none)],[],[]⟩)]
noncomputable def F1(n m2:Nat)(s10 s21 t9:D)(t10 t11:Int):Tree :=
 lA (eA Fs n 256 [1,0,1,0,0]) (Ao Fs 2) m2 ⟨(.d 23 s10:: .d 23 s21::uA 7++(.d 23 t9:: .i .i64 t10:: .i .i64 t11::uA 24)),[],[],[],[]⟩
  (Ak 0 (Au (jA Fs n 256 [1,1]) (rA 256 [23,23] [.tmp 4] [3])))
theorem Jk(n m2:Nat)(s10 s21 t9:D)(t10 t11:Int):F1 n (m2+1) s10 s21 t9 t10 t11 =
 .br (decide (t11<t10)) (.br (decide (0≤t11)) (.br (decide (t11<(t9.els.length:Int))) (.br (decide ((s21.els.length:Int)≤t11)) (.ret [D.int 1])
 (.br (decide (0≤t11)) (.br (decide (t11<(s21.els.length:Int))) (.call 218 [] [D.int ((t9.els.getD (Int.toNat t11) D.nil).toInt),D.int ((s21.els.getD (Int.toNat t11) D.nil).toInt)] fun yy1 =>
 .br (((yy1.getD 0 D.nil).toInt)!=0) (.ret [D.int ((yy1.getD 0 D.nil).toInt)])
 (F1 n m2 s10 s21 t9 t10 (IntKind.wrap .i64 (t11+1)))) .fail) .fail)) .fail) .fail)
 (.br (decide ((s10.els.length:Int)<(s21.els.length:Int))) (.ret [D.int (-1)])
 (.ret [D.int 0])):=by kernel_rfl
theorem U4(n:Nat)(s10 s21:D):Ai Tryz.prog md Fs n 256 [] [s10,s21] =
 F1 n n s10 s21 s10 (s10.els.length:Int) 0:=by kernel_rfl
def B9:List (Nat×Orc):=[(4,⟨[(1,some 24),(2,some 77),(15,some 24),(16,none),(17,none)],[],[]⟩)]
noncomputable def B_(n m4:Nat)(s21 eq2 t15:D)(t16 t17:Int):Tree :=
 lA (eA B9 n 272 [1,1,0,1,0,0]) (Ao B9 4) m4 ⟨(.undef:: .d 24 s21:: .d 77 eq2::uA 12++(.d 24 t15:: .i .i64 t16:: .i .i64 t17::uA 14)),[],[],[],[]⟩
  (Ak 0 (Au (jA B9 n 272 [1,1,1]) (rA 272 [24,24,77] [.tmp 6] [4])))
theorem Cw(n m4:Nat)(s21 eq2_c0 t15:D)(t16 t17:Int):B_ n (m4+1) s21 (D.fn 273 [.ref 4] [eq2_c0]) t15 t16 t17 =
 .br (decide (t17<t16)) (.br (decide (0≤t17)) (.br (decide (t17<(t15.els.length:Int))) (.br (decide (0≤t17)) (.br (decide (t17<(s21.els.length:Int))) (.call (D.fn 273 [.ref 4] [eq2_c0]).fnId (D.fn 273 [.ref 4] [eq2_c0]).fnCts ([t15.els.getD (Int.toNat t17) D.nil,s21.els.getD (Int.toNat t17) D.nil]++(D.fn 273 [.ref 4] [eq2_c0]).fnDs) fun yy1 =>
 .br (!((yy1.getD 0 D.nil).toBool)) (.ret [D.bool false])
 (B_ n m4 s21 (D.fn 273 [.ref 4] [eq2_c0]) t15 t16 (IntKind.wrap .i64 (t17+1)))) .fail) .fail) .fail) .fail)
 (.ret [D.bool true]):=by kernel_rfl
theorem E6(n:Nat)(s10 s21 eq2_c0:D):Ai Tryz.prog md B9 n 272 [] [s10,s21,(D.fn 273 [.ref 4] [eq2_c0])] =
 .br ((s10.els.length:Int)!=(s21.els.length:Int)) (.ret [D.bool false])
 (B_ n n s21 (D.fn 273 [.ref 4] [eq2_c0]) s10 (s10.els.length:Int) 0):=by kernel_rfl
def B0:List (Nat×Orc):=[(4,⟨[(1,some 65),(2,some 44),(15,some 65),(16,none),(17,none)],[],[]⟩)]
noncomputable def B3(n m4:Nat)(s21 eq2 t15:D)(t16 t17:Int):Tree :=
 lA (eA B0 n 275 [1,1,0,1,0,0]) (Ao B0 4) m4 ⟨(.undef:: .d 65 s21:: .d 44 eq2::uA 12++(.d 65 t15:: .i .i64 t16:: .i .i64 t17::uA 14)),[],[],[],[]⟩
  (Ak 0 (Au (jA B0 n 275 [1,1,1]) (rA 275 [65,65,44] [.tmp 6] [4])))
theorem Cl(n m4:Nat)(s21 eq2_c0 t15:D)(t16 t17:Int):B3 n (m4+1) s21 (D.fn 276 [.ref 4] [eq2_c0]) t15 t16 t17 =
 .br (decide (t17<t16)) (.br (decide (0≤t17)) (.br (decide (t17<(t15.els.length:Int))) (.br (decide (0≤t17)) (.br (decide (t17<(s21.els.length:Int))) (.call (D.fn 276 [.ref 4] [eq2_c0]).fnId (D.fn 276 [.ref 4] [eq2_c0]).fnCts ([t15.els.getD (Int.toNat t17) D.nil,s21.els.getD (Int.toNat t17) D.nil]++(D.fn 276 [.ref 4] [eq2_c0]).fnDs) fun yy1 =>
 .br (!((yy1.getD 0 D.nil).toBool)) (.ret [D.bool false])
 (B3 n m4 s21 (D.fn 276 [.ref 4] [eq2_c0]) t15 t16 (IntKind.wrap .i64 (t17+1)))) .fail) .fail) .fail) .fail)
 (.ret [D.bool true]):=by kernel_rfl
theorem Ek(n:Nat)(s10 s21 eq2_c0:D):Ai Tryz.prog md B0 n 275 [] [s10,s21,(D.fn 276 [.ref 4] [eq2_c0])] =
 .br ((s10.els.length:Int)!=(s21.els.length:Int)) (.ret [D.bool false])
 (B3 n n s21 (D.fn 276 [.ref 4] [eq2_c0]) s10 (s10.els.length:Int) 0):=by kernel_rfl
def Fd:List (Nat×Orc):=[(2,⟨[(0,none),(2,none),(4,some 107),(10,none),(11,none)],[],[(.slot 0,0,3)]⟩)]
noncomputable def D9(n m2:Nat)(data0:List D)(mm2:Int)(cmp4:D)(i10 j11:Int):Tree :=
 lA (eA Fd n 300 [1,1,0,0,0]) (Ao Fd 2) m2 ⟨(.row 0:: .undef:: .i .i64 mm2:: .undef:: .d 107 cmp4::uA 5++(.i .i64 i10:: .i .i64 j11::uA 46)),[(0,.row 3 data0 true)],[0],[],[0]⟩
  (Ak 0 (Au (jA Fd n 300 [1,1,1]) (rA 300 [23,3,3,3,107] [] [])))
theorem Iz(n m2:Nat)(data0:List D)(mm2:Int)(cmp4_c0 cmp4_c1:D)(i10 j11:Int):D9 n (m2+1) data0 mm2 (D.fn 156 [.ref 4,.ref 26] [cmp4_c0,cmp4_c1]) i10 j11 =
 .br (i10 != j11) (.br (decide (j11<i10)) (.call 322 [] [D.sl data0,D.int (IntKind.wrap .i64 (mm2-i10)),D.int mm2,D.int j11,(D.fn 156 [.ref 4,.ref 26] [cmp4_c0,cmp4_c1])] fun yy1 =>
 D9 n m2 ((yy1.getD 0 D.nil).els) mm2 (D.fn 156 [.ref 4,.ref 26] [cmp4_c0,cmp4_c1]) (IntKind.wrap .i64 (i10-j11)) j11)
 (.call 322 [] [D.sl data0,D.int (IntKind.wrap .i64 (mm2-i10)),D.int (IntKind.wrap .i64 ((IntKind.wrap .i64 (mm2+j11))-i10)),D.int i10,(D.fn 156 [.ref 4,.ref 26] [cmp4_c0,cmp4_c1])] fun yy2 =>
 D9 n m2 ((yy2.getD 0 D.nil).els) mm2 (D.fn 156 [.ref 4,.ref 26] [cmp4_c0,cmp4_c1]) i10 (IntKind.wrap .i64 (j11-i10))))
 (.call 322 [] [D.sl data0,D.int (IntKind.wrap .i64 (mm2-i10)),D.int mm2,D.int i10,(D.fn 156 [.ref 4,.ref 26] [cmp4_c0,cmp4_c1])] fun yy3 =>
 .ret [D.sl ((yy3.getD 0 D.nil).els)]):=by kernel_rfl
theorem Jv(n:Nat)(data0 a1:D)(mm2 b3:D)(cmp4_c0 cmp4_c1:D):Ai Tryz.prog md Fd n 300 [] [data0,a1,mm2,b3,(D.fn 156 [.ref 4,.ref 26] [cmp4_c0,cmp4_c1])] =
 D9 n n data0.els mm2.toInt (D.fn 156 [.ref 4,.ref 26] [cmp4_c0,cmp4_c1]) (IntKind.wrap .i64 (mm2.toInt-a1.toInt)) (IntKind.wrap .i64 (b3.toInt-mm2.toInt)):=by kernel_rfl
def En:List (Nat×Orc):=[(4,⟨[(0,some 62),(1,some 62),(12,none),(13,none)],[],[]⟩)]
noncomputable def Eu(n m4:Nat)(s10 s21:D)(t12 t13:Int):Tree :=
 lA (eA En n 312 [1,1,0,1,0,0]) (Ao En 4) m4 ⟨(.d 62 s10:: .d 62 s21::uA 10++(.i .i64 t12:: .i .i64 t13::uA 12)),[],[],[],[]⟩
  (Ak 0 (Au (jA En n 312 [1,1,1]) (rA 312 [62,62] [.tmp 4] [4])))
theorem N2(n m4:Nat)(s10 s21:D)(t12 t13:Int):Eu n (m4+1) s10 s21 t12 t13 =
 .br (decide (t13<t12)) (.br (decide (0≤t13)) (.br (decide (t13<(s10.els.length:Int))) (.br (decide (0≤t13)) (.br (decide (t13<(s21.els.length:Int))) (.br (((s10.els.getD (Int.toNat t13) D.nil).toInt)!=((s21.els.getD (Int.toNat t13) D.nil).toInt)) (.ret [D.bool false])
 (Eu n m4 s10 s21 t12 (IntKind.wrap .i64 (t13+1)))) .fail) .fail) .fail) .fail)
 (.ret [D.bool true]):=by kernel_rfl
theorem P2(n:Nat)(s10 s21:D):Ai Tryz.prog md En n 312 [] [s10,s21] =
 .br ((s10.els.length:Int)!=(s21.els.length:Int)) (.ret [D.bool false])
 (Eu n n s10 s21 (s10.els.length:Int) 0):=by kernel_rfl
def F4:List (Nat×Orc):=[(1,⟨[(0,none),(1,none),(2,none),(3,none),(10,none)],[],[(.slot 0,0,3)]⟩)]
noncomputable def Eo(n m1:Nat)(data0:List D)(a1 b2:Int)(nn3 i10:Int):Tree :=
 lA (eA F4 n 322 [1,0,0]) (Ao F4 1) m1 ⟨(.row 0:: .i .i64 a1:: .i .i64 b2:: .i .i64 nn3::uA 6++(.i .i64 i10::uA 27)),[(0,.row 3 data0 true)],[0],[],[0]⟩
  (Ak 0 (rA 322 [23,3,3,3,107] [] []))
theorem He(n m1:Nat)(data0:List D)(a1 b2:Int)(nn3 i10:Int):Eo n (m1+1) data0 a1 b2 nn3 i10 =
 .br (decide (i10<nn3)) (.br (decide (0≤IntKind.wrap .i64 (b2+i10))) (.br (decide (IntKind.wrap .i64 (b2+i10)<(data0.length:Int))) (.br (decide (0≤IntKind.wrap .i64 (a1+i10))) (.br (decide (IntKind.wrap .i64 (a1+i10)<(data0.length:Int))) (.br (decide (0≤IntKind.wrap .i64 (a1+i10))) (.br (decide (IntKind.wrap .i64 (a1+i10)<(data0.length:Int))) (.br (decide (0≤IntKind.wrap .i64 (b2+i10))) (.br (decide (IntKind.wrap .i64 (b2+i10)<((data0.set (Int.toNat (IntKind.wrap .i64 (a1+i10))) (D.int ((data0.getD (Int.toNat (IntKind.wrap .i64 (b2+i10))) D.nil).toInt))).length:Int))) (Eo n m1 ((data0.set (Int.toNat (IntKind.wrap .i64 (a1+i10))) (D.int ((data0.getD (Int.toNat (IntKind.wrap .i64 (b2+i10))) D.nil).toInt))).set (Int.toNat (IntKind.wrap .i64 (b2+i10))) (D.int ((data0.getD (Int.toNat (IntKind.wrap .i64 (a1+i10))) D.nil).toInt))) a1 b2 nn3 (IntKind.wrap .i64 (i10+1))) .fail) .fail) .fail) .fail) .fail) .fail) .fail) .fail)
 (.ret [D.sl data0]):=by kernel_rfl
theorem I3(n:Nat)(data0 a1:D)(b2 nn3:D)(cmp4_c0 cmp4_c1:D):Ai Tryz.prog md F4 n 322 [] [data0,a1,b2,nn3,(D.fn 156 [.ref 4,.ref 26] [cmp4_c0,cmp4_c1])] =
 Eo n n data0.els a1.toInt b2.toInt nn3.toInt 0:=by kernel_rfl
def Lu:List (Nat×Orc):=[(6,⟨[(4,none),(5,none),(6,none)],[(4,true)],[]⟩)]
noncomputable def Kh(n m6:Nat)(nn5 i6:Int)(x4:D):Tree :=
 lA (eA Lu n 163 [1,1,1,1,0,1,0,0]) (Ao Lu 6) m6 ⟨(uA 4++(.ptr 4 []:: .i .i64 nn5:: .i .i64 i6::uA 47)),[(4,.var 139 (.d 139 x4) true)],[4],[],[]⟩
  (Ak 0 (Au (jA Lu n 163 [1,1,1,1,1]) (rA 163 [139] [.tmp 2,.tmp 3] [3,4])))
theorem R5(n m6:Nat)(nn5 i6:Int)(x4:D):Kh n (m6+1) nn5 i6 x4 =
 .br (decide (0≤i6)) (.br ((x4.fld 0).toBool) (.br (decide (0≤i6)) (.br (decide (i6<(((x4.fld 1).els).length:Int))) (Kh n m6 (IntKind.wrap .i64 ((IntKind.wrap .i64 (nn5*4294967296))-(IntKind.wrap .i64 ((((x4.fld 1).els).getD (Int.toNat i6) D.nil).toInt)))) (IntKind.wrap .i64 (i6-1)) x4) .fail) .fail)
 (.br (decide (0≤i6)) (.br (decide (i6<(((x4.fld 1).els).length:Int))) (Kh n m6 (IntKind.wrap .i64 ((IntKind.wrap .i64 (nn5*4294967296))+(IntKind.wrap .i64 ((((x4.fld 1).els).getD (Int.toNat i6) D.nil).toInt)))) (IntKind.wrap .i64 (i6-1)) x4) .fail) .fail))
 (.ret [D.int nn5,D.bool true]):=by kernel_rfl
theorem NP(n:Nat)(a0:D):Ai Tryz.prog md Lu n 163 [] [a0] =
 .call 223 [] [a0] fun yy1 =>
 .br (decide (2<((((yy1.getD 0 D.nil).fld 1).els).length:Int))) (.ret [D.int 0,D.bool false])
 (.call 225 [] [D.int 9223372036854775807] fun yy2 =>
 .call 224 [] [yy1.getD 0 D.nil,yy2.getD 0 D.nil] fun yy3 =>
 .br (decide (0<((yy3.getD 0 D.nil).toInt))) (.ret [D.int 0,D.bool false])
 (.call 225 [] [D.int (-9223372036854775808)] fun yy4 =>
 .call 224 [] [yy1.getD 0 D.nil,yy4.getD 0 D.nil] fun yy5 =>
 .br (decide (((yy5.getD 0 D.nil).toInt)<0)) (.ret [D.int 0,D.bool false])
 (Kh n n 0 (IntKind.wrap .i64 (((((yy1.getD 0 D.nil).fld 1).els).length:Int)-1)) (yy1.getD 0 D.nil)))):=by kernel_rfl
theorem RC(n:Nat)(a0:D):Ai Tryz.prog md [] n 223 [] [a0] =
 .call 265 [] [a0.fld 1] fun yy1 =>
 .br ((((yy1.getD 0 D.nil).els).length:Int)==0) (.ret [D.agg [D.bool false,D.sl []]])
 (.ret [D.agg [D.bool ((a0.fld 0).toBool),yy1.getD 0 D.nil]]):=by kernel_rfl
theorem WQ(n:Nat)(a0 b1:D):Ai Tryz.prog md [] n 224 [] [a0,b1] =
 .call 267 [] [a0,b1] fun yy1 =>
 .call 266 [] [yy1.getD 0 D.nil] fun yy2 =>
 .ret [D.int ((yy2.getD 0 D.nil).toInt)]:=by kernel_rfl
theorem Aaw(n:Nat)(nn0:D):Ai Tryz.prog md [] n 225 [] [nn0] =
 .br (decide (0≤nn0.toInt)) (.br (!(4294967296 == (0:Int))) (.br (!(4294967296 == (0:Int))) (.call 223 [] [D.agg [D.bool false,D.sl [D.int (IntKind.wrap .u32 (Int.tmod nn0.toInt 4294967296)),D.int (IntKind.wrap .u32 (IntKind.wrap .i64 (Int.tdiv nn0.toInt 4294967296)))]]] fun yy1 =>
 .ret [yy1.getD 0 D.nil]) .fail) .fail)
 (.br (!(4294967296 == (0:Int))) (.br (!(4294967296 == (0:Int))) (.call 268 [] [D.sl [D.int (IntKind.wrap .u32 (Int.tmod (IntKind.wrap .i64 ((-1)-nn0.toInt)) 4294967296)),D.int (IntKind.wrap .u32 (IntKind.wrap .i64 (Int.tdiv (IntKind.wrap .i64 ((-1)-nn0.toInt)) 4294967296)))],D.sl [D.int 1]] fun yy2 =>
 .call 223 [] [D.agg [D.bool true,yy2.getD 0 D.nil]] fun yy3 =>
 .ret [yy3.getD 0 D.nil]) .fail) .fail):=by kernel_rfl
def L0:List (Nat×Orc):=[(6,⟨[(1,none),(4,none),(14,some 62),(15,none),(16,none)],[(1,true)],[]⟩)]
noncomputable def H_(n m6:Nat)(size4:Int)(t14:D)(t15 t16:Int)(a1:D):Tree :=
 lA (eA L0 n 228 [1,1,1,1,0,1,0,0]) (Ao L0 6) m6 ⟨(.undef:: .ptr 1 []:: .undef:: .undef:: .i .u64 size4::uA 9++(.d 62 t14:: .i .i64 t15:: .i .i64 t16::uA 24)),[(1,.var 187 (.d 187 a1) true)],[1],[],[]⟩
  (Ak 0 (Au (jA L0 n 228 [1,1,1,1,1]) (rA 228 [187] [.tmp 2,.tmp 3] [3,4])))
theorem Sb(n m6:Nat)(size4:Int)(t14:D)(t15 t16:Int)(a1:D):H_ n (m6+1) size4 t14 t15 t16 a1 =
 .br (decide (t16<t15)) (.br (decide (0≤t16)) (.br (decide (t16<(t14.els.length:Int))) (.br (decide (0≤IntKind.wrap .u64 (IntKind.wrap .i64 (32*t16)))) (H_ n m6 (Bs .or .u64 size4 (IntKind.wrap .u64 ((IntKind.wrap .u64 ((t14.els.getD (Int.toNat t16) D.nil).toInt))*2 ^ (min (Int.toNat (IntKind.wrap .u64 (IntKind.wrap .i64 (32*t16)))) (IntKind.bits .u64))))) t14 t15 (IntKind.wrap .i64 (t16+1)) a1) .fail) .fail) .fail)
 (.br ((a1.fld 0).toBool) (.br (decide (9223372036854775808<size4)) (.ret [D.int 0,D.bool false])
 (.ret [D.int (IntKind.wrap .i64 (IntKind.wrap .u64 (0-size4))),D.bool true]))
 (.br (decide (9223372036854775807<size4)) (.ret [D.int 0,D.bool false])
 (.ret [D.int (IntKind.wrap .i64 size4),D.bool true]))):=by kernel_rfl
theorem OK(n:Nat)(a0:D):Ai Tryz.prog md L0 n 228 [] [a0] =
 .call 269 [] [a0] fun yy1 =>
 .br (decide (2<((((yy1.getD 0 D.nil).fld 1).els).length:Int))) (.ret [D.int 0,D.bool false])
 (H_ n n 0 ((yy1.getD 0 D.nil).fld 1) ((((yy1.getD 0 D.nil).fld 1).els).length:Int) 0 (yy1.getD 0 D.nil)):=by kernel_rfl
theorem Aa7(n:Nat)(nn0:D):Ai Tryz.prog md [] n 246 [] [nn0] =
 .br (decide (nn0.toInt<0)) (.br (decide (0≤32)) (.call 299 [] [D.sl [D.int (IntKind.wrap .u32 (IntKind.wrap .u64 (0-(IntKind.wrap .u64 nn0.toInt)))),D.int (IntKind.wrap .u32 (Int.fdiv (IntKind.wrap .u64 (0-(IntKind.wrap .u64 nn0.toInt))) (2 ^ (min (Int.toNat 32) (IntKind.bits .u64)))))]] fun yy1 =>
 .call 298 [] [D.bool (decide (nn0.toInt<0)),D.sl ((yy1.getD 0 D.nil).els)] fun yy2 =>
 .ret [yy2.getD 0 D.nil]) .fail)
 (.br (decide (0≤32)) (.call 299 [] [D.sl [D.int (IntKind.wrap .u32 (IntKind.wrap .u64 nn0.toInt)),D.int (IntKind.wrap .u32 (Int.fdiv (IntKind.wrap .u64 nn0.toInt) (2 ^ (min (Int.toNat 32) (IntKind.bits .u64)))))]] fun yy3 =>
 .call 298 [] [D.bool (decide (nn0.toInt<0)),D.sl ((yy3.getD 0 D.nil).els)] fun yy4 =>
 .ret [yy4.getD 0 D.nil]) .fail):=by kernel_rfl
theorem XO(n:Nat)(a0 b1:D):Ai Tryz.prog md [] n 253 [] [a0,b1] =
 .call 301 [] [a0] fun yy1 =>
 .call 301 [] [b1] fun yy2 =>
 .br (decide (((yy1.getD 0 D.nil).toInt)<((yy2.getD 0 D.nil).toInt))) (.ret [D.int (-1)])
 (.br (decide (((yy2.getD 0 D.nil).toInt)<((yy1.getD 0 D.nil).toInt))) (.ret [D.int 1])
 (.br (decide (((yy1.getD 0 D.nil).toInt)<0)) (.call 302 [] [b1.fld 1,a0.fld 1] fun yy3 =>
 .ret [D.int ((yy3.getD 0 D.nil).toInt)])
 (.call 302 [] [a0.fld 1,b1.fld 1] fun yy4 =>
 .ret [D.int ((yy4.getD 0 D.nil).toInt)]))):=by kernel_rfl
theorem XP(n:Nat)(a0 b1:D):Ai Tryz.prog md [] n 254 [] [a0,b1] =
 .call 303 [] [a0.fld 1,b1.fld 1] fun yy1 =>
 .call 298 [] [D.bool (!(((a0.fld 0).toBool)==((b1.fld 0).toBool))),yy1.getD 0 D.nil] fun yy2 =>
 .ret [yy2.getD 0 D.nil]:=by kernel_rfl
theorem RD(n:Nat)(a0:D):Ai Tryz.prog md [] n 266 [] [a0] =
 .call 223 [] [a0] fun yy1 =>
 .br (((((yy1.getD 0 D.nil).fld 1).els).length:Int)==0) (.ret [D.int 0])
 (.br (((yy1.getD 0 D.nil).fld 0).toBool) (.ret [D.int (-1)])
 (.ret [D.int 1])):=by kernel_rfl
theorem WT(n:Nat)(a0 b1:D):Ai Tryz.prog md [] n 267 [] [a0,b1] =
 .call 309 [] [b1] fun yy1 =>
 .call 308 [] [a0,yy1.getD 0 D.nil] fun yy2 =>
 .ret [yy2.getD 0 D.nil]:=by kernel_rfl
theorem TG(n:Nat)(a0:D):Ai Tryz.prog md [] n 269 [] [a0] =
 .call 299 [] [a0.fld 1] fun yy1 =>
 .call 298 [] [D.bool ((a0.fld 0).toBool),D.sl ((yy1.getD 0 D.nil).els)] fun yy2 =>
 .ret [yy2.getD 0 D.nil]:=by kernel_rfl
theorem KO(n:Nat)(neg0 mag1:D):Ai Tryz.prog md [] n 298 [] [neg0,mag1] =
 .br ((mag1.els.length:Int)==0) (.ret [D.agg [D.bool false,D.sl []]])
 (.ret [D.agg [D.bool neg0.toBool,mag1]]):=by kernel_rfl
theorem TH(n:Nat)(a0:D):Ai Tryz.prog md [] n 301 [] [a0] =
 .call 302 [] [a0.fld 1,D.sl []] fun yy1 =>
 .br (((yy1.getD 0 D.nil).toInt)==0) (.ret [D.int 0])
 (.br ((a0.fld 0).toBool) (.ret [D.int (-1)])
 (.ret [D.int 1])):=by kernel_rfl
theorem KN(n:Nat)(a0 b1:D):Ai Tryz.prog md [] n 306 [] [a0,b1] =
 .call 323 [] [a0.fld 1,b1.fld 1] fun yy1 =>
 .br (!((yy1.getD 2 D.nil).toBool)) (.ret [D.agg [D.bool false,D.sl []],D.agg [D.bool false,D.sl []],D.bool false])
 (.call 298 [] [D.bool (!(((a0.fld 0).toBool)==((b1.fld 0).toBool))),yy1.getD 0 D.nil] fun yy2 =>
 .call 298 [] [D.bool ((a0.fld 0).toBool),yy1.getD 1 D.nil] fun yy3 =>
 .br (!(((a0.fld 0).toBool)==((b1.fld 0).toBool))) (.br (decide (0<(((yy1.getD 1 D.nil).els).length:Int))) (.call 246 [] [D.int 1] fun yy4 =>
 .call 324 [] [yy2.getD 0 D.nil,yy4.getD 0 D.nil] fun yy5 =>
 .call 313 [] [yy3.getD 0 D.nil,b1] fun yy6 =>
 .ret [yy5.getD 0 D.nil,yy6.getD 0 D.nil,D.bool true])
 (.ret [yy2.getD 0 D.nil,yy3.getD 0 D.nil,D.bool true]))
 (.ret [yy2.getD 0 D.nil,yy3.getD 0 D.nil,D.bool true])):=by kernel_rfl
theorem WP(n:Nat)(a0 b1:D):Ai Tryz.prog md [] n 308 [] [a0,b1] =
 .call 223 [] [a0] fun yy1 =>
 .call 223 [] [b1] fun yy2 =>
 .br ((((yy1.getD 0 D.nil).fld 0).toBool)==(((yy2.getD 0 D.nil).fld 0).toBool)) (.call 268 [] [(yy1.getD 0 D.nil).fld 1,(yy2.getD 0 D.nil).fld 1] fun yy3 =>
 .call 223 [] [D.agg [D.bool (((yy1.getD 0 D.nil).fld 0).toBool),yy3.getD 0 D.nil]] fun yy4 =>
 .ret [yy4.getD 0 D.nil])
 (.call 320 [] [(yy1.getD 0 D.nil).fld 1,(yy2.getD 0 D.nil).fld 1] fun yy5 =>
 .br (decide (0≤((yy5.getD 0 D.nil).toInt))) (.call 297 [] [(yy1.getD 0 D.nil).fld 1,(yy2.getD 0 D.nil).fld 1] fun yy6 =>
 .call 223 [] [D.agg [D.bool (((yy1.getD 0 D.nil).fld 0).toBool),yy6.getD 0 D.nil]] fun yy7 =>
 .ret [yy7.getD 0 D.nil])
 (.call 297 [] [(yy2.getD 0 D.nil).fld 1,(yy1.getD 0 D.nil).fld 1] fun yy8 =>
 .call 223 [] [D.agg [D.bool (((yy2.getD 0 D.nil).fld 0).toBool),yy8.getD 0 D.nil]] fun yy9 =>
 .ret [yy9.getD 0 D.nil])):=by kernel_rfl
theorem WR(n:Nat)(a0:D):Ai Tryz.prog md [] n 309 [] [a0] =
 .call 223 [] [D.agg [D.bool (!((a0.fld 0).toBool)),a0.fld 1]] fun yy1 =>
 .ret [yy1.getD 0 D.nil]:=by kernel_rfl
theorem XN(n:Nat)(a0 b1:D):Ai Tryz.prog md [] n 313 [] [a0,b1] =
 .br (((a0.fld 0).toBool)==((b1.fld 0).toBool)) (.call 325 [] [a0.fld 1,b1.fld 1] fun yy1 =>
 .call 298 [] [D.bool ((a0.fld 0).toBool),yy1.getD 0 D.nil] fun yy2 =>
 .ret [yy2.getD 0 D.nil])
 (.call 326 [] [a0.fld 1,b1.fld 1] fun yy3 =>
 .br ((yy3.getD 1 D.nil).toBool) (.call 298 [] [D.bool ((a0.fld 0).toBool),yy3.getD 0 D.nil] fun yy4 =>
 .ret [yy4.getD 0 D.nil])
 (.call 326 [] [b1.fld 1,a0.fld 1] fun yy5 =>
 .call 298 [] [D.bool ((b1.fld 0).toBool),yy5.getD 0 D.nil] fun yy6 =>
 .ret [yy6.getD 0 D.nil])):=by kernel_rfl
def Pe:List (Nat×Orc):=[(4,⟨[(1,none),(4,none),(6,none),(7,none)],[(4,false),(6,true),(7,true)],[]⟩)]
noncomputable def Ip(n m4:Nat)(nn1:Int)(t4_0:Bool)(out6 factor7:D):Tree :=
 lA (eA Pe n 314 [1,1,1,0,0,0]) (Ao Pe 4) m4 ⟨(.undef:: .i .i64 nn1:: .undef:: .undef:: .ptr 4 []:: .undef:: .ptr 6 []:: .ptr 7 []::uA 32),[(4,.var 187 (.agg 187 [.b t4_0,.mt]) true),(6,.var 187 (.d 187 out6) true),(7,.var 187 (.d 187 factor7) true)],[4,6,7],[],[]⟩
  (Ak 0 (Au (jA Pe n 314 [1,1,1,1]) (rA 314 [187,3] [.cell 4 187,.tmp 5] [187,29])))
theorem Vs(n m4:Nat)(nn1:Int)(t4_0:Bool)(out6 factor7:D):Ip n (m4+1) nn1 t4_0 out6 factor7 =
 .br (decide (0<nn1)) (.br (decide (32<(((factor7.fld 1).els).length:Int))) (.ret [D.agg [D.bool false,D.sl []],D.int 7])
 (.br ((Bs .and .i64 nn1 1)==1) (.call 254 [] [out6,factor7] fun yy3 =>
 .br (decide (32<((((yy3.getD 0 D.nil).fld 1).els).length:Int))) (.ret [D.agg [D.bool false,D.sl []],D.int 7])
 (.br (decide (0≤1)) (.br (decide (0<(Int.fdiv nn1 (2 ^ (min (Int.toNat 1) (IntKind.bits .i64)))))) (.call 254 [] [factor7,factor7] fun yy4 =>
 Ip n m4 (Int.fdiv nn1 (2 ^ (min (Int.toNat 1) (IntKind.bits .i64)))) t4_0 (yy3.getD 0 D.nil) (yy4.getD 0 D.nil))
 (Ip n m4 (Int.fdiv nn1 (2 ^ (min (Int.toNat 1) (IntKind.bits .i64)))) t4_0 (yy3.getD 0 D.nil) factor7)) .fail))
 (.br (decide (32<(((out6.fld 1).els).length:Int))) (.ret [D.agg [D.bool false,D.sl []],D.int 7])
 (.br (decide (0≤1)) (.br (decide (0<(Int.fdiv nn1 (2 ^ (min (Int.toNat 1) (IntKind.bits .i64)))))) (.call 254 [] [factor7,factor7] fun yy5 =>
 Ip n m4 (Int.fdiv nn1 (2 ^ (min (Int.toNat 1) (IntKind.bits .i64)))) t4_0 out6 (yy5.getD 0 D.nil))
 (Ip n m4 (Int.fdiv nn1 (2 ^ (min (Int.toNat 1) (IntKind.bits .i64)))) t4_0 out6 factor7)) .fail))))
 (.ret [out6,D.int 0]):=by kernel_rfl
theorem XQ(n:Nat)(a0 nn1:D):Ai Tryz.prog md Pe n 314 [] [a0,nn1] =
 .br (decide (nn1.toInt<0)) (.ret [D.agg [D.bool false,D.sl []],D.int 3])
 (.call 246 [] [D.int 1] fun yy1 =>
 .call 269 [] [a0] fun yy2 =>
 Ip n n nn1.toInt false (yy1.getD 0 D.nil) (yy2.getD 0 D.nil)):=by kernel_rfl
theorem XS(n:Nat)(a0 b1:D):Ai Tryz.prog md [] n 324 [] [a0,b1] =
 .call 313 [] [a0,D.agg [D.bool (!((b1.fld 0).toBool)),b1.fld 1]] fun yy1 =>
 .ret [yy1.getD 0 D.nil]:=by kernel_rfl
def Nb:List (Nat×Orc):=[(4,⟨[(0,some 62),(1,some 62),(5,none)],[],[]⟩)]
noncomputable def O8(n m4:Nat)(a0 b1:D)(i5:Int):Tree :=
 lA (eA Nb n 211 [1,1,0,1,0,0]) (Ao Nb 4) m4 ⟨(.d 62 a0:: .d 62 b1::uA 3++(.i .i64 i5::uA 20)),[],[],[],[]⟩
  (Ak 0 (Au (jA Nb n 211 [1,1,1]) (rA 211 [62,62] [.tmp 4] [4])))
theorem FY(n m4:Nat)(a0 b1:D)(i5:Int):O8 n (m4+1) a0 b1 i5 =
 .br (decide (i5<(a0.els.length:Int))) (.br (decide (0≤i5)) (.br (decide (i5<(a0.els.length:Int))) (.br (decide (0≤i5)) (.br (decide (i5<(b1.els.length:Int))) (.br (((a0.els.getD (Int.toNat i5) D.nil).toInt)!=((b1.els.getD (Int.toNat i5) D.nil).toInt)) (.ret [D.bool false])
 (O8 n m4 a0 b1 (IntKind.wrap .i64 (i5+1)))) .fail) .fail) .fail) .fail)
 (.ret [D.bool true]):=by kernel_rfl
theorem RA(n:Nat)(a0 b1:D):Ai Tryz.prog md Nb n 211 [] [a0,b1] =
 .br ((a0.els.length:Int)!=(b1.els.length:Int)) (.ret [D.bool false])
 (O8 n n a0 b1 0):=by kernel_rfl
theorem ZP(n:Nat)(x0 y1:D):Ai Tryz.prog md [] n 231 [] [x0,y1] =
 .call 271 [] [D.int x0.toInt,D.int y1.toInt] fun yy1 =>
 .ret [D.int ((yy1.getD 0 D.nil).toInt),D.int ((yy1.getD 1 D.nil).toInt)]:=by kernel_rfl
def O6:List (Nat×Orc):=[(3,⟨[(5,some 62),(6,some 62),(7,none)],[],[]⟩)]
noncomputable def Ii(n m3:Nat)(x5 y6:D)(k7:Int):Tree :=
 lA (eA O6 n 243 [1,1,0,1,0,0]) (Ao O6 3) m3 ⟨(uA 5++(.d 62 x5:: .d 62 y6:: .i .i64 k7::uA 26)),[],[],[],[]⟩
  (Ak 0 (Au (jA O6 n 243 [1,1,1]) (rA 243 [62,62] [.tmp 4] [62])))
theorem Nz(n m3:Nat)(x5 y6:D)(k7:Int):Ii n (m3+1) x5 y6 k7 =
 .br (decide (k7<100000)) (.br (decide (0<(y6.els.length:Int))) (.call 244 [] [x5,y6] fun yy3 =>
 Ii n m3 y6 (yy3.getD 1 D.nil) (IntKind.wrap .i64 (k7+1)))
 (.ret [x5]))
 (.ret [x5]):=by kernel_rfl
theorem WN(n:Nat)(a0 b1:D):Ai Tryz.prog md O6 n 243 [] [a0,b1] =
 .call 265 [] [a0] fun yy1 =>
 .call 265 [] [b1] fun yy2 =>
 Ii n n (yy1.getD 0 D.nil) (yy2.getD 0 D.nil) 0:=by kernel_rfl
def K3:List (Nat×Orc):=[(5,⟨[(0,some 62),(1,some 62),(7,some 62),(8,some 62),(9,none)],[],[]⟩)]
noncomputable def Jg(n m5:Nat)(a0 b1:D)(q7 r8:D)(i9:Int):Tree :=
 lA (eA K3 n 244 [1,1,1,0,1,0,0]) (Ao K3 5) m5 ⟨(.d 62 a0:: .d 62 b1::uA 5++(.d 62 q7:: .d 62 r8:: .i .i64 i9::uA 33)),[],[],[],[]⟩
  (Ak 0 (Au (jA K3 n 244 [1,1,1,1]) (rA 244 [62,62] [.tmp 4,.tmp 5,.tmp 6] [62,62,4])))
theorem Q0(n m5:Nat)(a0 b1:D)(q7 r8:D)(i9:Int):Jg n (m5+1) a0 b1 q7 r8 i9 =
 .br (decide (0≤i9)) (.call 296 [] [a0,D.int i9] fun yy2 =>
 .call 295 [] [r8,D.int ((yy2.getD 0 D.nil).toInt)] fun yy3 =>
 .call 297 [] [yy3.getD 0 D.nil,b1] fun yy4 =>
 .br ((yy4.getD 1 D.nil).toBool) (.call 295 [] [q7,D.int 1] fun yy5 =>
 Jg n m5 a0 b1 (yy5.getD 0 D.nil) (yy4.getD 0 D.nil) (IntKind.wrap .i64 (i9-1)))
 (.call 295 [] [q7,D.int 0] fun yy6 =>
 Jg n m5 a0 b1 (yy6.getD 0 D.nil) (yy3.getD 0 D.nil) (IntKind.wrap .i64 (i9-1))))
 (.ret [q7,r8,D.bool true]):=by kernel_rfl
theorem JY(n:Nat)(a0 b1:D):Ai Tryz.prog md K3 n 244 [] [a0,b1] =
 .call 265 [] [b1] fun yy1 =>
 .br ((((yy1.getD 0 D.nil).els).length:Int)==0) (.ret [D.sl [],D.sl [],D.bool false])
 (Jg n n a0 b1 (D.sl []) (D.sl []) (IntKind.wrap .i64 ((IntKind.wrap .i64 (32*(a0.els.length:Int)))-1))):=by kernel_rfl
def Na:List (Nat×Orc):=[(2,⟨[(0,some 62),(3,none)],[],[]⟩)]
noncomputable def O7(n m2:Nat)(a0:D)(nn3:Int):Tree :=
 lA (eA Na n 265 [1,1,0,0,0]) (Ao Na 2) m2 ⟨(.d 62 a0:: .undef:: .undef:: .i .i64 nn3::uA 20),[],[],[],[]⟩
  (Ak 0 (Au (jA Na n 265 [1,1,1]) (rA 265 [62] [.tmp 2] [62])))
theorem Uu(n m2:Nat)(a0:D)(nn3:Int):O7 n (m2+1) a0 nn3 =
 .br (decide (0<nn3)) (.br (decide (0≤IntKind.wrap .i64 (nn3-1))) (.br (decide (IntKind.wrap .i64 (nn3-1)<(a0.els.length:Int))) (.br (((a0.els.getD (Int.toNat (IntKind.wrap .i64 (nn3-1))) D.nil).toInt)==0) (O7 n m2 a0 (IntKind.wrap .i64 (nn3-1)))
 (.br (decide (0≤nn3)) (.br (decide (nn3≤(a0.els.length:Int))) (.br (decide ((a0.els.take (Int.toNat nn3)).length≤Ar)) (.ret [D.sl (a0.els.take (Int.toNat nn3))]) .fail) .fail) .fail)) .fail) .fail)
 (.br (decide (0≤nn3)) (.br (decide (nn3≤(a0.els.length:Int))) (.br (decide ((a0.els.take (Int.toNat nn3)).length≤Ar)) (.ret [D.sl (a0.els.take (Int.toNat nn3))]) .fail) .fail) .fail):=by kernel_rfl
theorem QZ(n:Nat)(a0:D):Ai Tryz.prog md Na n 265 [] [a0] =
 O7 n n a0 (a0.els.length:Int):=by kernel_rfl
def O0:List (Nat×Orc):=[(4,⟨[(0,some 62),(1,some 62),(5,none),(6,none),(7,none)],[],[(.slot 5,1040,180)]⟩)]
noncomputable def Qx(n m4:Nat)(a0 b1:D)(out5:List D)(carry6 i7:Int):Tree :=
 lA (eA O0 n 268 [1,1,1,0,1,0,0]) (Ao O0 4) m4 ⟨(.d 62 a0:: .d 62 b1::uA 3++(.row 1040:: .i .u64 carry6:: .i .i64 i7::uA 27)),[(1040,.row 180 out5 true)],[1040],[],[]⟩
  (Ak 0 (Au (jA O0 n 268 [1,1,1,1]) (rA 268 [62,62] [.tmp 4] [62])))
theorem Vm(n m4:Nat)(a0 b1:D)(out5:List D)(carry6 i7:Int):Qx n (m4+1) a0 b1 out5 carry6 i7 =
 .call 310 [] [a0,b1] fun yy1 =>
 .br (decide (i7≤((yy1.getD 0 D.nil).toInt))) (.call 311 [] [a0,D.int i7] fun yy2 =>
 .call 311 [] [b1,D.int i7] fun yy3 =>
 .br (!(4294967296 == (0:Int))) (.br (decide (out5.length + [D.int (IntKind.wrap .u32 (Int.tmod (IntKind.wrap .u64 ((IntKind.wrap .u64 (((yy2.getD 0 D.nil).toInt)+((yy3.getD 0 D.nil).toInt)))+carry6)) 4294967296))].length≤Ar)) (.br (!(4294967296 == (0:Int))) (Qx n m4 a0 b1 (out5++[D.int (IntKind.wrap .u32 (Int.tmod (IntKind.wrap .u64 ((IntKind.wrap .u64 (((yy2.getD 0 D.nil).toInt)+((yy3.getD 0 D.nil).toInt)))+carry6)) 4294967296))]) (IntKind.wrap .u64 (Int.tdiv (IntKind.wrap .u64 ((IntKind.wrap .u64 (((yy2.getD 0 D.nil).toInt)+((yy3.getD 0 D.nil).toInt)))+carry6)) 4294967296)) (IntKind.wrap .i64 (i7+1))) .fail) .fail) .fail)
 (.call 265 [] [D.sl out5] fun yy4 =>
 .ret [yy4.getD 0 D.nil]):=by kernel_rfl
theorem WK(n:Nat)(a0 b1:D):Ai Tryz.prog md O0 n 268 [] [a0,b1] =
 Qx n n a0 b1 [] 0 0:=by kernel_rfl
theorem OU(n:Nat)(x0 y1:D):Ai Tryz.prog md [] n 271 [] [x0,y1] =
 .br (decide (0≤32)) (.br (decide (0≤32)) (.br (decide (0≤32)) (.br (decide (0≤32)) (.br (decide (0≤32)) (.ret [D.int (IntKind.wrap .u64 ((IntKind.wrap .u64 ((IntKind.wrap .u64 ((Int.fdiv x0.toInt (2 ^ (min (Int.toNat 32) (IntKind.bits .u64))))*(Int.fdiv y1.toInt (2 ^ (min (Int.toNat 32) (IntKind.bits .u64))))))+(Int.fdiv (IntKind.wrap .u64 ((IntKind.wrap .u64 ((Int.fdiv x0.toInt (2 ^ (min (Int.toNat 32) (IntKind.bits .u64))))*(Bs .and .u64 y1.toInt 4294967295)))+(Int.fdiv (IntKind.wrap .u64 ((Bs .and .u64 x0.toInt 4294967295)*(Bs .and .u64 y1.toInt 4294967295))) (2 ^ (min (Int.toNat 32) (IntKind.bits .u64)))))) (2 ^ (min (Int.toNat 32) (IntKind.bits .u64))))))+(Int.fdiv (IntKind.wrap .u64 ((Bs .and .u64 (IntKind.wrap .u64 ((IntKind.wrap .u64 ((Int.fdiv x0.toInt (2 ^ (min (Int.toNat 32) (IntKind.bits .u64))))*(Bs .and .u64 y1.toInt 4294967295)))+(Int.fdiv (IntKind.wrap .u64 ((Bs .and .u64 x0.toInt 4294967295)*(Bs .and .u64 y1.toInt 4294967295))) (2 ^ (min (Int.toNat 32) (IntKind.bits .u64)))))) 4294967295)+(IntKind.wrap .u64 ((Bs .and .u64 x0.toInt 4294967295)*(Int.fdiv y1.toInt (2 ^ (min (Int.toNat 32) (IntKind.bits .u64)))))))) (2 ^ (min (Int.toNat 32) (IntKind.bits .u64)))))),D.int (IntKind.wrap .u64 (x0.toInt*y1.toInt))]) .fail) .fail) .fail) .fail) .fail:=by kernel_rfl
def Lt:List (Nat×Orc):=[(4,⟨[(0,some 62),(5,none),(6,none),(7,none)],[],[(.slot 5,1040,180)]⟩)]
noncomputable def Nc(n m4:Nat)(a0:D)(out5:List D)(carry6 i7:Int):Tree :=
 lA (eA Lt n 295 [1,1,1,0,1,0,0]) (Ao Lt 4) m4 ⟨(.d 62 a0::uA 4++(.row 1040:: .i .u64 carry6:: .i .i64 i7::uA 25)),[(1040,.row 180 out5 true)],[1040],[],[]⟩
  (Ak 0 (Au (jA Lt n 295 [1,1,1,1]) (rA 295 [62,180] [.tmp 4] [62])))
theorem R4(n m4:Nat)(a0:D)(out5:List D)(carry6 i7:Int):Nc n (m4+1) a0 out5 carry6 i7 =
 .br (decide (i7≤(a0.els.length:Int))) (.call 311 [] [a0,D.int i7] fun yy1 =>
 .br (!(4294967296 == (0:Int))) (.br (decide (out5.length + [D.int (IntKind.wrap .u32 (Int.tmod (IntKind.wrap .u64 ((IntKind.wrap .u64 (2*((yy1.getD 0 D.nil).toInt)))+carry6)) 4294967296))].length≤Ar)) (.br (!(4294967296 == (0:Int))) (Nc n m4 a0 (out5++[D.int (IntKind.wrap .u32 (Int.tmod (IntKind.wrap .u64 ((IntKind.wrap .u64 (2*((yy1.getD 0 D.nil).toInt)))+carry6)) 4294967296))]) (IntKind.wrap .u64 (Int.tdiv (IntKind.wrap .u64 ((IntKind.wrap .u64 (2*((yy1.getD 0 D.nil).toInt)))+carry6)) 4294967296)) (IntKind.wrap .i64 (i7+1))) .fail) .fail) .fail)
 (.call 265 [] [D.sl out5] fun yy2 =>
 .ret [yy2.getD 0 D.nil]):=by kernel_rfl
theorem NO(n:Nat)(a0 bit1:D):Ai Tryz.prog md Lt n 295 [] [a0,bit1] =
 Nc n n a0 [] (IntKind.wrap .u64 bit1.toInt) 0:=by kernel_rfl
def O4:List (Nat×Orc):=[(3,⟨[(1,none),(5,none),(6,none)],[],[]⟩)]
noncomputable def Qy(n m3:Nat)(i1 w5 k6:Int):Tree :=
 lA (eA O4 n 296 [1,1,0,1,0,0]) (Ao O4 3) m3 ⟨(.undef:: .i .i64 i1::uA 3++(.i .u64 w5:: .i .i64 k6::uA 15)),[],[],[],[]⟩
  (Ak 0 (Au (jA O4 n 296 [1,1,1]) (rA 296 [62,3] [.tmp 4] [180])))
theorem Vn(n m3:Nat)(i1 w5 k6:Int):Qy n (m3+1) i1 w5 k6 =
 .br (!(32 == (0:Int))) (.br (decide (k6<(Int.tmod i1 32))) (.br (!(2 == (0:Int))) (Qy n m3 i1 (IntKind.wrap .u64 (Int.tdiv w5 2)) (IntKind.wrap .i64 (k6+1))) .fail)
 (.br (!(2 == (0:Int))) (.ret [D.int (IntKind.wrap .u32 (Int.tmod w5 2))]) .fail)) .fail:=by kernel_rfl
theorem WL(n:Nat)(a0 i1:D):Ai Tryz.prog md O4 n 296 [] [a0,i1] =
 .br (!(32 == (0:Int))) (.call 311 [] [a0,D.int (IntKind.wrap .i64 (Int.tdiv i1.toInt 32))] fun yy1 =>
 Qy n n i1.toInt ((yy1.getD 0 D.nil).toInt) 0) .fail:=by kernel_rfl
def O9:List (Nat×Orc):=[(6,⟨[(0,some 62),(1,some 62),(6,none),(7,none),(8,none)],[],[(.slot 6,1060,180)]⟩)]
noncomputable def Q4(n m6:Nat)(a0 b1:D)(out6:List D)(borrow7 i8:Int):Tree :=
 lA (eA O9 n 297 [1,1,1,1,0,1,0,0]) (Ao O9 6) m6 ⟨(.d 62 a0:: .d 62 b1::uA 4++(.row 1060:: .i .u64 borrow7:: .i .i64 i8::uA 33)),[(1060,.row 180 out6 true)],[1060],[],[]⟩
  (Ak 0 (Au (jA O9 n 297 [1,1,1,1,1]) (rA 297 [62,62] [.tmp 4,.tmp 5] [62,4])))
theorem Vp(n m6:Nat)(a0 b1:D)(out6:List D)(borrow7 i8:Int):Q4 n (m6+1) a0 b1 out6 borrow7 i8 =
 .call 310 [] [a0,b1] fun yy2 =>
 .br (decide (i8<((yy2.getD 0 D.nil).toInt))) (.call 311 [] [a0,D.int i8] fun yy3 =>
 .call 311 [] [b1,D.int i8] fun yy4 =>
 .br (!(4294967296 == (0:Int))) (.br (decide (out6.length + [D.int (IntKind.wrap .u32 (Int.tmod (IntKind.wrap .u64 ((IntKind.wrap .u64 ((IntKind.wrap .u64 (4294967296+((yy3.getD 0 D.nil).toInt)))-((yy4.getD 0 D.nil).toInt)))-borrow7)) 4294967296))].length≤Ar)) (.br (!(4294967296 == (0:Int))) (Q4 n m6 a0 b1 (out6++[D.int (IntKind.wrap .u32 (Int.tmod (IntKind.wrap .u64 ((IntKind.wrap .u64 ((IntKind.wrap .u64 (4294967296+((yy3.getD 0 D.nil).toInt)))-((yy4.getD 0 D.nil).toInt)))-borrow7)) 4294967296))]) (IntKind.wrap .u64 (1-(IntKind.wrap .u64 (Int.tdiv (IntKind.wrap .u64 ((IntKind.wrap .u64 ((IntKind.wrap .u64 (4294967296+((yy3.getD 0 D.nil).toInt)))-((yy4.getD 0 D.nil).toInt)))-borrow7)) 4294967296)))) (IntKind.wrap .i64 (i8+1))) .fail) .fail) .fail)
 (.call 265 [] [D.sl out6] fun yy5 =>
 .ret [yy5.getD 0 D.nil,D.bool true]):=by kernel_rfl
theorem WO(n:Nat)(a0 b1:D):Ai Tryz.prog md O9 n 297 [] [a0,b1] =
 .call 320 [] [a0,b1] fun yy1 =>
 .br (decide (((yy1.getD 0 D.nil).toInt)<0)) (.ret [D.sl [],D.bool false])
 (Q4 n n a0 b1 [] 0 0):=by kernel_rfl
theorem Aai(n:Nat)(a0:D):Ai Tryz.prog md [] n 299 [] [a0] =
 .call 321 [] [a0] fun yy1 =>
 .br (decide (0≤(((yy1.getD 0 D.nil).els).length:Int))) (.br (decide ((((yy1.getD 0 D.nil).els).length:Int)≤(((yy1.getD 0 D.nil).els).length:Int))) (.br (decide ((((yy1.getD 0 D.nil).els).length:Int)≤Ar)) (.ret [D.sl (((yy1.getD 0 D.nil).els).take (List.replicate (Int.toNat (((yy1.getD 0 D.nil).els).length:Int)) (D.int 0)).length++(List.replicate (Int.toNat (((yy1.getD 0 D.nil).els).length:Int)) (D.int 0)).drop ((yy1.getD 0 D.nil).els).length)]) .fail) .fail) .fail:=by kernel_rfl
def Td:List (Nat×Orc):=[(7,⟨[(0,some 62),(1,some 62),(5,none)],[],[]⟩)]
noncomputable def V3(n m7:Nat)(a0 b1:D)(i5:Int):Tree :=
 lA (eA Td n 302 [1,1,1,0,1,0,0]) (Ao Td 7) m7 ⟨(.d 62 a0:: .d 62 b1::uA 3++(.i .i64 i5::uA 43)),[],[],[],[]⟩
  (Ak 1 (Au (jA Td n 302 [1,1,1,1]) (rA 302 [62,62] [.tmp 4] [3])))
theorem Yc(n m7:Nat)(a0 b1:D)(i5:Int):V3 n (m7+1) a0 b1 i5 =
 .br (decide (0≤i5)) (.br (decide (0≤i5)) (.br (decide (i5<(a0.els.length:Int))) (.br (decide (0≤i5)) (.br (decide (i5<(b1.els.length:Int))) (.br (decide (((a0.els.getD (Int.toNat i5) D.nil).toInt)<((b1.els.getD (Int.toNat i5) D.nil).toInt))) (.ret [D.int (-1)])
 (.br (decide (0≤i5)) (.br (decide (i5<(a0.els.length:Int))) (.br (decide (0≤i5)) (.br (decide (i5<(b1.els.length:Int))) (.br (decide (((b1.els.getD (Int.toNat i5) D.nil).toInt)<((a0.els.getD (Int.toNat i5) D.nil).toInt))) (.ret [D.int 1])
 (V3 n m7 a0 b1 (IntKind.wrap .i64 (i5-1)))) .fail) .fail) .fail) .fail)) .fail) .fail) .fail) .fail)
 (.ret [D.int 0]):=by kernel_rfl
theorem AbG(n:Nat)(a0 b1:D):Ai Tryz.prog md Td n 302 [] [a0,b1] =
 .call 321 [] [a0] fun yy1 =>
 .call 321 [] [b1] fun yy2 =>
 .br (decide ((((yy1.getD 0 D.nil).els).length:Int)<(((yy2.getD 0 D.nil).els).length:Int))) (.ret [D.int (-1)])
 (.br (decide ((((yy2.getD 0 D.nil).els).length:Int)<(((yy1.getD 0 D.nil).els).length:Int))) (.ret [D.int 1])
 (V3 n n (yy1.getD 0 D.nil) (yy2.getD 0 D.nil) (IntKind.wrap .i64 ((((yy1.getD 0 D.nil).els).length:Int)-1)))):=by kernel_rfl
def Ei:List (Nat×Orc):=[(6,⟨[(1,some 62),(5,none),(30,some 62),(31,none),(32,none)],[],[(.slot 5,1060,180)]⟩),(10,⟨[(1,some 62),(5,none),(6,none),(7,none),(8,none),(30,some 62),(31,none),(32,none),(37,some 62),(38,none),(39,none)],[],[(.slot 5,1100,180)]⟩)]
noncomputable def Tf(n m6 m10:Nat)(b1:D)(out5:List D)(i6 x7 carry8:Int)(t30:D)(t31 t32:Int)(t37:D)(t38 t39:Int):Tree :=
 lA (eA Ei n 303 [1,1,1,1,0,1,0,0,1,1,0,0,1,1,0,1,0,0]) (Ao Ei 10) m10 ⟨(.undef:: .d 62 b1::uA 3++(.row 1100:: .i .i64 i6:: .i .u32 x7:: .i .u64 carry8::uA 21++(.d 62 t30:: .i .i64 t31:: .i .i64 t32::uA 4++(.d 62 t37:: .i .i64 t38:: .i .i64 t39::uA 40)))),[(1100,.row 180 out5 true)],[1100],[],[]⟩
  (Ak 2 (Au (jA Ei n 303 [1,1,1,1,0,1,0,0,1,1,0,0,1,1,1]) (Ak 1 (Au (jA Ei n 303 [1,1,1,1,0,1,0,0,1,1,1]) (J0 Tryz.prog md (Ao Ei 6) (fun s1=>lA (eA Ei n 303 [1,1,1,1,0,1,0,0]) (Ao Ei 6) m6 s1 (Ak 0 (Au (jA Ei n 303 [1,1,1,1,1]) (rA 303 [62,62] [.tmp 4] [62])))) (Ak 0 (Au (jA Ei n 303 [1,1,1,1,1]) (rA 303 [62,62] [.tmp 4] [62]))))))))
noncomputable def V4(n m6:Nat)(b1:D)(out5:List D)(t30:D)(t31 t32:Int):Tree :=
 lA (eA Ei n 303 [1,1,1,1,0,1,0,0]) (Ao Ei 6) m6 ⟨(.undef:: .d 62 b1::uA 3++(.row 1060::uA 24++(.d 62 t30:: .i .i64 t31:: .i .i64 t32::uA 47))),[(1060,.row 180 out5 true)],[1060],[],[]⟩
  (Ak 0 (Au (jA Ei n 303 [1,1,1,1,1]) (rA 303 [62,62] [.tmp 4] [62])))
theorem W5(n m6 m10:Nat)(b1:D)(out5:List D)(i6 x7 carry8:Int)(t30:D)(t31 t32:Int)(t37:D)(t38 t39:Int):Tf n m6 (m10+1) b1 out5 i6 x7 carry8 t30 t31 t32 t37 t38 t39 =
 .br (decide (t39<t38)) (.br (decide (0≤t39)) (.br (decide (t39<(t37.els.length:Int))) (.br (decide (0≤IntKind.wrap .i64 (i6+t39))) (.br (decide (IntKind.wrap .i64 (i6+t39)<(out5.length:Int))) (.br (decide (0≤IntKind.wrap .i64 (i6+t39))) (.br (decide (IntKind.wrap .i64 (i6+t39)<(out5.length:Int))) (.br (decide (0≤32)) (Tf n m6 m10 b1 (out5.set (Int.toNat (IntKind.wrap .i64 (i6+t39))) (D.int (IntKind.wrap .u32 (IntKind.wrap .u64 ((IntKind.wrap .u64 ((IntKind.wrap .u64 ((IntKind.wrap .u64 x7)*(IntKind.wrap .u64 ((t37.els.getD (Int.toNat t39) D.nil).toInt))))+(IntKind.wrap .u64 ((out5.getD (Int.toNat (IntKind.wrap .i64 (i6+t39))) D.nil).toInt))))+carry8))))) i6 x7 (Int.fdiv (IntKind.wrap .u64 ((IntKind.wrap .u64 ((IntKind.wrap .u64 ((IntKind.wrap .u64 x7)*(IntKind.wrap .u64 ((t37.els.getD (Int.toNat t39) D.nil).toInt))))+(IntKind.wrap .u64 ((out5.getD (Int.toNat (IntKind.wrap .i64 (i6+t39))) D.nil).toInt))))+carry8)) (2 ^ (min (Int.toNat 32) (IntKind.bits .u64)))) t30 t31 t32 t37 t38 (IntKind.wrap .i64 (t39+1))) .fail) .fail) .fail) .fail) .fail) .fail) .fail)
 (.br (decide (0≤IntKind.wrap .i64 (i6+(b1.els.length:Int)))) (.br (decide (IntKind.wrap .i64 (i6+(b1.els.length:Int))<(out5.length:Int))) (V4 n m6 b1 (out5.set (Int.toNat (IntKind.wrap .i64 (i6+(b1.els.length:Int)))) (D.int (IntKind.wrap .u32 carry8))) t30 t31 (IntKind.wrap .i64 (t32+1))) .fail) .fail):=by kernel_rfl
theorem Yd(n m6:Nat)(b1:D)(out5:List D)(t30:D)(t31 t32:Int):V4 n (m6+1) b1 out5 t30 t31 t32 =
 .br (decide (t32<t31)) (.br (decide (0≤t32)) (.br (decide (t32<(t30.els.length:Int))) (Tf n m6 n b1 out5 t32 ((t30.els.getD (Int.toNat t32) D.nil).toInt) 0 t30 t31 t32 b1 (b1.els.length:Int) 0) .fail) .fail)
 (.call 321 [] [D.sl out5] fun yy3 =>
 .ret [yy3.getD 0 D.nil]):=by kernel_rfl
theorem AbI(n:Nat)(a0 b1:D):Ai Tryz.prog md Ei n 303 [] [a0,b1] =
 .call 321 [] [a0] fun yy1 =>
 .call 321 [] [b1] fun yy2 =>
 .br ((((yy1.getD 0 D.nil).els).length:Int)==0) (.ret [D.sl []])
 (.br ((((yy2.getD 0 D.nil).els).length:Int)==0) (.ret [D.sl []])
 (.br (decide (0≤IntKind.wrap .i64 ((((yy1.getD 0 D.nil).els).length:Int)+(((yy2.getD 0 D.nil).els).length:Int)))) (.br (decide (IntKind.wrap .i64 ((((yy1.getD 0 D.nil).els).length:Int)+(((yy2.getD 0 D.nil).els).length:Int))≤IntKind.wrap .i64 ((((yy1.getD 0 D.nil).els).length:Int)+(((yy2.getD 0 D.nil).els).length:Int)))) (.br (decide (IntKind.wrap .i64 ((((yy1.getD 0 D.nil).els).length:Int)+(((yy2.getD 0 D.nil).els).length:Int))≤Ar)) (V4 n n (yy2.getD 0 D.nil) (List.replicate (Int.toNat (IntKind.wrap .i64 ((((yy1.getD 0 D.nil).els).length:Int)+(((yy2.getD 0 D.nil).els).length:Int)))) (D.int 0)) (yy1.getD 0 D.nil) (((yy1.getD 0 D.nil).els).length:Int) 0) .fail) .fail) .fail)):=by kernel_rfl
theorem JZ(n:Nat)(a0 b1:D):Ai Tryz.prog md [] n 310 [] [a0,b1] =
 .br (decide ((b1.els.length:Int)<(a0.els.length:Int))) (.ret [D.int (a0.els.length:Int)])
 (.ret [D.int (b1.els.length:Int)]):=by kernel_rfl
theorem RB(n:Nat)(a0 i1:D):Ai Tryz.prog md [] n 311 [] [a0,i1] =
 .br (decide (i1.toInt<(a0.els.length:Int))) (.br (decide (0≤i1.toInt)) (.br (decide (i1.toInt<(a0.els.length:Int))) (.ret [D.int (IntKind.wrap .u64 ((a0.els.getD (Int.toNat i1.toInt) D.nil).toInt))]) .fail) .fail)
 (.ret [D.int 0]):=by kernel_rfl
def Te:List (Nat×Orc):=[(2,⟨[(0,some 62),(1,some 62)],[],[]⟩)]
noncomputable def Qi(n m2:Nat)(a0 b1:D):Tree :=
 lA (eA Te n 315 [1,1,0,0,0]) (Ao Te 2) m2 ⟨(.d 62 a0:: .d 62 b1::uA 37),[],[],[],[]⟩
  (Ak 0 (Au (jA Te n 315 [1,1,1]) (rA 315 [62,62] [.tmp 4] [62])))
theorem QE(n m2:Nat)(a0 b1:D):Qi n (m2+1) a0 b1 =
 .br (decide (0<(b1.els.length:Int))) (.br (decide ((a0.els.length:Int)≤2)) (.br (decide ((b1.els.length:Int)≤2)) (.call 328 [] [a0] fun yy3 =>
 .call 328 [] [b1] fun yy4 =>
 .call 327 [] [D.int ((yy3.getD 0 D.nil).toInt),D.int ((yy4.getD 0 D.nil).toInt)] fun yy5 =>
 .ret [yy5.getD 0 D.nil])
 (.call 323 [] [a0,b1] fun yy6 =>
 Qi n m2 b1 (yy6.getD 1 D.nil)))
 (.call 323 [] [a0,b1] fun yy7 =>
 Qi n m2 b1 (yy7.getD 1 D.nil)))
 (.call 299 [] [a0] fun yy8 =>
 .ret [D.sl ((yy8.getD 0 D.nil).els)]):=by kernel_rfl
theorem AbH(n:Nat)(a0 b1:D):Ai Tryz.prog md Te n 315 [] [a0,b1] =
 .call 321 [] [a0] fun yy1 =>
 .call 321 [] [b1] fun yy2 =>
 Qi n n (yy1.getD 0 D.nil) (yy2.getD 0 D.nil):=by kernel_rfl
def O5:List (Nat×Orc):=[(2,⟨[(0,some 62),(1,some 62),(5,none)],[],[]⟩)]
noncomputable def Qz(n m2:Nat)(a0 b1:D)(i5:Int):Tree :=
 lA (eA O5 n 320 [1,0,1,0,0]) (Ao O5 2) m2 ⟨(.d 62 a0:: .d 62 b1::uA 3++(.i .i64 i5::uA 22)),[],[],[],[]⟩
  (Ak 0 (Au (jA O5 n 320 [1,1]) (rA 320 [62,62] [.tmp 4] [3])))
theorem Vo(n m2:Nat)(a0 b1:D)(i5:Int):Qz n (m2+1) a0 b1 i5 =
 .br (decide (0≤i5)) (.call 311 [] [a0,D.int i5] fun yy2 =>
 .call 311 [] [b1,D.int i5] fun yy3 =>
 .br (decide (((yy2.getD 0 D.nil).toInt)<((yy3.getD 0 D.nil).toInt))) (.ret [D.int (-1)])
 (.call 311 [] [a0,D.int i5] fun yy4 =>
 .call 311 [] [b1,D.int i5] fun yy5 =>
 .br (decide (((yy5.getD 0 D.nil).toInt)<((yy4.getD 0 D.nil).toInt))) (.ret [D.int 1])
 (Qz n m2 a0 b1 (IntKind.wrap .i64 (i5-1)))))
 (.ret [D.int 0]):=by kernel_rfl
theorem WM(n:Nat)(a0 b1:D):Ai Tryz.prog md O5 n 320 [] [a0,b1] =
 .call 310 [] [a0,b1] fun yy1 =>
 Qz n n a0 b1 (IntKind.wrap .i64 (((yy1.getD 0 D.nil).toInt)-1)):=by kernel_rfl
def Qm:List (Nat×Orc):=[(2,⟨[(0,some 62),(3,none)],[],[]⟩)]
noncomputable def Ti(n m2:Nat)(a0:D)(nn3:Int):Tree :=
 lA (eA Qm n 321 [1,1,0,0,0]) (Ao Qm 2) m2 ⟨(.d 62 a0:: .undef:: .undef:: .i .i64 nn3::uA 18),[],[],[],[]⟩
  (Ak 0 (Au (jA Qm n 321 [1,1,1]) (rA 321 [62] [.tmp 2] [62])))
theorem W7(n m2:Nat)(a0:D)(nn3:Int):Ti n (m2+1) a0 nn3 =
 .br (decide (0<nn3)) (.br (decide (0≤IntKind.wrap .i64 (nn3-1))) (.br (decide (IntKind.wrap .i64 (nn3-1)<(a0.els.length:Int))) (.br (((a0.els.getD (Int.toNat (IntKind.wrap .i64 (nn3-1))) D.nil).toInt)==0) (Ti n m2 a0 (IntKind.wrap .i64 (nn3-1)))
 (.br (decide (0≤nn3)) (.br (decide (nn3≤nn3)) (.br (decide (nn3≤(a0.els.length:Int))) (.ret [D.sl (a0.els.take (Int.toNat nn3))]) .fail) .fail) .fail)) .fail) .fail)
 (.br (decide (0≤nn3)) (.br (decide (nn3≤nn3)) (.br (decide (nn3≤(a0.els.length:Int))) (.ret [D.sl (a0.els.take (Int.toNat nn3))]) .fail) .fail) .fail):=by kernel_rfl
theorem Aak(n:Nat)(a0:D):Ai Tryz.prog md Qm n 321 [] [a0] =
 Ti n n a0 (a0.els.length:Int):=by kernel_rfl
theorem QD(n:Nat)(a0 b1:D):Ai Tryz.prog md [] n 323 [] [a0,b1] =
 .call 321 [] [a0] fun yy1 =>
 .call 321 [] [b1] fun yy2 =>
 .br ((((yy2.getD 0 D.nil).els).length:Int)==0) (.ret [D.sl [],D.sl [],D.bool false])
 (.call 302 [] [yy1.getD 0 D.nil,yy2.getD 0 D.nil] fun yy3 =>
 .br (decide (((yy3.getD 0 D.nil).toInt)<0)) (.call 299 [] [yy1.getD 0 D.nil] fun yy4 =>
 .ret [D.sl [],D.sl ((yy4.getD 0 D.nil).els),D.bool true])
 (.br ((((yy2.getD 0 D.nil).els).length:Int)==1) (.call 299 [] [yy1.getD 0 D.nil] fun yy5 =>
 .br (decide (0≤0)) (.br (decide (0<(((yy2.getD 0 D.nil).els).length:Int))) (.call 331 [] [D.sl ((yy5.getD 0 D.nil).els),D.int ((((yy2.getD 0 D.nil).els).getD (Int.toNat 0) D.nil).toInt)] fun yy6 =>
 .call 321 [] [D.sl ((yy6.getD 1 D.nil).els)] fun yy7 =>
 .call 299 [] [D.sl [D.int ((yy6.getD 0 D.nil).toInt)]] fun yy8 =>
 .ret [yy7.getD 0 D.nil,D.sl ((yy8.getD 0 D.nil).els),D.bool true]) .fail) .fail)
 (.call 332 [] [yy1.getD 0 D.nil,yy2.getD 0 D.nil] fun yy9 =>
 .ret [yy9.getD 0 D.nil,yy9.getD 1 D.nil,D.bool true]))):=by kernel_rfl
def Tc:List (Nat×Orc):=[(8,⟨[(1,some 62),(5,none),(6,none),(30,none),(31,none)],[],[(.slot 5,1080,180)]⟩)]
noncomputable def Kx(n m8:Nat)(b1:D)(out5:List D)(carry6 t30 t31:Int):Tree :=
 lA (eA Tc n 325 [1,1,1,1,1,1,0,1,0,0]) (Ao Tc 8) m8 ⟨(.undef:: .d 62 b1::uA 3++(.row 1080:: .i .u32 carry6::uA 23++(.i .i64 t30:: .i .i64 t31::uA 33))),[(1080,.row 180 out5 true)],[1080],[],[]⟩
  (Ak 0 (Au (jA Tc n 325 [1,1,1,1,1,1,1]) (rA 325 [62,62] [.tmp 4] [62])))
theorem Yb(n m8:Nat)(b1:D)(out5:List D)(carry6 t30 t31:Int):Kx n (m8+1) b1 out5 carry6 t30 t31 =
 .br (decide (t31<t30)) (.br (decide (t31<(b1.els.length:Int))) (.br (decide (0≤t31)) (.br (decide (t31<(b1.els.length:Int))) (.br (decide (0≤t31)) (.br (decide (t31<(out5.length:Int))) (.call 333 [] [D.int ((out5.getD (Int.toNat t31) D.nil).toInt),D.int ((b1.els.getD (Int.toNat t31) D.nil).toInt),D.int carry6] fun yy3 =>
 .br (decide (0≤t31)) (.br (decide (t31<(out5.length:Int))) (Kx n m8 b1 (out5.set (Int.toNat t31) (D.int ((yy3.getD 0 D.nil).toInt))) ((yy3.getD 1 D.nil).toInt) t30 (IntKind.wrap .i64 (t31+1))) .fail) .fail) .fail) .fail) .fail) .fail)
 (.br (carry6 == 0) (.br (carry6 != 0) (.br (decide (out5.length + [D.int carry6].length≤Ar)) (.ret [D.sl (out5++[D.int carry6])]) .fail)
 (.ret [D.sl out5]))
 (.br (decide (0≤t31)) (.br (decide (t31<(out5.length:Int))) (.call 333 [] [D.int ((out5.getD (Int.toNat t31) D.nil).toInt),D.int 0,D.int carry6] fun yy4 =>
 .br (decide (0≤t31)) (.br (decide (t31<(out5.length:Int))) (Kx n m8 b1 (out5.set (Int.toNat t31) (D.int ((yy4.getD 0 D.nil).toInt))) ((yy4.getD 1 D.nil).toInt) t30 (IntKind.wrap .i64 (t31+1))) .fail) .fail) .fail) .fail)))
 (.br (carry6 != 0) (.br (decide (out5.length + [D.int carry6].length≤Ar)) (.ret [D.sl (out5++[D.int carry6])]) .fail)
 (.ret [D.sl out5])):=by kernel_rfl
theorem AbF(n:Nat)(a0 b1:D):Ai Tryz.prog md Tc n 325 [] [a0,b1] =
 .call 321 [] [a0] fun yy1 =>
 .call 321 [] [b1] fun yy2 =>
 .br (decide ((((yy1.getD 0 D.nil).els).length:Int)<(((yy2.getD 0 D.nil).els).length:Int))) (.br (decide (0≤(((yy2.getD 0 D.nil).els).length:Int))) (.br (decide ((((yy2.getD 0 D.nil).els).length:Int)≤IntKind.wrap .i64 ((((yy2.getD 0 D.nil).els).length:Int)+1))) (.br (decide (IntKind.wrap .i64 ((((yy2.getD 0 D.nil).els).length:Int)+1)≤Ar)) (Kx n n (yy1.getD 0 D.nil) (((yy2.getD 0 D.nil).els).take (List.replicate (Int.toNat (((yy2.getD 0 D.nil).els).length:Int)) (D.int 0)).length++(List.replicate (Int.toNat (((yy2.getD 0 D.nil).els).length:Int)) (D.int 0)).drop ((yy2.getD 0 D.nil).els).length) 0 ((((yy2.getD 0 D.nil).els).take (List.replicate (Int.toNat (((yy2.getD 0 D.nil).els).length:Int)) (D.int 0)).length++(List.replicate (Int.toNat (((yy2.getD 0 D.nil).els).length:Int)) (D.int 0)).drop ((yy2.getD 0 D.nil).els).length).length:Int) 0) .fail) .fail) .fail)
 (.br (decide (0≤(((yy1.getD 0 D.nil).els).length:Int))) (.br (decide ((((yy1.getD 0 D.nil).els).length:Int)≤IntKind.wrap .i64 ((((yy1.getD 0 D.nil).els).length:Int)+1))) (.br (decide (IntKind.wrap .i64 ((((yy1.getD 0 D.nil).els).length:Int)+1)≤Ar)) (Kx n n (yy2.getD 0 D.nil) (((yy1.getD 0 D.nil).els).take (List.replicate (Int.toNat (((yy1.getD 0 D.nil).els).length:Int)) (D.int 0)).length++(List.replicate (Int.toNat (((yy1.getD 0 D.nil).els).length:Int)) (D.int 0)).drop ((yy1.getD 0 D.nil).els).length) 0 ((((yy1.getD 0 D.nil).els).take (List.replicate (Int.toNat (((yy1.getD 0 D.nil).els).length:Int)) (D.int 0)).length++(List.replicate (Int.toNat (((yy1.getD 0 D.nil).els).length:Int)) (D.int 0)).drop ((yy1.getD 0 D.nil).els).length).length:Int) 0) .fail) .fail) .fail):=by kernel_rfl
def Tg:List (Nat×Orc):=[(6,⟨[(1,some 62),(6,none),(7,none),(19,none),(20,none)],[],[(.slot 6,1060,180)]⟩)]
noncomputable def Qj(n m6:Nat)(b1:D)(out6:List D)(borrow7 t19 t20:Int):Tree :=
 lA (eA Tg n 326 [1,1,1,1,0,1,0,0]) (Ao Tg 6) m6 ⟨(.undef:: .d 62 b1::uA 4++(.row 1060:: .i .u32 borrow7::uA 11++(.i .i64 t19:: .i .i64 t20::uA 28))),[(1060,.row 180 out6 true)],[1060],[],[]⟩
  (Ak 0 (Au (jA Tg n 326 [1,1,1,1,1]) (rA 326 [62,62] [.tmp 4,.tmp 5] [62,4])))
theorem Ye(n m6:Nat)(b1:D)(out6:List D)(borrow7 t19 t20:Int):Qj n (m6+1) b1 out6 borrow7 t19 t20 =
 .br (decide (t20<t19)) (.br (decide (t20<(b1.els.length:Int))) (.br (decide (0≤t20)) (.br (decide (t20<(b1.els.length:Int))) (.br (decide (0≤t20)) (.br (decide (t20<(out6.length:Int))) (.call 334 [] [D.int ((out6.getD (Int.toNat t20) D.nil).toInt),D.int ((b1.els.getD (Int.toNat t20) D.nil).toInt),D.int borrow7] fun yy4 =>
 .br (decide (0≤t20)) (.br (decide (t20<(out6.length:Int))) (Qj n m6 b1 (out6.set (Int.toNat t20) (D.int ((yy4.getD 0 D.nil).toInt))) ((yy4.getD 1 D.nil).toInt) t19 (IntKind.wrap .i64 (t20+1))) .fail) .fail) .fail) .fail) .fail) .fail)
 (.br (borrow7 == 0) (.call 321 [] [D.sl out6] fun yy5 =>
 .ret [yy5.getD 0 D.nil,D.bool true])
 (.br (decide (0≤t20)) (.br (decide (t20<(out6.length:Int))) (.call 334 [] [D.int ((out6.getD (Int.toNat t20) D.nil).toInt),D.int 0,D.int borrow7] fun yy6 =>
 .br (decide (0≤t20)) (.br (decide (t20<(out6.length:Int))) (Qj n m6 b1 (out6.set (Int.toNat t20) (D.int ((yy6.getD 0 D.nil).toInt))) ((yy6.getD 1 D.nil).toInt) t19 (IntKind.wrap .i64 (t20+1))) .fail) .fail) .fail) .fail)))
 (.call 321 [] [D.sl out6] fun yy7 =>
 .ret [yy7.getD 0 D.nil,D.bool true]):=by kernel_rfl
theorem AbJ(n:Nat)(a0 b1:D):Ai Tryz.prog md Tg n 326 [] [a0,b1] =
 .call 302 [] [a0,b1] fun yy1 =>
 .br (decide (((yy1.getD 0 D.nil).toInt)<0)) (.ret [D.sl [],D.bool false])
 (.call 299 [] [a0] fun yy2 =>
 .call 321 [] [b1] fun yy3 =>
 Qj n n (yy3.getD 0 D.nil) ((yy2.getD 0 D.nil).els) 0 (((yy2.getD 0 D.nil).els).length:Int) 0):=by kernel_rfl
def Ov:List (Nat×Orc):=[(1,⟨[(0,none),(1,none)],[],[]⟩)]
noncomputable def Ql(n m1:Nat)(a0 b1:Int):Tree :=
 lA (eA Ov n 327 [1,0,0,0]) (Ao Ov 1) m1 ⟨(.i .u64 a0:: .i .u64 b1::uA 16),[],[],[],[]⟩
  (Ak 0 (Au (jA Ov n 327 [1,1]) (rA 327 [22,22] [.tmp 4] [62])))
theorem JW(n m1:Nat)(a0 b1:Int):Ql n (m1+1) a0 b1 =
 .br (b1 != 0) (.br (!(b1 == (0:Int))) (Ql n m1 b1 (Int.tmod a0 b1)) .fail)
 (.br (decide (0≤32)) (.call 299 [] [D.sl [D.int (IntKind.wrap .u32 a0),D.int (IntKind.wrap .u32 (Int.fdiv a0 (2 ^ (min (Int.toNat 32) (IntKind.bits .u64)))))]] fun yy1 =>
 .ret [D.sl ((yy1.getD 0 D.nil).els)]) .fail):=by kernel_rfl
theorem UV(n:Nat)(a0 b1:D):Ai Tryz.prog md Ov n 327 [] [a0,b1] =
 Ql n n a0.toInt b1.toInt:=by kernel_rfl
def Qn:List (Nat×Orc):=[(3,⟨[(3,none),(6,some 62),(7,none),(8,none)],[],[]⟩)]
noncomputable def Li(n m3:Nat)(out3:Int)(t6:D)(t7 t8:Int):Tree :=
 lA (eA Qn n 328 [1,1,0,1,0,0]) (Ao Qn 3) m3 ⟨(uA 3++(.i .u64 out3:: .undef:: .undef:: .d 62 t6:: .i .i64 t7:: .i .i64 t8::uA 14)),[],[],[],[]⟩
  (Ak 0 (Au (jA Qn n 328 [1,1,1]) (rA 328 [62] [.tmp 2] [22])))
theorem W8(n m3:Nat)(out3:Int)(t6:D)(t7 t8:Int):Li n (m3+1) out3 t6 t7 t8 =
 .br (decide (t8<t7)) (.br (decide (0≤t8)) (.br (decide (t8<(t6.els.length:Int))) (.br (decide (0≤IntKind.wrap .u64 (IntKind.wrap .i64 (32*t8)))) (Li n m3 (Bs .or .u64 out3 (IntKind.wrap .u64 ((IntKind.wrap .u64 ((t6.els.getD (Int.toNat t8) D.nil).toInt))*2 ^ (min (Int.toNat (IntKind.wrap .u64 (IntKind.wrap .i64 (32*t8)))) (IntKind.bits .u64))))) t6 t7 (IntKind.wrap .i64 (t8+1))) .fail) .fail) .fail)
 (.ret [D.int out3]):=by kernel_rfl
theorem Aal(n:Nat)(a0:D):Ai Tryz.prog md Qn n 328 [] [a0] =
 Li n n 0 a0 (a0.els.length:Int) 0:=by kernel_rfl
def Ls:List (Nat×Orc):=[(3,⟨[(0,none),(1,none),(5,none),(6,none)],[],[(.slot 0,0,180)]⟩)]
noncomputable def M6(n m3:Nat)(a0:List D)(by1 rest5 i6:Int):Tree :=
 lA (eA Ls n 331 [1,1,0,1,0,0]) (Ao Ls 3) m3 ⟨(.row 0:: .i .u32 by1::uA 3++(.i .u64 rest5:: .i .i64 i6::uA 29)),[(0,.row 180 a0 true)],[0],[],[0]⟩
  (Ak 0 (Au (jA Ls n 331 [1,1,1]) (rA 331 [62,180] [.tmp 4] [180])))
theorem R2(n m3:Nat)(a0:List D)(by1 rest5 i6:Int):M6 n (m3+1) a0 by1 rest5 i6 =
 .br (decide (0≤i6)) (.br (decide (0≤32)) (.br (decide (0≤i6)) (.br (decide (i6<(a0.length:Int))) (.br (!((IntKind.wrap .u64 by1)==(0:Int))) (.br (decide (0≤i6)) (.br (decide (i6<(a0.length:Int))) (.br (!((IntKind.wrap .u64 by1)==(0:Int))) (M6 n m3 (a0.set (Int.toNat i6) (D.int (IntKind.wrap .u32 (IntKind.wrap .u64 (Int.tdiv (Bs .or .u64 (IntKind.wrap .u64 (rest5*2 ^ (min (Int.toNat 32) (IntKind.bits .u64)))) (IntKind.wrap .u64 ((a0.getD (Int.toNat i6) D.nil).toInt))) (IntKind.wrap .u64 by1)))))) by1 (Int.tmod (Bs .or .u64 (IntKind.wrap .u64 (rest5*2 ^ (min (Int.toNat 32) (IntKind.bits .u64)))) (IntKind.wrap .u64 ((a0.getD (Int.toNat i6) D.nil).toInt))) (IntKind.wrap .u64 by1)) (IntKind.wrap .i64 (i6-1))) .fail) .fail) .fail) .fail) .fail) .fail) .fail)
 (.ret [D.int (IntKind.wrap .u32 rest5),D.sl a0]):=by kernel_rfl
theorem NB(n:Nat)(a0 by1:D):Ai Tryz.prog md Ls n 331 [] [a0,by1] =
 M6 n n a0.els by1.toInt 0 (IntKind.wrap .i64 ((a0.els.length:Int)-1)):=by kernel_rfl
theorem OS(n:Nat)(x0 y1 carry2:D):Ai Tryz.prog md [] n 333 [] [x0,y1,carry2] =
 .br (decide (0≤32)) (.ret [D.int (IntKind.wrap .u32 (IntKind.wrap .u64 ((IntKind.wrap .u64 ((IntKind.wrap .u64 x0.toInt)+(IntKind.wrap .u64 y1.toInt)))+(IntKind.wrap .u64 carry2.toInt)))),D.int (IntKind.wrap .u32 (Int.fdiv (IntKind.wrap .u64 ((IntKind.wrap .u64 ((IntKind.wrap .u64 x0.toInt)+(IntKind.wrap .u64 y1.toInt)))+(IntKind.wrap .u64 carry2.toInt))) (2 ^ (min (Int.toNat 32) (IntKind.bits .u64)))))]) .fail:=by kernel_rfl
theorem OV(n:Nat)(x0 y1 borrow2:D):Ai Tryz.prog md [] n 334 [] [x0,y1,borrow2] =
 .br (decide (0≤31)) (.ret [D.int (IntKind.wrap .u32 ((IntKind.wrap .u32 (x0.toInt-y1.toInt))-borrow2.toInt)),D.int (Int.fdiv (Bs .or .u32 (Bs .and .u32 (Bs .xor .u32 (IntKind.max .u32) x0.toInt) y1.toInt) (Bs .and .u32 (Bs .xor .u32 (IntKind.max .u32) (Bs .xor .u32 x0.toInt y1.toInt)) (IntKind.wrap .u32 ((IntKind.wrap .u32 (x0.toInt-y1.toInt))-borrow2.toInt)))) (2 ^ (min (Int.toNat 31) (IntKind.bits .u32))))]) .fail:=by kernel_rfl
theorem Wp(n:Nat)(x0:D):Ai Tryz.prog md [] n 335 [] [x0] =
 .call 341 [] [D.int x0.toInt] fun yy1 =>
 .ret [D.int (IntKind.wrap .i64 (32-((yy1.getD 0 D.nil).toInt)))]:=by kernel_rfl
def V5:List (Nat×Orc):=[(4,⟨[(0,some 62),(1,none),(5,none),(6,none),(14,some 62),(15,none),(16,none)],[],[(.slot 5,1040,180)]⟩)]
noncomputable def Yf(n m4:Nat)(a0:D)(shift1:Int)(out5:List D)(carry6:Int)(t14:D)(t15 t16:Int):Tree :=
 lA (eA V5 n 336 [1,1,1,0,1,0,0]) (Ao V5 4) m4 ⟨(.d 62 a0:: .i .i64 shift1::uA 3++(.row 1040:: .i .u64 carry6::uA 7++(.d 62 t14:: .i .i64 t15:: .i .i64 t16::uA 26))),[(1040,.row 180 out5 true)],[1040],[],[]⟩
  (Ak 0 (Au (jA V5 n 336 [1,1,1,1]) (rA 336 [62,3] [.tmp 4] [62])))
theorem Zw(n m4:Nat)(a0:D)(shift1:Int)(out5:List D)(carry6:Int)(t14:D)(t15 t16:Int):Yf n (m4+1) a0 shift1 out5 carry6 t14 t15 t16 =
 .br (decide (t16<t15)) (.br (decide (0≤t16)) (.br (decide (t16<(t14.els.length:Int))) (.br (decide (0≤IntKind.wrap .u64 shift1)) (.br (decide (0≤t16)) (.br (decide (t16<(out5.length:Int))) (.br (decide (0≤32)) (Yf n m4 a0 shift1 (out5.set (Int.toNat t16) (D.int (IntKind.wrap .u32 (Bs .or .u64 (IntKind.wrap .u64 ((IntKind.wrap .u64 ((t14.els.getD (Int.toNat t16) D.nil).toInt))*2 ^ (min (Int.toNat (IntKind.wrap .u64 shift1)) (IntKind.bits .u64)))) carry6)))) (Int.fdiv (Bs .or .u64 (IntKind.wrap .u64 ((IntKind.wrap .u64 ((t14.els.getD (Int.toNat t16) D.nil).toInt))*2 ^ (min (Int.toNat (IntKind.wrap .u64 shift1)) (IntKind.bits .u64)))) carry6) (2 ^ (min (Int.toNat 32) (IntKind.bits .u64)))) t14 t15 (IntKind.wrap .i64 (t16+1))) .fail) .fail) .fail) .fail) .fail) .fail)
 (.br (decide (0≤(a0.els.length:Int))) (.br (decide ((a0.els.length:Int)<(out5.length:Int))) (.ret [D.sl (out5.set (Int.toNat (a0.els.length:Int)) (D.int (IntKind.wrap .u32 carry6)))]) .fail) .fail):=by kernel_rfl
theorem Adc(n:Nat)(a0 shift1:D):Ai Tryz.prog md V5 n 336 [] [a0,shift1] =
 .br (decide (0≤IntKind.wrap .i64 ((a0.els.length:Int)+1))) (.br (decide (IntKind.wrap .i64 ((a0.els.length:Int)+1)≤IntKind.wrap .i64 ((a0.els.length:Int)+1))) (.br (decide (IntKind.wrap .i64 ((a0.els.length:Int)+1)≤Ar)) (Yf n n a0 shift1.toInt (List.replicate (Int.toNat (IntKind.wrap .i64 ((a0.els.length:Int)+1))) (D.int 0)) 0 a0 (a0.els.length:Int) 0) .fail) .fail) .fail:=by kernel_rfl
def Ky:List (Nat×Orc):=[(4,⟨[(0,some 62),(1,some 62),(5,none),(7,none),(8,none)],[],[]⟩)]
noncomputable def G_(n m4:Nat)(a0 divisor1:D)(nn5 guess7 rest8:Int):Tree :=
 lA (eA Ky n 337 [1,1,1,1,0,0,0]) (Ao Ky 4) m4 ⟨(.d 62 a0:: .d 62 divisor1::uA 3++(.i .i64 nn5:: .undef:: .i .u64 guess7:: .i .u64 rest8::uA 68)),[],[],[],[]⟩
  (Ak 0 (Au (jA Ky n 337 [1,1,1,1,1]) (rA 337 [62,62] [.tmp 4] [22])))
theorem BI(n m4:Nat)(a0 divisor1:D)(nn5 guess7 rest8:Int):G_ n (m4+1) a0 divisor1 nn5 guess7 rest8 =
 .br (decide (0≤32)) (.br ((Int.fdiv guess7 (2 ^ (min (Int.toNat 32) (IntKind.bits .u64))))!=0) (.br (decide (0≤IntKind.wrap .i64 (nn5-1))) (.br (decide (IntKind.wrap .i64 (nn5-1)<(divisor1.els.length:Int))) (.br (decide (0≤32)) (.br ((Int.fdiv (IntKind.wrap .u64 (rest8+(IntKind.wrap .u64 ((divisor1.els.getD (Int.toNat (IntKind.wrap .i64 (nn5-1))) D.nil).toInt)))) (2 ^ (min (Int.toNat 32) (IntKind.bits .u64))))!=0) (.ret [D.int (IntKind.wrap .u64 (guess7-1))])
 (G_ n m4 a0 divisor1 nn5 (IntKind.wrap .u64 (guess7-1)) (IntKind.wrap .u64 (rest8+(IntKind.wrap .u64 ((divisor1.els.getD (Int.toNat (IntKind.wrap .i64 (nn5-1))) D.nil).toInt)))))) .fail) .fail) .fail)
 (.br (decide (0≤IntKind.wrap .i64 (nn5-2))) (.br (decide (IntKind.wrap .i64 (nn5-2)<(divisor1.els.length:Int))) (.br (decide (0≤32)) (.br (decide (0≤IntKind.wrap .i64 (nn5-2))) (.br (decide (IntKind.wrap .i64 (nn5-2)<(a0.els.length:Int))) (.br (decide ((Bs .or .u64 (IntKind.wrap .u64 (rest8*2 ^ (min (Int.toNat 32) (IntKind.bits .u64)))) (IntKind.wrap .u64 ((a0.els.getD (Int.toNat (IntKind.wrap .i64 (nn5-2))) D.nil).toInt)))<(IntKind.wrap .u64 (guess7*(IntKind.wrap .u64 ((divisor1.els.getD (Int.toNat (IntKind.wrap .i64 (nn5-2))) D.nil).toInt)))))) (.br (decide (0≤IntKind.wrap .i64 (nn5-1))) (.br (decide (IntKind.wrap .i64 (nn5-1)<(divisor1.els.length:Int))) (.br (decide (0≤32)) (.br ((Int.fdiv (IntKind.wrap .u64 (rest8+(IntKind.wrap .u64 ((divisor1.els.getD (Int.toNat (IntKind.wrap .i64 (nn5-1))) D.nil).toInt)))) (2 ^ (min (Int.toNat 32) (IntKind.bits .u64))))!=0) (.ret [D.int (IntKind.wrap .u64 (guess7-1))])
 (G_ n m4 a0 divisor1 nn5 (IntKind.wrap .u64 (guess7-1)) (IntKind.wrap .u64 (rest8+(IntKind.wrap .u64 ((divisor1.els.getD (Int.toNat (IntKind.wrap .i64 (nn5-1))) D.nil).toInt)))))) .fail) .fail) .fail)
 (.ret [D.int guess7])) .fail) .fail) .fail) .fail) .fail)) .fail:=by kernel_rfl
theorem JV(n:Nat)(a0 divisor1:D):Ai Tryz.prog md Ky n 337 [] [a0,divisor1] =
 .br (decide (0≤(divisor1.els.length:Int))) (.br (decide ((divisor1.els.length:Int)<(a0.els.length:Int))) (.br (decide (0≤32)) (.br (decide (0≤IntKind.wrap .i64 ((divisor1.els.length:Int)-1))) (.br (decide (IntKind.wrap .i64 ((divisor1.els.length:Int)-1)<(a0.els.length:Int))) (.br (decide (0≤IntKind.wrap .i64 ((divisor1.els.length:Int)-1))) (.br (decide (IntKind.wrap .i64 ((divisor1.els.length:Int)-1)<(divisor1.els.length:Int))) (.br (!((IntKind.wrap .u64 ((divisor1.els.getD (Int.toNat (IntKind.wrap .i64 ((divisor1.els.length:Int)-1))) D.nil).toInt))==(0:Int))) (.br (decide (0≤IntKind.wrap .i64 ((divisor1.els.length:Int)-1))) (.br (decide (IntKind.wrap .i64 ((divisor1.els.length:Int)-1)<(divisor1.els.length:Int))) (.br (!((IntKind.wrap .u64 ((divisor1.els.getD (Int.toNat (IntKind.wrap .i64 ((divisor1.els.length:Int)-1))) D.nil).toInt))==(0:Int))) (G_ n n a0 divisor1 (divisor1.els.length:Int) (IntKind.wrap .u64 (Int.tdiv (Bs .or .u64 (IntKind.wrap .u64 ((IntKind.wrap .u64 ((a0.els.getD (Int.toNat (divisor1.els.length:Int)) D.nil).toInt))*2 ^ (min (Int.toNat 32) (IntKind.bits .u64)))) (IntKind.wrap .u64 ((a0.els.getD (Int.toNat (IntKind.wrap .i64 ((divisor1.els.length:Int)-1))) D.nil).toInt))) (IntKind.wrap .u64 ((divisor1.els.getD (Int.toNat (IntKind.wrap .i64 ((divisor1.els.length:Int)-1))) D.nil).toInt)))) (Int.tmod (Bs .or .u64 (IntKind.wrap .u64 ((IntKind.wrap .u64 ((a0.els.getD (Int.toNat (divisor1.els.length:Int)) D.nil).toInt))*2 ^ (min (Int.toNat 32) (IntKind.bits .u64)))) (IntKind.wrap .u64 ((a0.els.getD (Int.toNat (IntKind.wrap .i64 ((divisor1.els.length:Int)-1))) D.nil).toInt))) (IntKind.wrap .u64 ((divisor1.els.getD (Int.toNat (IntKind.wrap .i64 ((divisor1.els.length:Int)-1))) D.nil).toInt)))) .fail) .fail) .fail) .fail) .fail) .fail) .fail) .fail) .fail) .fail) .fail:=by kernel_rfl
def Qk:List (Nat×Orc):=[(4,⟨[(0,some 62),(1,none),(5,none),(6,none),(7,none)],[],[(.slot 5,1040,180)]⟩)]
noncomputable def Th(n m4:Nat)(a0:D)(shift1:Int)(out5:List D)(above6 i7:Int):Tree :=
 lA (eA Qk n 340 [1,1,1,0,1,0,0]) (Ao Qk 4) m4 ⟨(.d 62 a0:: .i .i64 shift1::uA 3++(.row 1040:: .i .u64 above6:: .i .i64 i7::uA 34)),[(1040,.row 180 out5 true)],[1040],[],[]⟩
  (Ak 0 (Au (jA Qk n 340 [1,1,1,1]) (rA 340 [62,3] [.tmp 4] [62])))
theorem W6(n m4:Nat)(a0:D)(shift1:Int)(out5:List D)(above6 i7:Int):Th n (m4+1) a0 shift1 out5 above6 i7 =
 .br (decide (0≤i7)) (.br (decide (0≤32)) (.br (decide (0≤i7)) (.br (decide (i7<(a0.els.length:Int))) (.br (decide (0≤IntKind.wrap .u64 shift1)) (.br (decide (0≤i7)) (.br (decide (i7<(out5.length:Int))) (.br (decide (0≤i7)) (.br (decide (i7<(a0.els.length:Int))) (Th n m4 a0 shift1 (out5.set (Int.toNat i7) (D.int (IntKind.wrap .u32 (Int.fdiv (Bs .or .u64 (IntKind.wrap .u64 (above6*2 ^ (min (Int.toNat 32) (IntKind.bits .u64)))) (IntKind.wrap .u64 ((a0.els.getD (Int.toNat i7) D.nil).toInt))) (2 ^ (min (Int.toNat (IntKind.wrap .u64 shift1)) (IntKind.bits .u64))))))) (IntKind.wrap .u64 ((a0.els.getD (Int.toNat i7) D.nil).toInt)) (IntKind.wrap .i64 (i7-1))) .fail) .fail) .fail) .fail) .fail) .fail) .fail) .fail)
 (.call 321 [] [D.sl out5] fun yy1 =>
 .ret [yy1.getD 0 D.nil]):=by kernel_rfl
theorem Aaj(n:Nat)(a0 shift1:D):Ai Tryz.prog md Qk n 340 [] [a0,shift1] =
 .br (decide (0≤(a0.els.length:Int))) (.br (decide ((a0.els.length:Int)≤(a0.els.length:Int))) (.br (decide ((a0.els.length:Int)≤Ar)) (Th n n a0 shift1.toInt (List.replicate (Int.toNat (a0.els.length:Int)) (D.int 0)) 0 (IntKind.wrap .i64 ((a0.els.length:Int)-1))) .fail) .fail) .fail:=by kernel_rfl
theorem OT(n:Nat)(x0:D):Ai Tryz.prog md [] n 341 [] [x0] =
 .br (decide (65536≤x0.toInt)) (.br (decide (0≤16)) (.br (decide (256≤(Int.fdiv x0.toInt (2 ^ (min (Int.toNat 16) (IntKind.bits .u32)))))) (.br (decide (0≤8)) (.br (decide (0≤IntKind.wrap .u8 (Int.fdiv (Int.fdiv x0.toInt (2 ^ (min (Int.toNat 16) (IntKind.bits .u32)))) (2 ^ (min (Int.toNat 8) (IntKind.bits .u32)))))) (.br (decide (IntKind.wrap .u8 (Int.fdiv (Int.fdiv x0.toInt (2 ^ (min (Int.toNat 16) (IntKind.bits .u32)))) (2 ^ (min (Int.toNat 8) (IntKind.bits .u32))))<((⟨#[0,1,2,2,3,3,3,3,4,4,4,4,4,4,4,4,5,5,5,5,5,5,5,5,5,5,5,5,5,5,5,5,6,6,6,6,6,6,6,6,6,6,6,6,6,6,6,6,6,6,6,6,6,6,6,6,6,6,6,6,6,6,6,6,7,7,7,7,7,7,7,7,7,7,7,7,7,7,7,7,7,7,7,7,7,7,7,7,7,7,7,7,7,7,7,7,7,7,7,7,7,7,7,7,7,7,7,7,7,7,7,7,7,7,7,7,7,7,7,7,7,7,7,7,7,7,7,7,8,8,8,8,8,8,8,8,8,8,8,8,8,8,8,8,8,8,8,8,8,8,8,8,8,8,8,8,8,8,8,8,8,8,8,8,8,8,8,8,8,8,8,8,8,8,8,8,8,8,8,8,8,8,8,8,8,8,8,8,8,8,8,8,8,8,8,8,8,8,8,8,8,8,8,8,8,8,8,8,8,8,8,8,8,8,8,8,8,8,8,8,8,8,8,8,8,8,8,8,8,8,8,8,8,8,8,8,8,8,8,8,8,8,8,8,8,8,8,8,8,8,8,8,8,8,8,8]⟩:ByteArray).size:Int))) (.ret [D.int (IntKind.wrap .i64 ((IntKind.wrap .i64 (16+8))+(IntKind.wrap .i64 ((((⟨#[0,1,2,2,3,3,3,3,4,4,4,4,4,4,4,4,5,5,5,5,5,5,5,5,5,5,5,5,5,5,5,5,6,6,6,6,6,6,6,6,6,6,6,6,6,6,6,6,6,6,6,6,6,6,6,6,6,6,6,6,6,6,6,6,7,7,7,7,7,7,7,7,7,7,7,7,7,7,7,7,7,7,7,7,7,7,7,7,7,7,7,7,7,7,7,7,7,7,7,7,7,7,7,7,7,7,7,7,7,7,7,7,7,7,7,7,7,7,7,7,7,7,7,7,7,7,7,7,8,8,8,8,8,8,8,8,8,8,8,8,8,8,8,8,8,8,8,8,8,8,8,8,8,8,8,8,8,8,8,8,8,8,8,8,8,8,8,8,8,8,8,8,8,8,8,8,8,8,8,8,8,8,8,8,8,8,8,8,8,8,8,8,8,8,8,8,8,8,8,8,8,8,8,8,8,8,8,8,8,8,8,8,8,8,8,8,8,8,8,8,8,8,8,8,8,8,8,8,8,8,8,8,8,8,8,8,8,8,8,8,8,8,8,8,8,8,8,8,8,8,8,8,8,8,8,8]⟩:ByteArray).data.toList.getD (Int.toNat (IntKind.wrap .u8 (Int.fdiv (Int.fdiv x0.toInt (2 ^ (min (Int.toNat 16) (IntKind.bits .u32)))) (2 ^ (min (Int.toNat 8) (IntKind.bits .u32)))))) 0).toNat:Nat):Int))))]) .fail) .fail) .fail)
 (.br (decide (0≤IntKind.wrap .u8 (Int.fdiv x0.toInt (2 ^ (min (Int.toNat 16) (IntKind.bits .u32)))))) (.br (decide (IntKind.wrap .u8 (Int.fdiv x0.toInt (2 ^ (min (Int.toNat 16) (IntKind.bits .u32))))<((⟨#[0,1,2,2,3,3,3,3,4,4,4,4,4,4,4,4,5,5,5,5,5,5,5,5,5,5,5,5,5,5,5,5,6,6,6,6,6,6,6,6,6,6,6,6,6,6,6,6,6,6,6,6,6,6,6,6,6,6,6,6,6,6,6,6,7,7,7,7,7,7,7,7,7,7,7,7,7,7,7,7,7,7,7,7,7,7,7,7,7,7,7,7,7,7,7,7,7,7,7,7,7,7,7,7,7,7,7,7,7,7,7,7,7,7,7,7,7,7,7,7,7,7,7,7,7,7,7,7,8,8,8,8,8,8,8,8,8,8,8,8,8,8,8,8,8,8,8,8,8,8,8,8,8,8,8,8,8,8,8,8,8,8,8,8,8,8,8,8,8,8,8,8,8,8,8,8,8,8,8,8,8,8,8,8,8,8,8,8,8,8,8,8,8,8,8,8,8,8,8,8,8,8,8,8,8,8,8,8,8,8,8,8,8,8,8,8,8,8,8,8,8,8,8,8,8,8,8,8,8,8,8,8,8,8,8,8,8,8,8,8,8,8,8,8,8,8,8,8,8,8,8,8,8,8,8,8]⟩:ByteArray).size:Int))) (.ret [D.int (IntKind.wrap .i64 (16+(IntKind.wrap .i64 ((((⟨#[0,1,2,2,3,3,3,3,4,4,4,4,4,4,4,4,5,5,5,5,5,5,5,5,5,5,5,5,5,5,5,5,6,6,6,6,6,6,6,6,6,6,6,6,6,6,6,6,6,6,6,6,6,6,6,6,6,6,6,6,6,6,6,6,7,7,7,7,7,7,7,7,7,7,7,7,7,7,7,7,7,7,7,7,7,7,7,7,7,7,7,7,7,7,7,7,7,7,7,7,7,7,7,7,7,7,7,7,7,7,7,7,7,7,7,7,7,7,7,7,7,7,7,7,7,7,7,7,8,8,8,8,8,8,8,8,8,8,8,8,8,8,8,8,8,8,8,8,8,8,8,8,8,8,8,8,8,8,8,8,8,8,8,8,8,8,8,8,8,8,8,8,8,8,8,8,8,8,8,8,8,8,8,8,8,8,8,8,8,8,8,8,8,8,8,8,8,8,8,8,8,8,8,8,8,8,8,8,8,8,8,8,8,8,8,8,8,8,8,8,8,8,8,8,8,8,8,8,8,8,8,8,8,8,8,8,8,8,8,8,8,8,8,8,8,8,8,8,8,8,8,8,8,8,8,8]⟩:ByteArray).data.toList.getD (Int.toNat (IntKind.wrap .u8 (Int.fdiv x0.toInt (2 ^ (min (Int.toNat 16) (IntKind.bits .u32)))))) 0).toNat:Nat):Int))))]) .fail) .fail)) .fail)
 (.br (decide (256≤x0.toInt)) (.br (decide (0≤8)) (.br (decide (0≤IntKind.wrap .u8 (Int.fdiv x0.toInt (2 ^ (min (Int.toNat 8) (IntKind.bits .u32)))))) (.br (decide (IntKind.wrap .u8 (Int.fdiv x0.toInt (2 ^ (min (Int.toNat 8) (IntKind.bits .u32))))<((⟨#[0,1,2,2,3,3,3,3,4,4,4,4,4,4,4,4,5,5,5,5,5,5,5,5,5,5,5,5,5,5,5,5,6,6,6,6,6,6,6,6,6,6,6,6,6,6,6,6,6,6,6,6,6,6,6,6,6,6,6,6,6,6,6,6,7,7,7,7,7,7,7,7,7,7,7,7,7,7,7,7,7,7,7,7,7,7,7,7,7,7,7,7,7,7,7,7,7,7,7,7,7,7,7,7,7,7,7,7,7,7,7,7,7,7,7,7,7,7,7,7,7,7,7,7,7,7,7,7,8,8,8,8,8,8,8,8,8,8,8,8,8,8,8,8,8,8,8,8,8,8,8,8,8,8,8,8,8,8,8,8,8,8,8,8,8,8,8,8,8,8,8,8,8,8,8,8,8,8,8,8,8,8,8,8,8,8,8,8,8,8,8,8,8,8,8,8,8,8,8,8,8,8,8,8,8,8,8,8,8,8,8,8,8,8,8,8,8,8,8,8,8,8,8,8,8,8,8,8,8,8,8,8,8,8,8,8,8,8,8,8,8,8,8,8,8,8,8,8,8,8,8,8,8,8,8,8]⟩:ByteArray).size:Int))) (.ret [D.int (IntKind.wrap .i64 ((IntKind.wrap .i64 (0+8))+(IntKind.wrap .i64 ((((⟨#[0,1,2,2,3,3,3,3,4,4,4,4,4,4,4,4,5,5,5,5,5,5,5,5,5,5,5,5,5,5,5,5,6,6,6,6,6,6,6,6,6,6,6,6,6,6,6,6,6,6,6,6,6,6,6,6,6,6,6,6,6,6,6,6,7,7,7,7,7,7,7,7,7,7,7,7,7,7,7,7,7,7,7,7,7,7,7,7,7,7,7,7,7,7,7,7,7,7,7,7,7,7,7,7,7,7,7,7,7,7,7,7,7,7,7,7,7,7,7,7,7,7,7,7,7,7,7,7,8,8,8,8,8,8,8,8,8,8,8,8,8,8,8,8,8,8,8,8,8,8,8,8,8,8,8,8,8,8,8,8,8,8,8,8,8,8,8,8,8,8,8,8,8,8,8,8,8,8,8,8,8,8,8,8,8,8,8,8,8,8,8,8,8,8,8,8,8,8,8,8,8,8,8,8,8,8,8,8,8,8,8,8,8,8,8,8,8,8,8,8,8,8,8,8,8,8,8,8,8,8,8,8,8,8,8,8,8,8,8,8,8,8,8,8,8,8,8,8,8,8,8,8,8,8,8,8]⟩:ByteArray).data.toList.getD (Int.toNat (IntKind.wrap .u8 (Int.fdiv x0.toInt (2 ^ (min (Int.toNat 8) (IntKind.bits .u32)))))) 0).toNat:Nat):Int))))]) .fail) .fail) .fail)
 (.br (decide (0≤IntKind.wrap .u8 x0.toInt)) (.br (decide (IntKind.wrap .u8 x0.toInt<((⟨#[0,1,2,2,3,3,3,3,4,4,4,4,4,4,4,4,5,5,5,5,5,5,5,5,5,5,5,5,5,5,5,5,6,6,6,6,6,6,6,6,6,6,6,6,6,6,6,6,6,6,6,6,6,6,6,6,6,6,6,6,6,6,6,6,7,7,7,7,7,7,7,7,7,7,7,7,7,7,7,7,7,7,7,7,7,7,7,7,7,7,7,7,7,7,7,7,7,7,7,7,7,7,7,7,7,7,7,7,7,7,7,7,7,7,7,7,7,7,7,7,7,7,7,7,7,7,7,7,8,8,8,8,8,8,8,8,8,8,8,8,8,8,8,8,8,8,8,8,8,8,8,8,8,8,8,8,8,8,8,8,8,8,8,8,8,8,8,8,8,8,8,8,8,8,8,8,8,8,8,8,8,8,8,8,8,8,8,8,8,8,8,8,8,8,8,8,8,8,8,8,8,8,8,8,8,8,8,8,8,8,8,8,8,8,8,8,8,8,8,8,8,8,8,8,8,8,8,8,8,8,8,8,8,8,8,8,8,8,8,8,8,8,8,8,8,8,8,8,8,8,8,8,8,8,8,8]⟩:ByteArray).size:Int))) (.ret [D.int (IntKind.wrap .i64 (0+(IntKind.wrap .i64 ((((⟨#[0,1,2,2,3,3,3,3,4,4,4,4,4,4,4,4,5,5,5,5,5,5,5,5,5,5,5,5,5,5,5,5,6,6,6,6,6,6,6,6,6,6,6,6,6,6,6,6,6,6,6,6,6,6,6,6,6,6,6,6,6,6,6,6,7,7,7,7,7,7,7,7,7,7,7,7,7,7,7,7,7,7,7,7,7,7,7,7,7,7,7,7,7,7,7,7,7,7,7,7,7,7,7,7,7,7,7,7,7,7,7,7,7,7,7,7,7,7,7,7,7,7,7,7,7,7,7,7,8,8,8,8,8,8,8,8,8,8,8,8,8,8,8,8,8,8,8,8,8,8,8,8,8,8,8,8,8,8,8,8,8,8,8,8,8,8,8,8,8,8,8,8,8,8,8,8,8,8,8,8,8,8,8,8,8,8,8,8,8,8,8,8,8,8,8,8,8,8,8,8,8,8,8,8,8,8,8,8,8,8,8,8,8,8,8,8,8,8,8,8,8,8,8,8,8,8,8,8,8,8,8,8,8,8,8,8,8,8,8,8,8,8,8,8,8,8,8,8,8,8,8,8,8,8,8,8]⟩:ByteArray).data.toList.getD (Int.toNat (IntKind.wrap .u8 x0.toInt)) 0).toNat:Nat):Int))))]) .fail) .fail)):=by kernel_rfl
def B:Nat:=4294967296
theorem Be:B=4294967296:=rfl
theorem Cd:0<B:=by decide
theorem Bp(i:Nat):0<B ^ i:=Nat.pow_pos Cd
theorem Fa(x:Av):x.toNat<B:=x.isLt
def nv:List Av→Nat
 | []=>0
 | x::l=>x.toNat+B*nv l
@[simp] theorem AbP:nv []=0:=rfl
theorem Fw(l m:List Av):nv (l++m)=nv l+B ^ l.length*nv m:=by
 induction l with
 | nil=>simp
 | cons x l ih =>
  simp only[List.cons_append,nv,ih,List.length_cons,Nat.pow_succ,Nat.mul_add]
  rw[Nat.mul_comm (B ^ l.length) B,Nat.mul_assoc];omega
theorem Kb(l:List Av)(x:Av):nv (l++[x])=nv l+B ^ l.length*x.toNat:=by rw[Fw];simp[nv]
theorem Ck(l:List Av):nv l<B ^ l.length:=by
 induction l with
 | nil=>simp
 | cons x l ih =>
  simp only[nv,List.length_cons,Nat.pow_succ]
  have hx:=Fa x
  have:B*(nv l+1)≤B*B ^ l.length:=Nat.mul_le_mul_left _ ih
  rw[Nat.mul_comm (B ^ l.length) B]
  rw[Nat.mul_add]at this
  omega
theorem IZ(l:List Av)(i:Nat):nv (l.drop i)=nv l / B ^ i:=by
 induction i generalizing l with
 | zero=>simp
 | succ i ih =>
  cases l with
  | nil=>simp
  | cons x l =>
   rw[List.drop_succ_cons,ih,Nat.pow_succ,Nat.mul_comm,← Nat.div_div_eq_div_mul]
   simp only[nv]
   rw[Nat.add_mul_div_left _ _ Cd,Nat.div_eq_of_lt (Fa x),Nat.zero_add]
theorem D0(l:List Av)(i:Nat)(hi:i<l.length):(l[i]).toNat=nv l / B ^ i % B:=by
 rw[← IZ,List.drop_eq_getElem_cons hi,nv,Nat.add_mul_mod_self_left,Nat.mod_eq_of_lt (Fa _)]
theorem ND(l:List Av)(i:Nat)(hi:l.length≤i):nv l / B ^ i % B=0:=by
 rw[← IZ,List.drop_eq_nil_of_le hi];rfl
theorem BJ(k:Nat):nv (List.replicate k 0)=0:=by
 induction k with
 | zero=>rfl
 | succ k ih=>rw[List.replicate_succ,nv,ih];rfl
theorem Zy{out:List Av}{z i:Nat}{d:Av}(hl:out.length=i)(h:nv out=z % B ^ i)(hd:d.toNat=z / B ^ i % B):nv (out++[d])=z % B ^ (i+1):=by
 rw[Kb,hl,h,hd,Nat.mod_pow_succ]
def lb(n:Nat):List Av:=if h:n=0 then [] else BitVec.ofNat 32 n::lb (n / B)
termination_by n
decreasing_by exact Nat.div_lt_self (Nat.pos_of_ne_zero h) (by decide)
theorem Ct:lb 0 = []:=by rw[lb];simp
theorem Zp{n:Nat}(h:n≠0):lb n=BitVec.ofNat 32 n::lb (n / B):=by rw[lb,dif_neg h]
theorem By(n:Nat):nv (lb n)=n:=by
 induction n using Nat.strongRecOn with
 | _ n ih =>
  by_cases h:n=0
  · subst h;rw[Ct];rfl
  · rw[Zp h,nv,ih _ (Nat.div_lt_self (Nat.pos_of_ne_zero h) (by decide)),BitVec.toNat_ofNat]
    exact Nat.mod_add_div n B
theorem Ax{n k:Nat} : (lb n).length≤k↔n<B ^ k:=by
 induction k generalizing n with
 | zero =>
  by_cases h:n=0
  · subst h;simp[Ct]
  · rw[Zp h];simp;omega
 | succ k ih =>
  by_cases h:n=0
  · subst h;simp[Ct,Bp]
  · rw[Zp h,List.length_cons,Nat.succ_le_succ_iff,ih,Nat.div_lt_iff_lt_mul Cd,Nat.pow_succ]
theorem EW{n:Nat} : lb n = []↔n=0:=by
 constructor
 · intro h;have:=By n;rw[h]at this;simpa using this.symm
 · rintro rfl;exact Ct
theorem G9{n:Nat} : (lb n).length=0↔n=0:=by rw[List.length_eq_zero_iff,EW]
theorem AfK{l:List Av}(h : ∀ hne:l≠[],l.getLast hne≠0):lb (nv l)=l:=by
 induction l with
 | nil=>simp[Ct]
 | cons x l ih =>
  have ihl:=ih (fun hne=>by have:=h (by simp);rwa[List.getLast_cons hne]at this)
  have hpos:nv (x::l)≠0:=by
   intro h0
   simp only[nv]at h0
   cases l with
   | nil =>
    have:=h (by simp)
    simp only[List.getLast_singleton]at this
    exact this (BitVec.eq_of_toNat_eq (by simp;omega))
   | cons y m =>
    have hv:nv (y::m)=0:=by
     rcases Nat.eq_zero_or_pos (nv (y::m)) with h | h
     · exact h
     · have:=Nat.mul_le_mul_left B h;rw[Be]at this h0;omega
    rw[hv,Ct]at ihl
    cases ihl
  rw[Zp hpos]
  have e2:nv (x::l) / B=nv l:=by simp only[nv];rw[Nat.add_mul_div_left _ _ Cd,Nat.div_eq_of_lt (Fa x),Nat.zero_add]
  rw[e2,ihl]
  congr 1
  apply BitVec.eq_of_toNat_eq
  simp only[nv,BitVec.toNat_ofNat]
  show (x.toNat+B*nv l) % B=x.toNat
  rw[Nat.add_mul_mod_self_left,Nat.mod_eq_of_lt (Fa x)]
theorem IW{l:List Av}{k:Nat}(hk:k≤l.length)(hz : ∀ i,k≤i→(hi:i<l.length)→l[i]=0)(ht : ∀ (hi:k-1<l.length),0<k→l[k-1]≠0):lb (nv l)=l.take k:=by
 have e:nv l=nv (l.take k):=by
  have:=Fw (l.take k) (l.drop k)
  rw[List.take_append_drop]at this
  have hd:l.drop k=List.replicate (l.length-k) 0:=by
   apply List.ext_getElem
   · simp
   · intro i h1 h2
     simp only[List.getElem_drop,List.getElem_replicate]
     exact hz _ (by omega) _
  rw[this,hd,BJ];simp
 rw[e]
 apply AfK
 intro hne
 have hk0:0<k:=by
  rcases Nat.eq_zero_or_pos k with h | h
  · subst h;simp at hne
  · exact h
 rw[List.getLast_eq_getElem]
 simp only[List.getElem_take,List.length_take]
 have:=ht (by omega) hk0
 have he:min k l.length-1=k-1:=by omega
 simp only[he]
 exact this
theorem DO(x y i:Nat):(x+y) / B ^ i % B=(x / B ^ i % B+y / B ^ i % B+(x % B ^ i+y % B ^ i) / B ^ i) % B:=by
 have h1:(x+y) / B ^ i=x / B ^ i+y / B ^ i+(x % B ^ i+y % B ^ i) / B ^ i:=by
  have hx:=Nat.div_add_mod x (B ^ i)
  have hy:=Nat.div_add_mod y (B ^ i)
  conv=>lhs;rw[← hx,← hy]
  rw[show B ^ i*(x / B ^ i)+x % B ^ i+(B ^ i*(y / B ^ i)+y % B ^ i)=(x % B ^ i+y % B ^ i)+B ^ i*(x / B ^ i+y / B ^ i) by rw[Nat.mul_add];omega,Nat.add_mul_div_left _ _ (Bp i)]
  omega
 rw[h1]
 simp[Nat.add_mod]
theorem DM(x y i:Nat):(x % B ^ (i+1)+y % B ^ (i+1)) / B ^ (i+1)=(x / B ^ i % B+y / B ^ i % B+(x % B ^ i+y % B ^ i) / B ^ i) / B:=by
 rw[Nat.mod_pow_succ,Nat.mod_pow_succ,Nat.pow_succ,← Nat.div_div_eq_div_mul]
 congr 1
 rw[show x % B ^ i+B ^ i*(x / B ^ i % B)+(y % B ^ i+B ^ i*(y / B ^ i % B))=(x % B ^ i+y % B ^ i)+B ^ i*(x / B ^ i % B+y / B ^ i % B) by rw[Nat.mul_add];omega,Nat.add_mul_div_left _ _ (Bp i)]
 omega
theorem X_{x y b:Nat}(h:x / b<y / b):x<y:=by
 rcases Nat.lt_or_ge x y with h1 | h1
 · exact h1
 · have:=Nat.div_le_div_right (c:=b) h1;omega
theorem ZK{x y:Nat}(h:y≤x)(i:Nat) : ∃ zi c c',zi=(x-y) / B ^ i % B∧c=((x-y) % B ^ i+y % B ^ i) / B ^ i∧c'=((x-y) % B ^ (i+1)+y % B ^ (i+1)) / B ^ (i+1)∧c'≤1∧x / B ^ i % B+B*c'=zi+y / B ^ i % B+c:=by
 refine ⟨_,_,_,rfl,rfl,rfl,?_,?_⟩
 · have h1:=Nat.mod_lt (x-y) (Bp (i+1))
   have h2:=Nat.mod_lt y (Bp (i+1))
   have:((x-y) % B ^ (i+1)+y % B ^ (i+1)) / B ^ (i+1)<2:=by rw[Nat.div_lt_iff_lt_mul (Bp _)];omega
   omega
 · have h1:=DO (x-y) y i
   rw[Nat.sub_add_cancel h]at h1
   rw[DM,h1]
   exact Nat.mod_add_div _ _
theorem Ag4(x b i:Nat):(2*x+b) / B ^ i % B=(2*(x / B ^ i % B)+(2*(x % B ^ i)+b) / B ^ i) % B:=by
 have h1:(2*x+b) / B ^ i=2*(x / B ^ i)+(2*(x % B ^ i)+b) / B ^ i:=by
  have hx:=Nat.div_add_mod x (B ^ i)
  conv=>lhs;rw[← hx]
  rw[show 2*(B ^ i*(x / B ^ i)+x % B ^ i)+b=(2*(x % B ^ i)+b)+B ^ i*(2*(x / B ^ i)) by rw[Nat.mul_add,Nat.mul_left_comm];omega,Nat.add_mul_div_left _ _ (Bp i)]
  omega
 rw[h1]
 simp[Nat.add_mod,Nat.mul_mod]
theorem Ag3(x b i:Nat):(2*(x % B ^ (i+1))+b) / B ^ (i+1)=(2*(x / B ^ i % B)+(2*(x % B ^ i)+b) / B ^ i) / B:=by
 rw[Nat.mod_pow_succ,Nat.pow_succ,← Nat.div_div_eq_div_mul]
 congr 1
 rw[show 2*(x % B ^ i+B ^ i*(x / B ^ i % B))+b=(2*(x % B ^ i)+b)+B ^ i*(2*(x / B ^ i % B)) by rw[Nat.mul_add,Nat.mul_left_comm];omega,Nat.add_mul_div_left _ _ (Bp i)]
 omega
theorem Aij(i:Nat):B ^ i=2 ^ (32*i):=by rw[Nat.pow_mul];rfl
theorem AgI(x i:Nat):x / B ^ (i / 32) % B / 2 ^ (i % 32) % 2=x / 2 ^ i % 2:=by
 have h1:=Nat.toNat_testBit (x / B ^ (i / 32) % B) (i % 32)
 have h2:=Nat.toNat_testBit x i
 rw[← h1,← h2]
 congr 1
 rw[show B=2 ^ 32 from rfl,Nat.testBit_mod_two_pow,← Nat.pow_mul,Nat.testBit_div_two_pow]
 have:i % 32<32:=Nat.mod_lt _ (by decide)
 simp only[this,decide_true,Bool.true_and]
 congr 1
 omega
theorem Ahw{x y:Nat}(h:y≠0)(h2:x % y≠0):2*(y % (x % y))<y:=by
 have h1:=Nat.mod_lt x (Nat.pos_of_ne_zero h)
 rcases Nat.lt_or_ge y (2*(x % y)) with h3 | h3
 · have:y % (x % y)=y-x % y:=by
    rw[Nat.mod_eq_sub_mod (by omega),Nat.mod_eq_of_lt (by omega)]
   omega
 · have:=Nat.mod_lt y (Nat.pos_of_ne_zero h2)
   omega
theorem Dy{t:Nat}(h:t<B):D.int (t:Int)=dB (BitVec.ofNat 32 t):=by
 show _=D.int ((BitVec.ofNat 32 t).toNat:Int)
 rw[show (BitVec.ofNat 32 t).toNat=t by rw[BitVec.toNat_ofNat];exact Nat.mod_eq_of_lt h]
theorem ofNat_lt{t:Nat}(h:t<B):(BitVec.ofNat 32 t).toNat=t:=by rw[BitVec.toNat_ofNat];exact Nat.mod_eq_of_lt h
theorem ZN(k:Nat)(h:k<9223372036854775807):IntKind.wrap .i64 (((k+1:Nat):Int)-1)=(k:Int):=by rw[Ap (by omega) (by omega)];omega
theorem IN(l:List Av)(k:Nat):D.sl ((l.map dB).take k)=dL (l.take k):=by rw[dL,List.map_take]
theorem Hk(l:List Av)(hl:l.length≤1000000):Sp 265 [dL l] [dL (lb (nv l))]:=by
 refine Ag (l.length+1) (QZ _ _) ?_
 have:=G0 (P:=Tryz.prog) (md:=md) (fun m k (_:Unit)=>O7 (l.length+1) m (dL l) (k:Int)) (fun _ _=>[dL (lb (nv l))]) (fun k _=>k≤l.length∧∀ i,k≤i→(hi:i<l.length)→l[i]=0)
  (fun m s ⟨h1,h2⟩=>by
   simp only[Uu,Bu,List.length_map,List.length_take]
   refine Am (by omega) (Ae (Ae (At (by simp[Ar]) (Ac ?_))))
   rw[IW (k:=0) (by omega) h2 (fun _ h=>by omega),IN];rfl)
  (fun m k s ⟨h1,h2⟩ ih=>by
   have hk:l[k]? = some l[k]:=List.getElem?_eq_getElem _
   simp only[Uu,Bu,List.length_map,List.length_take,ZN k (by omega),Int.toNat_natCast,Aj hk,Ds,Bz]
   refine Ae (Ae (Ae (Ad (fun h=> ?_) (fun h=> ?_))))
   · refine ih () ⟨by omega,fun i hi hlt=> ?_⟩
     by_cases he:i=k
     · subst he;exact BitVec.eq_of_toNat_eq (by simp;omega)
     · exact h2 i (by omega) hlt
   · refine Ae (Ae (At (by unfold Ar;omega) (Ac ?_)))
     rw[IW (k:=k+1) (by omega) h2 (fun _ _ hc=>h (by have hc':l[k]=0:=hc;rw[hc'];rfl)),IN])
  (l.length+1) l.length () (by omega) ⟨Nat.le_refl _,fun i h1 h2=>by omega⟩
 simpa using this
theorem E5(l:List Av)(i:Nat)(hi:i<9223372036854775807):Sp 311 [dL l,.int i] [.int ((nv l / B ^ i % B:Nat):Int)]:=by
 refine Ag 0 (RB _ _ _) ?_
 simp only[Bu,List.length_map,Ah,Int.toNat_natCast]
 refine Ad (fun h=> ?_) (fun h=> ?_)
 · have hk:l[i]? = some (l[i]'(by omega)):=List.getElem?_eq_getElem _
   refine Ae (Ae (Ac ?_))
   have:=Fa l[i]
   rw[Aj hk,Ds,A_ (by omega) (by rw[Be]at this;omega),D0]
 · refine Ac ?_
   rw[ND _ _ (by omega)];rfl
theorem Jh(a b:List Av):Sp 310 [dL a,dL b] [.int ((max a.length b.length:Nat):Int)]:=by
 refine Ag 0 (JZ _ _ _) ?_
 simp only[Bu,List.length_map]
 refine Ad (fun h=>Ac ?_) (fun h=>Ac ?_)
 · rw[Nat.max_eq_left (by omega)]
 · rw[Nat.max_eq_right (by omega)]
def Hs(a b:Nat):Int:=if a<b then -1 else if a=b then 0 else 1
theorem FX(a b:List Av)(ha:a.length≤1000000)(hb:b.length≤1000000):Sp 320 [dL a,dL b] [.int (Hs (nv a) (nv b))]:=by
 refine Ag (max a.length b.length+1) (WM _ _ _) (Aa (Jh a b) ?_)
 simp only[Af,Ah]
 have key:=G0 (P:=Tryz.prog) (md:=md) (fun m k (_:Unit)=>Qz (max a.length b.length+1) m (dL a) (dL b) ((k:Int)-1)) (fun _ _=>[.int (Hs (nv a) (nv b))]) (fun k _=>k≤1000000∧nv a / B ^ k=nv b / B ^ k)
  (fun m s ⟨_,h⟩=>by
   simp only[Vo]
   refine Am (by omega) (Ac ?_)
   simp at h
   simp[Hs,h])
  (fun m k s ⟨h0,h⟩ ih=>by
   simp only[Vo,show ((k+1:Nat):Int)-1=(k:Int) by omega]
   have ea:=Nat.div_add_mod (nv a / B ^ k) B
   have eb:=Nat.div_add_mod (nv b / B ^ k) B
   rw[Nat.div_div_eq_div_mul,← Nat.pow_succ]at ea eb
   rw[h]at ea
   generalize B*(nv b / B ^ (k+1))=q at ea eb
   refine Ae (Aa (E5 a k (by omega)) (Aa (E5 b k (by omega)) ?_))
   simp only[Af,Ah]
   refine Ad (fun h'=>Ac ?_) (fun h'=>Aa (E5 a k (by omega)) (Aa (E5 b k (by omega)) ?_))
   · have hlt:=X_ (show nv a / B ^ k<nv b / B ^ k by omega)
     simp only[Hs];rw[if_pos hlt]
   · simp only[Af,Ah]
     refine Ad (fun h2=>Ac ?_) (fun h2=> ?_)
     · have hlt:=X_ (show nv b / B ^ k<nv a / B ^ k by omega)
       simp only[Hs];rw[if_neg (by omega),if_neg (by omega)]
     · rw[Ap (by omega) (by omega)]
       exact ih () ⟨by omega,by omega⟩)
  (max a.length b.length+1) (max a.length b.length) () (by omega) ⟨by omega,by
   rw[Nat.div_eq_of_lt,Nat.div_eq_of_lt]
   · exact Nat.lt_of_lt_of_le (Ck b) (Nat.pow_le_pow_right Cd (Nat.le_max_right _ _))
   · exact Nat.lt_of_lt_of_le (Ck a) (Nat.pow_le_pow_right Cd (Nat.le_max_left _ _))⟩
 rw[Ap (by omega) (by omega)]
 exact key
theorem FW(a b:List Av)(ha:a.length≤100000)(hb:b.length≤100000):Sp 268 [dL a,dL b] [dL (lb (nv a+nv b))]:=by
 refine Ag (max a.length b.length+3) (WK _ _ _) ?_
 have hmx:max a.length b.length≤100000:=by omega
 have hlt:nv a+nv b<B ^ (max a.length b.length+1):=by
  have h1:nv a<B ^ max a.length b.length:=Nat.lt_of_lt_of_le (Ck a) (Nat.pow_le_pow_right Cd (Nat.le_max_left _ _))
  have h2:nv b<B ^ max a.length b.length:=Nat.lt_of_lt_of_le (Ck b) (Nat.pow_le_pow_right Cd (Nat.le_max_right _ _))
  rw[Nat.pow_succ,Be];rw[Be]at h1 h2;omega
 have key:=C4 (P:=Tryz.prog) (md:=md) (max a.length b.length+1) (fun m k (s:List Av×Nat)=>Qx (max a.length b.length+3) m (dL a) (dL b) (s.1.map dB) (s.2:Int) (k:Int)) (fun _ _=>[dL (lb (nv a+nv b))])
  (fun k s=>s.1.length=k∧nv s.1=(nv a+nv b) % B ^ k∧s.2=(nv a % B ^ k+nv b % B ^ k) / B ^ k)
  (fun m s ⟨h1,h2,h3⟩=>by
   simp only[Vm]
   refine Aa (Jh a b) ?_
   simp only[Af,Ah]
   refine Am (by omega) (Aa (Hk s.1 (by omega)) (Ac ?_))
   rw[h2,Nat.mod_eq_of_lt hlt];rfl)
  (fun m k s hk ⟨h1,h2,h3⟩ ih=>by
   simp only[Vm]
   refine Aa (Jh a b) ?_
   simp only[Af,Ah]
   refine Ae (Aa (E5 a k (by omega)) (Aa (E5 b k (by omega)) ?_))
   simp only[Af,Ah]
   have hd:=DO (nv a) (nv b) k
   have hc:=DM (nv a) (nv b) k
   have la:=Nat.mod_lt (nv a / B ^ k) Cd
   have lb':=Nat.mod_lt (nv b / B ^ k) Cd
   have lc:s.2≤1:=by
    rw[h3]
    have r1:=Nat.mod_lt (nv a) (Bp k)
    have r2:=Nat.mod_lt (nv b) (Bp k)
    have:(nv a % B ^ k+nv b % B ^ k) / B ^ k<2:=by rw[Nat.div_lt_iff_lt_mul (Bp k)];omega
    omega
   rw[← h3]at hd hc
   generalize nv a / B ^ k % B=x at *
   generalize nv b / B ^ k % B=y at *
   have hB:=Be
   rw[show (x+y+s.2) / B=(x+y+s.2) / 4294967296 from rfl]at hc
   have t1:IntKind.wrap .u64 (IntKind.wrap .u64 ((x:Int)+(y:Int))+(s.2:Int))=((x+y+s.2:Nat):Int):=by
    rw[A_ (x:=(x:Int)+y) (by omega) (by omega),A_ (by omega) (by omega)];omega
   rw[t1,Int.tmod_eq_emod_of_nonneg (by omega),Int.tdiv_eq_ediv_of_nonneg (by omega),show (((x+y+s.2:Nat):Int) % 4294967296)=(((x+y+s.2) % B:Nat):Int) by rw[Be];omega,
    show (((x+y+s.2:Nat):Int) / 4294967296)=(((x+y+s.2) / 4294967296:Nat):Int) by omega]
   have hm:=Nat.mod_lt (x+y+s.2) Cd
   rw[Fp (x:=(((x+y+s.2) % B:Nat):Int)) (by omega) (by generalize (x+y+s.2) % B=z at *; omega),A_ (x:=(((x+y+s.2) / 4294967296:Nat):Int)) (by omega) (by omega),An (by omega),Dy hm]
   simp only[List.length_map,List.length_singleton]
   refine Ba (by decide) (At (by unfold Ar;omega) (Ba (by decide) ?_))
   have:=ih (s.1++[BitVec.ofNat 32 ((x+y+s.2) % B)],(x+y+s.2) / 4294967296) ⟨by simp[h1],Zy h1 h2 (by rw[ofNat_lt hm,hd]),by rw[hc]⟩
   simpa using this)
  (max a.length b.length+3) 0 ([],0) (by omega) (by omega) ⟨rfl,by simp[Nat.mod_one],by simp[Nat.mod_one]⟩
 exact key
theorem Agz{x y zi c c':Nat}(hx:x<B)(hy:y<B)(hz:zi<B)(hc:c≤1)(hc':c'≤1)(e:x+B*c'=zi+y+c) :
  IntKind.wrap .u32 (Int.tmod (IntKind.wrap .u64 (IntKind.wrap .u64 (IntKind.wrap .u64 (4294967296+(x:Int))-(y:Int))-(c:Int))) 4294967296)=(zi:Int) ∧
  IntKind.wrap .u64 (1-IntKind.wrap .u64 (Int.tdiv (IntKind.wrap .u64 (IntKind.wrap .u64 (IntKind.wrap .u64 (4294967296+(x:Int))-(y:Int))-(c:Int))) 4294967296))=(c':Int):=by
 rw[Be]at hx hy hz e
 have t1:IntKind.wrap .u64 (IntKind.wrap .u64 (IntKind.wrap .u64 (4294967296+(x:Int))-(y:Int))-(c:Int))=(zi:Int)+4294967296*(1-(c':Int)):=by
  rw[A_ (x:=4294967296+(x:Int)) (by omega) (by omega),A_ (x:=4294967296+(x:Int)-y) (by omega) (by omega),A_ (by omega) (by omega)];omega
 rw[t1,Int.tmod_eq_emod_of_nonneg (by omega),Int.tdiv_eq_ediv_of_nonneg (by omega),show ((zi:Int)+4294967296*(1-(c':Int))) % 4294967296=(zi:Int) by omega,show ((zi:Int)+4294967296*(1-(c':Int))) / 4294967296=1-(c':Int) by omega]
 rw[Fp (x:=(zi:Int)) (by omega) (by omega),A_ (x:=1-(c':Int)) (by omega) (by omega),show (1:Int)-(1-(c':Int))=(c':Int) by omega,A_ (x:=(c':Int)) (by omega) (by omega)]
 exact ⟨rfl,rfl⟩
theorem Xj(a b:List Av)(ha:a.length≤100000)(hb:b.length≤100000):Sp 297 [dL a,dL b] [dL (lb (nv a-nv b)),.bool (decide (nv b≤nv a))]:=by
 refine Ag (max a.length b.length+3) (WO _ _ _) (Aa (FX a b (by omega) (by omega)) ?_)
 have hmx:max a.length b.length≤100000:=by omega
 simp only[Af,Ah]
 refine Ad (fun h=>Ac ?_) (fun h=> ?_)
 · have hlt:nv a<nv b:=by
    unfold Hs at h
    rcases Nat.lt_or_ge (nv a) (nv b) with h1 | h1
    · exact h1
    · rw[if_neg (by omega)]at h;split at h <;> omega
   rw[Nat.sub_eq_zero_of_le (by omega),Ct,decide_eq_false (by omega)];rfl
 · have hge:nv b≤nv a:=by
    unfold Hs at h
    rcases Nat.lt_or_ge (nv a) (nv b) with h1 | h1
    · rw[if_pos h1]at h;omega
    · exact h1
   rw[decide_eq_true hge]
   have hlt:nv a-nv b<B ^ max a.length b.length:=by
    have h1:nv a<B ^ max a.length b.length:=Nat.lt_of_lt_of_le (Ck a) (Nat.pow_le_pow_right Cd (Nat.le_max_left _ _))
    omega
   have key:=C4 (P:=Tryz.prog) (md:=md) (max a.length b.length) (fun m k (s:List Av×Nat)=>Q4 (max a.length b.length+3) m (dL a) (dL b) (s.1.map dB) (s.2:Int) (k:Int)) (fun _ _=>[dL (lb (nv a-nv b)),.bool true])
    (fun k s=>s.1.length=k∧nv s.1=(nv a-nv b) % B ^ k∧s.2=((nv a-nv b) % B ^ k+nv b % B ^ k) / B ^ k)
    (fun m s ⟨h1,h2,h3⟩=>by
     simp only[Vp]
     refine Aa (Jh a b) ?_
     simp only[Af,Ah]
     refine Am (by omega) (Aa (Hk s.1 (by omega)) (Ac ?_))
     rw[h2,Nat.mod_eq_of_lt hlt];rfl)
    (fun m k s hk ⟨h1,h2,h3⟩ ih=>by
     simp only[Vp]
     refine Aa (Jh a b) ?_
     simp only[Af,Ah]
     refine Ae (Aa (E5 a k (by omega)) (Aa (E5 b k (by omega)) ?_))
     simp only[Af,Ah]
     obtain ⟨zi,c,c',e1,e2,e3,e4,e5⟩:=ZK hge k
     have la:=Nat.mod_lt (nv a / B ^ k) Cd
     have lb':=Nat.mod_lt (nv b / B ^ k) Cd
     have lz:=Nat.mod_lt ((nv a-nv b) / B ^ k) Cd
     rw[← e1]at lz
     rw[← e2]at h3
     have hB:=Be
     have lc:c≤1:=by
      rw[e2]
      have r1:=Nat.mod_lt (nv a-nv b) (Bp k)
      have r2:=Nat.mod_lt (nv b) (Bp k)
      have:((nv a-nv b) % B ^ k+nv b % B ^ k) / B ^ k<2:=by rw[Nat.div_lt_iff_lt_mul (Bp k)];omega
      omega
     rw[h3]
     generalize nv a / B ^ k % B=x at *
     generalize nv b / B ^ k % B=y at *
     obtain ⟨t1,t2⟩:=Agz la lb' lz lc e4 e5
     rw[t1,t2,An (by omega),Dy lz]
     simp only[List.length_map,List.length_singleton]
     refine Ba (by decide) (At (by unfold Ar;omega) (Ba (by decide) ?_))
     have:=ih (s.1++[BitVec.ofNat 32 zi],c') ⟨by simp[h1],Zy h1 h2 (by rw[ofNat_lt lz,e1]),e3⟩
     simpa using this)
    (max a.length b.length+3) 0 ([],0) (by omega) (by omega) ⟨rfl,by simp[Nat.mod_one],by simp[Nat.mod_one]⟩
   exact key
theorem Sx(a:List Av)(b:Nat)(hb:b≤1)(ha:a.length≤100000):Sp 295 [dL a,.int b] [dL (lb (2*nv a+b))]:=by
 refine Ag (a.length+3) (NO _ _ _) ?_
 have hlt:2*nv a+b<B ^ (a.length+1):=by
  have:=Ck a
  rw[Nat.pow_succ,Be];rw[Be]at this;omega
 have key:=C4 (P:=Tryz.prog) (md:=md) (a.length+1) (fun m k (s:List Av×Nat)=>Nc (a.length+3) m (dL a) (s.1.map dB) (s.2:Int) (k:Int)) (fun _ _=>[dL (lb (2*nv a+b))])
  (fun k s=>s.1.length=k∧nv s.1=(2*nv a+b) % B ^ k∧s.2=(2*(nv a % B ^ k)+b) / B ^ k)
  (fun m s ⟨h1,h2,h3⟩=>by
   simp only[R4,Bu,List.length_map]
   refine Am (by omega) (Aa (Hk s.1 (by omega)) (Ac ?_))
   rw[h2,Nat.mod_eq_of_lt hlt];rfl)
  (fun m k s hk ⟨h1,h2,h3⟩ ih=>by
   simp only[R4,Bu,List.length_map]
   refine Ae (Aa (E5 a k (by omega)) ?_)
   simp only[Af,Ah]
   have hd:=Ag4 (nv a) b k
   have hc:=Ag3 (nv a) b k
   have la:=Nat.mod_lt (nv a / B ^ k) Cd
   have hB:=Be
   have lc:s.2≤1:=by
    rw[h3]
    have r1:=Nat.mod_lt (nv a) (Bp k)
    have:(2*(nv a % B ^ k)+b) / B ^ k<2:=by rw[Nat.div_lt_iff_lt_mul (Bp k)];omega
    omega
   rw[← h3]at hd hc
   generalize nv a / B ^ k % B=x at *
   rw[show (2*x+s.2) / B=(2*x+s.2) / 4294967296 from rfl]at hc
   have t1:IntKind.wrap .u64 (IntKind.wrap .u64 (2*(x:Int))+(s.2:Int))=((2*x+s.2:Nat):Int):=by
    rw[A_ (x:=2*(x:Int)) (by omega) (by omega),A_ (by omega) (by omega)];omega
   rw[t1,Int.tmod_eq_emod_of_nonneg (by omega),Int.tdiv_eq_ediv_of_nonneg (by omega),show (((2*x+s.2:Nat):Int) % 4294967296)=(((2*x+s.2) % B:Nat):Int) by rw[Be];omega,
    show (((2*x+s.2:Nat):Int) / 4294967296)=(((2*x+s.2) / 4294967296:Nat):Int) by omega]
   have hm:=Nat.mod_lt (2*x+s.2) Cd
   rw[Fp (x:=(((2*x+s.2) % B:Nat):Int)) (by omega) (by generalize (2*x+s.2) % B=z at *; omega),A_ (x:=(((2*x+s.2) / 4294967296:Nat):Int)) (by omega) (by omega),An (by omega),Dy hm]
   simp only[List.length_singleton]
   refine Ba (by decide) (At (by unfold Ar;omega) (Ba (by decide) ?_))
   have:=ih (s.1++[BitVec.ofNat 32 ((2*x+s.2) % B)],(2*x+s.2) / 4294967296) ⟨by simp[h1],Zy h1 h2 (by rw[ofNat_lt hm,hd]),by rw[hc]⟩
   simpa using this)
  (a.length+3) 0 ([],b) (by omega) (by omega) ⟨rfl,by simp[Nat.mod_one],by simp[Nat.mod_one]⟩
 simp only[Ah]
 rw[A_ (by omega) (by omega)]
 exact key
theorem Acm(a:List Av)(i:Nat)(hi:i<9223372036854775807):Sp 296 [dL a,.int i] [.int ((nv a / 2 ^ i % 2:Nat):Int)]:=by
 refine Ag 40 (WL _ _ _) (Ba (by decide) ?_)
 simp only[Ah]
 rw[Int.tdiv_eq_ediv_of_nonneg (by omega),show (i:Int) / 32=((i / 32:Nat):Int) by omega,Ap (by omega) (by omega)]
 refine Aa (E5 a (i / 32) (by omega)) ?_
 simp only[Af,Ah]
 have hm:Int.tmod (i:Int) 32=((i % 32:Nat):Int):=by rw[Int.tmod_eq_emod_of_nonneg (by omega)];omega
 have key:=C4 (P:=Tryz.prog) (md:=md) (i % 32) (fun m k (v:Nat)=>Qy 40 m (i:Int) (v:Int) (k:Int)) (fun k v=>[.int ((v / 2 ^ (i % 32-k) % 2:Nat):Int)]) (fun _ v=>v<4294967296)
  (fun m v hv=>by
   simp only[Vn,hm]
   refine Ba (by decide) (Am (by omega) (Ba (by decide) (Ac ?_)))
   rw[Int.tmod_eq_emod_of_nonneg (by omega),show (v:Int) % 2=((v % 2:Nat):Int) by omega,Fp (by omega) (by omega)]
   simp)
  (fun m k v hk hv ih=>by
   simp only[Vn,hm]
   refine Ba (by decide) (Ae (Ba (by decide) ?_))
   rw[An (by omega),Int.tdiv_eq_ediv_of_nonneg (by omega),show (v:Int) / 2=((v / 2:Nat):Int) by omega,A_ (by omega) (by omega)]
   have:=ih (v / 2) (by omega)
   rw[show i % 32-k=(i % 32-(k+1))+1 by omega,Nat.pow_succ,Nat.mul_comm,← Nat.div_div_eq_div_mul]
   exact this)
  40 0 (nv a / B ^ (i / 32) % B) (by omega) (by omega) (Nat.mod_lt _ Cd)
 rw[Nat.sub_zero,AgI]at key
 exact key
theorem Q3(a b:List Av)(ha:a.length≤10000)(hb:b.length≤10000):Sp 244 [dL a,dL b] [dL (lb (nv a / nv b)),dL (lb (if nv b=0 then 0 else nv a % nv b)),.bool (decide (nv b≠0))]:=by
 refine Ag (32*a.length+1) (JY _ _ _) (Aa (Hk b (by omega)) ?_)
 simp only[Af,Bu,List.length_map,Bz]
 refine Ad (fun h=>Ac ?_) (fun h=> ?_)
 · have h0:nv b=0:=G9.1 (by omega)
   simp[h0,Ct,dL]
 · have h0:nv b≠0:=fun hh=>h (by rw[hh,Ct];rfl)
   rw[decide_eq_true h0,if_neg h0]
   have key:=G0 (P:=Tryz.prog) (md:=md) (fun m k (s:Nat×Nat)=>Jg (32*a.length+1) m (dL a) (dL b) (dL (lb s.1)) (dL (lb s.2)) ((k:Int)-1)) (fun _ _=>[dL (lb (nv a / nv b)),dL (lb (nv a % nv b)),.bool true])
    (fun k s=>k≤320000∧nv a / 2 ^ k=nv b*s.1+s.2∧s.2<nv b)
    (fun m s ⟨_,h1,h2⟩=>by
     simp only[Q0]
     refine Am (by omega) (Ac ?_)
     simp only[Nat.pow_zero,Nat.div_one]at h1
     rw[h1,Nat.mul_add_div (Nat.pos_of_ne_zero h0),Nat.div_eq_of_lt h2,Nat.mul_add_mod,Nat.mod_eq_of_lt h2];simp)
    (fun m k s ⟨hk,h1,h2⟩ ih=>by
     simp only[Q0,show ((k+1:Nat):Int)-1=(k:Int) by omega]
     have hr:(lb s.2).length≤b.length:=Ax.2 (Nat.lt_trans h2 (Ck b))
     have hq:(lb s.1).length≤a.length:=by
       refine Ax.2 (Nat.lt_of_le_of_lt ?_ (Ck a))
       have h3:nv a / 2 ^ (k+1)≤nv a:=Nat.div_le_self _ _
       have h4:=Nat.le_mul_of_pos_left s.1 (Nat.pos_of_ne_zero h0)
       omega
     have hbit:nv a / 2 ^ k % 2≤1:=by omega
     have hdec:nv a / 2 ^ k=2*(nv a / 2 ^ (k+1))+nv a / 2 ^ k % 2:=by
       rw[Nat.pow_succ,← Nat.div_div_eq_div_mul];omega
     generalize hbt:nv a / 2 ^ k % 2=bt at *
     have hlen2:(lb (2*s.2+bt)).length≤b.length+1:=by
       refine Ax.2 ?_
       have:=Ck b
       rw[Nat.pow_succ,Be];rw[Be]at this;omega
     have sp1:=Acm a k (by omega)
     rw[hbt]at sp1
     refine Ae (Aa sp1 ?_)
     simp only[Af,Ah]
     refine Aa (Sx (lb s.2) bt hbit (by omega)) ?_
     simp only[Af,By]
     refine Aa (Xj (lb (2*s.2+bt)) b (by omega) (by omega)) ?_
     simp only[Af,Ce,Al,By]
     refine Ad (fun h3=> ?_) (fun h3=> ?_)
     · refine Aa (Sx (lb s.1) 1 (by omega) (by omega)) ?_
       simp only[Af,By]
       rw[Ap (by omega) (by omega)]
       refine ih (2*s.1+1,2*s.2+bt-nv b) ⟨by omega,?_,by simp only;omega⟩
       simp only
       rw[hdec,h1,Nat.mul_add,Nat.mul_add,Nat.mul_left_comm];omega
     · refine Aa (Sx (lb s.1) 0 (by omega) (by omega)) ?_
       simp only[Af,By]
       rw[Ap (by omega) (by omega)]
       refine ih (2*s.1+0,2*s.2+bt) ⟨by omega,?_,by simp only;omega⟩
       simp only
       rw[hdec,h1,Nat.mul_add,Nat.add_zero,Nat.mul_left_comm];omega)
    (32*a.length+1) (32*a.length) (0,0) (by omega) ⟨by omega,by
     rw[← Aij,Nat.div_eq_of_lt (Ck a)];rfl,Nat.pos_of_ne_zero h0⟩
   rw[Ap (x:=32*(a.length:Int)) (by omega) (by omega),Ap (by omega) (by omega)]
   simp only[Ct]at key
   exact key
theorem Acn(a b:List Av)(ha:a.length≤1000)(hb:b.length≤1000):Sp 243 [dL a,dL b] [dL (lb (Nat.gcd (nv a) (nv b)))]:=by
 obtain ⟨K,hK⟩ : ∃ K,K=1000:=⟨_,rfl⟩
 obtain ⟨J,hJ⟩ : ∃ J,J=32000:=⟨_,rfl⟩
 refine Ag 100001 (WN _ _ _) (Aa (Hk a (by omega)) (Aa (Hk b (by omega)) ?_))
 simp only[Af]
 have key : ∀ (j k m x y:Nat),(lb x).length≤K→(lb y).length≤K→y<2 ^ j→k+2*j+2≤99000→2*j+1<m→Tw (Ii 100001 m (dL (lb x)) (dL (lb y)) (k:Int)) [dL (lb (Nat.gcd x y))]:=by
  intro j
  induction j with
  | zero =>
   intro k m x y _ _ hy hk hm
   obtain ⟨m,rfl⟩ : ∃ m',m=m'+1:=⟨m-1,by omega⟩
   have:y=0:=by simpa using hy
   subst this
   simp only[Nz,Bu,List.length_map,Ct,List.length_nil]
   refine Ae (Am (by omega) (Ac ?_))
   rw[Nat.gcd_zero_right]
  | succ j ih =>
   intro k m x y hx hy hlt hk hm
   have stop : ∀ (k m x:Nat),k<100000→0<m→Tw (Ii 100001 m (dL (lb x)) (dL (lb 0)) (k:Int)) [dL (lb (Nat.gcd x 0))]:=by
     intro k m x hk hm
     obtain ⟨m,rfl⟩ : ∃ m',m=m'+1:=⟨m-1,by omega⟩
     simp only[Nz,Bu,List.length_map,Ct,List.length_nil]
     refine Ae (Am (by omega) (Ac ?_))
     rw[Nat.gcd_zero_right]
   have step : ∀ (k m x y:Nat),k<100000→(lb x).length≤K→(lb y).length≤K→y≠0→Tw (Ii 100001 m (dL (lb y)) (dL (lb (x % y))) ((k+1:Nat):Int)) [dL (lb (Nat.gcd y (x % y)))]→Tw (Ii 100001 (m+1) (dL (lb x)) (dL (lb y)) (k:Int)) [dL (lb (Nat.gcd x y))]:=by
     intro k m x y hk hx hy h0 hw
     simp only[Tw,Nz,Bu,List.length_map]
     have hne:(lb y).length≠0:=fun hh=>h0 (G9.1 hh)
     have sp:=Q3 (lb x) (lb y) (by omega) (by omega)
     rw[By,By,if_neg h0]at sp
     refine Ae (Ae (Aa sp ?_))
     simp only[Ce]
     rw[An (by omega),Nat.gcd_comm x y,Nat.gcd_rec,Nat.gcd_comm]
     exact hw
   by_cases h0:y=0
   · subst h0;exact stop k m x (by omega) (by omega)
   · obtain ⟨m,rfl⟩ : ∃ m',m=m'+2:=⟨m-2,by omega⟩
     have hl1:(lb (x % y)).length≤K:=Ax.2 (Nat.lt_of_le_of_lt (Nat.le_of_lt (Nat.mod_lt x (Nat.pos_of_ne_zero h0))) (Ax.1 hy))
     refine step k (m+1) x y (by omega) hx hy h0 ?_
     by_cases h1:x % y=0
     · rw[h1];exact stop (k+1) (m+1) y (by omega) (by omega)
     · refine step (k+1) m y (x % y) (by omega) hy hl1 h1 ?_
       have hh:=Ahw h0 h1
       refine ih (k+1+1) m (x % y) (y % (x % y)) hl1 (Ax.2 (Nat.lt_trans (Nat.mod_lt y (Nat.pos_of_ne_zero h1)) (Ax.1 hl1))) ?_ (by omega) (by omega)
       rw[Nat.pow_succ]at hlt;omega
 have h1:(lb (nv a)).length≤K:=Nat.le_trans (Ax.2 (Ck a)) (by omega)
 have h2:(lb (nv b)).length≤K:=Nat.le_trans (Ax.2 (Ck b)) (by omega)
 have hlt:nv b<2 ^ J:=by
  refine Nat.lt_of_lt_of_le (Ck b) ?_
  rw[Aij]
  exact Nat.pow_le_pow_right (by decide) (by omega)
 exact key J 0 100001 _ _ h1 h2 hlt (by omega) (by omega)
theorem IS{α:Type} [DecidableEq α] {P:Program}{md:Nat→FMode}(f:α→D)(hf : ∀ x y,(f x).toInt=(f y).toInt→x=y)(a b:List α)(hlen:a.length=b.length)(hbig:a.length≤9223372036854775807)(L:Nat→Int→Tree)
  (hL : ∀ m i,L (m+1) i = .br (decide (i<((a.map f).length:Int))) (.br (decide (0≤i)) (.br (decide (i<((a.map f).length:Int))) (.br (decide (0≤i)) (.br (decide (i<((b.map f).length:Int)))
   (.br ((((a.map f).getD (Int.toNat i) D.nil).toInt)!=(((b.map f).getD (Int.toNat i) D.nil).toInt)) (.ret [D.bool false]) (L m (IntKind.wrap .i64 (i+1)))) .fail) .fail) .fail) .fail) (.ret [D.bool true])) :
  (L (a.length+1) 0).wp P md (fun zs=>zs = [.bool (decide (a=b))]):=by
 have key:=C4 (P:=P) (md:=md) a.length (fun m k (_:Unit)=>L m (k:Int)) (fun _ _=>[.bool (decide (a=b))]) (fun k _=>a.take k=b.take k)
  (fun m s h=>by
   simp only[hL,List.length_map]
   refine Am (by omega) (Ac ?_)
   rw[List.take_of_length_le (Nat.le_refl _),List.take_of_length_le (by omega)]at h
   rw[decide_eq_true h])
  (fun m k s hk h ih=>by
   have ha:a[k]? = some a[k]:=List.getElem?_eq_getElem _
   have hb:b[k]? = some (b[k]'(by omega)):=List.getElem?_eq_getElem _
   simp only[hL,List.length_map,Int.toNat_natCast,Aj ha,Aj hb,Cz]
   refine Ae (Ae (Ae (Ae (Ae (Ad (fun hne=>Ac ?_) (fun heq=> ?_))))))
   · rw[decide_eq_false]
     rintro rfl
     exact hne rfl
   · rw[An (by omega)]
     refine ih () ?_
     have:a[k]=b[k]:=hf _ _ (Classical.not_not.1 heq)
     rw[List.take_succ_eq_append_getElem hk,List.take_succ_eq_append_getElem (by omega),h,this])
  (a.length+1) 0 () (by omega) (by omega) (by simp)
 exact key
theorem Af6{k:Nat}(x y:BitVec k)(h:(dB x).toInt=(dB y).toInt):x=y:=BitVec.eq_of_toNat_eq (Int.ofNat.inj h)
theorem Abl(x y:Int)(h:(D.int x).toInt=(D.int y).toInt):x=y:=h
theorem CP(a b:List Av)(ha:a.length≤9223372036854775807):Sp 211 [dL a,dL b] [.bool (decide (a=b))]:=by
 refine Ag (a.length+1) (RA _ _ _) ?_
 simp only[Bu,List.length_map,Cz]
 refine Ad (fun h=>Ac ?_) (fun h=> ?_)
 · rw[decide_eq_false];rintro rfl;exact h rfl
 · exact IS dB Af6 a b (by omega) ha (fun m i=>O8 (a.length+1) m (dL a) (dL b) i) (fun m i=>FY _ _ _ _ _)
structure Wh where
 neg:Bool
 mag:List Av
def dW(w:Wh):D:= .agg [.bool w.neg,dL w.mag]
def zv(w:Wh):Int:=if w.neg then -(nv w.mag:Int) else (nv w.mag:Int)
def wz(z:Int):Wh:=⟨decide (z<0),lb z.natAbs⟩
@[simp] theorem L8 (w:Wh):(dW w).fld 0 = .bool w.neg:=rfl
@[simp] theorem Lm (w:Wh):(dW w).fld 1=dL w.mag:=rfl
theorem Akz(b:Bool)(l:List Av):D.agg [.bool b,dL l]=dW ⟨b,l⟩:=rfl
theorem IP:D.agg [.bool false,.sl []]=dW (wz 0):=by simp[dW,wz,Ct,dL]
theorem Rp(w:Wh):(zv w).natAbs=nv w.mag:=by unfold zv;split <;> omega
theorem Km(w:Wh):(lb (zv w).natAbs).length≤w.mag.length:=by rw[Rp];exact Ax.2 (Ck _)
theorem Eh(z:Int):zv (wz z)=z:=by
 unfold zv wz
 simp only[By,decide_eq_true_eq]
 split <;> omega
theorem TK(b:Bool)(n:Nat):zv ⟨b,lb n⟩=if b then -(n:Int) else (n:Int):=by simp only[zv,By]
theorem Aj4:wz 0=⟨false,[]⟩:=by simp[wz,Ct]
theorem Ai7(b:Bool){n:Nat}(h:n≠0):wz (if b then -(n:Int) else (n:Int))=⟨b,lb n⟩:=by
 cases b <;> simp[wz] <;> omega
theorem Ai8(w:Wh):wz (zv w)=if nv w.mag=0 then ⟨false,[]⟩ else ⟨w.neg,lb (nv w.mag)⟩:=by
 split
 · rename_i h
   unfold zv;rw[h];simp[Aj4]
 · rename_i h
   unfold zv
   exact Ai7 _ h
theorem Wr(a b:Bool):(a == b)=decide (a=b):=by cases a <;> cases b <;> rfl
def Cv(z:Int):Prop:= -9223372036854775808≤z∧z≤9223372036854775807
instance (z:Int):Decidable (Cv z):=by unfold Cv;infer_instance
def Hq(z:Int):List D:=if Cv z then [.int z,.bool true] else [.int 0,.bool false]
def Mm(z:Int):Int:=if z<0 then -1 else if z=0 then 0 else 1
def Ee(x y:Int):Int:=if x<y then -1 else if x=y then 0 else 1
theorem C6(w:Wh)(h:w.mag.length≤1000000):Sp 223 [dW w] [dW (wz (zv w))]:=by
 refine Ag 0 (RC _ _) (Aa (Hk w.mag h) ?_)
 simp only[Af,Bu,List.length_map,Bz,L8,Al]
 refine Ad (fun h=>Ac ?_) (fun h=>Ac ?_)
 · have h0:nv w.mag=0:=G9.1 (by omega)
   rw[Ai8,if_pos h0];rfl
 · have h0:nv w.mag≠0:=fun hh=>h (by rw[hh,Ct];rfl)
   rw[Ai8,if_neg h0];rfl
theorem U7{n:Nat}(h:n<18446744073709551616):nv [BitVec.ofNat 32 (n % 4294967296),BitVec.ofNat 32 (n / 4294967296)]=n:=by
 simp only[nv,AbP]
 rw[ofNat_lt (by rw[Be];omega),ofNat_lt (by rw[Be];omega),Be];omega
theorem Y5(z:Int)(h:Cv z):Sp 225 [.int z] [dW (wz z)]:=by
 unfold Cv at h
 refine Ag 0 (Aaw _ _) ?_
 simp only[Ah]
 refine Ad (fun h0=> ?_) (fun h0=> ?_)
 · obtain ⟨n,rfl⟩ : ∃ n:Nat,z=n:=⟨z.toNat,by omega⟩
   have e : [D.int (IntKind.wrap .u32 (Int.tmod (n:Int) 4294967296)),D.int (IntKind.wrap .u32 (IntKind.wrap .i64 (Int.tdiv (n:Int) 4294967296)))] = [BitVec.ofNat 32 (n % 4294967296),BitVec.ofNat 32 (n / 4294967296)].map dB:=by
    rw[Int.tmod_eq_emod_of_nonneg (by omega),Int.tdiv_eq_ediv_of_nonneg (by omega),show (n:Int) % 4294967296=((n % 4294967296:Nat):Int) by omega,show (n:Int) / 4294967296=((n / 4294967296:Nat):Int) by omega,
     Ap (by omega) (by omega),Fp (by omega) (by omega),Fp (by omega) (by omega),Dy (by rw[Be];omega),Dy (by rw[Be];omega)];rfl
   rw[e]
   have hv:=U7 (n:=n) (by omega)
   refine Ba (by decide) (Ba (by decide) (Aa (C6 ⟨false,[BitVec.ofNat 32 (n % 4294967296),BitVec.ofNat 32 (n / 4294967296)]⟩ (by simp)) (Ac ?_)))
   simp only[Af,zv,hv];rfl
 · obtain ⟨n,rfl⟩ : ∃ n:Nat,z = -1-(n:Int):=⟨(-1-z).toNat,by omega⟩
   have e : [D.int (IntKind.wrap .u32 (Int.tmod (IntKind.wrap .i64 (-1-(-1-(n:Int)))) 4294967296)),D.int (IntKind.wrap .u32 (IntKind.wrap .i64 (Int.tdiv (IntKind.wrap .i64 (-1-(-1-(n:Int)))) 4294967296)))] = [BitVec.ofNat 32 (n % 4294967296),BitVec.ofNat 32 (n / 4294967296)].map dB:=by
    rw[show (-1:Int)-(-1-(n:Int))=(n:Int) by omega,Ap (x:=(n:Int)) (by omega) (by omega),Int.tmod_eq_emod_of_nonneg (by omega),Int.tdiv_eq_ediv_of_nonneg (by omega),show (n:Int) % 4294967296=((n % 4294967296:Nat):Int) by omega,show (n:Int) / 4294967296=((n / 4294967296:Nat):Int) by omega,
     Ap (by omega) (by omega),Fp (by omega) (by omega),Fp (by omega) (by omega),Dy (by rw[Be];omega),Dy (by rw[Be];omega)];rfl
   rw[e]
   have hv:=U7 (n:=n) (by omega)
   have sp:=FW [BitVec.ofNat 32 (n % 4294967296),BitVec.ofNat 32 (n / 4294967296)] [1] (by simp) (by simp)
   rw[hv,show nv [1]=1 from rfl]at sp
   refine Ba (by decide) (Ba (by decide) (Aa sp ?_))
   simp only[Af]
   have hl:(lb (n+1)).length≤3:=Ax.2 (by show n+1<79228162514264337593543950336;omega)
   refine Aa (C6 ⟨true,lb (n+1)⟩ (by simp only;omega)) (Ac ?_)
   simp only[Af,TK,if_true]
   rw[show -((n+1:Nat):Int) = -1-(n:Int) by omega]
theorem Acp(w:Wh)(h:w.mag.length≤1000000):Sp 309 [dW w] [dW (wz (-zv w))]:=by
 refine Ag 0 (WR _ _) ?_
 simp only[L8,Lm,Al]
 refine Aa (C6 ⟨!w.neg,w.mag⟩ h) (Ac ?_)
 simp only[Af]
 rw[show zv ⟨!w.neg,w.mag⟩ = -zv w by unfold zv;cases w.neg <;> simp]
theorem Aco(a b:Wh)(ha:a.mag.length≤10000)(hb:b.mag.length≤10000):Sp 308 [dW a,dW b] [dW (wz (zv a+zv b))]:=by
 refine Ag 0 (WP _ _ _) (Aa (C6 a (by omega)) (Aa (C6 b (by omega)) ?_))
 have la:=Km a
 have lb':=Km b
 generalize zv a=x at *
 generalize zv b=y at *
 simp only[Af,L8,Lm,Al,Wr,wz]
 have hadd:(lb (x.natAbs+y.natAbs)).length≤10001:=by
   refine Ax.2 ?_
   have h1:=Ax.1 (Nat.le_trans la ha)
   have h2:=Ax.1 (Nat.le_trans lb' hb)
   obtain ⟨K,hK⟩ : ∃ K,K=10000:=⟨_,rfl⟩
   rw[← hK]at h1 h2
   rw[show 10001=K+1 by omega,Nat.pow_succ,Be]
   rw[Be]at h1 h2
   omega
 have hsub : ∀ p q:Nat,(lb p).length≤10000→(lb (p-q)).length≤10000:=fun p q hp=>by
   obtain ⟨K,hK⟩ : ∃ K,K=10000:=⟨_,rfl⟩
   rw[← hK]at hp ⊢
   exact Ax.2 (Nat.lt_of_le_of_lt (Nat.sub_le _ _) (Ax.1 hp))
 refine Ad (fun h=> ?_) (fun h=> ?_)
 · have sp:=FW (lb x.natAbs) (lb y.natAbs) (by omega) (by omega)
   rw[By,By]at sp
   refine Aa sp ?_
   simp only[Af]
   refine Aa (C6 ⟨decide (x<0),lb (x.natAbs+y.natAbs)⟩ (by simp only;omega)) (Ac ?_)
   simp only[Af,TK]
   have h':x<0↔y<0:=by simpa using h
   congr 2
   rw[show (if decide (x<0)=true then -((x.natAbs+y.natAbs:Nat):Int) else ((x.natAbs+y.natAbs:Nat):Int))=x+y by
     by_cases hx:x<0 <;> simp[hx] <;> omega]
   rfl
 · have h' : ¬ (x<0↔y<0):=by simpa using h
   have sp:=FX (lb x.natAbs) (lb y.natAbs) (by omega) (by omega)
   rw[By,By]at sp
   refine Aa sp ?_
   simp only[Af,Ah,Hs]
   refine Ad (fun h2=> ?_) (fun h2=> ?_)
   · have sp:=Xj (lb x.natAbs) (lb y.natAbs) (by omega) (by omega)
     rw[By,By]at sp
     refine Aa sp ?_
     simp only[Af]
     refine Aa (C6 ⟨decide (x<0),lb (x.natAbs-y.natAbs)⟩ (by simp only;have:=hsub x.natAbs y.natAbs (by omega);omega)) (Ac ?_)
     simp only[Af,TK]
     have hge:y.natAbs≤x.natAbs:=by split at h2 <;> omega
     rw[show (if decide (x<0)=true then -((x.natAbs-y.natAbs:Nat):Int) else ((x.natAbs-y.natAbs:Nat):Int))=x+y by
      by_cases hx:x<0 <;> simp[hx] <;> omega]
     rfl
   · have sp:=Xj (lb y.natAbs) (lb x.natAbs) (by omega) (by omega)
     rw[By,By]at sp
     refine Aa sp ?_
     simp only[Af]
     refine Aa (C6 ⟨decide (y<0),lb (y.natAbs-x.natAbs)⟩ (by simp only;have:=hsub y.natAbs x.natAbs (by omega);omega)) (Ac ?_)
     simp only[Af,TK]
     have hge:x.natAbs<y.natAbs:=by
      rcases Nat.lt_or_ge x.natAbs y.natAbs with h3 | h3
      · exact h3
      · rw[if_neg (by omega)]at h2;split at h2 <;> omega
     rw[show (if decide (y<0)=true then -((y.natAbs-x.natAbs:Nat):Int) else ((y.natAbs-x.natAbs:Nat):Int))=x+y by
      by_cases hx:y<0 <;> simp[hx] <;> omega]
     rfl
theorem Acq(a b:Wh)(ha:a.mag.length≤10000)(hb:b.mag.length≤10000):Sp 267 [dW a,dW b] [dW (wz (zv a-zv b))]:=by
 refine Ag 0 (WT _ _ _) (Aa (Acp b (by omega)) ?_)
 simp only[Af]
 have:=Km b
 refine Aa (Aco a (wz (-zv b)) ha (by simp only[wz,Int.natAbs_neg];omega)) (Ac ?_)
 simp only[Af,Eh,← Int.sub_eq_add_neg]
theorem Aax(a:Wh)(ha:a.mag.length≤1000000):Sp 266 [dW a] [.int (Mm (zv a))]:=by
 refine Ag 0 (RD _ _) (Aa (C6 a ha) ?_)
 generalize zv a=x
 simp only[Af,L8,Lm,Bu,List.length_map,Bz,Al,wz]
 have h0:((lb x.natAbs).length:Int)=0↔x=0:=by rw[Int.natCast_eq_zero,G9];omega
 unfold Mm
 refine Ad (fun h=>Ac ?_) (fun h=>Ad (fun h2=>Ac ?_) (fun h2=>Ac ?_))
 · rw[if_neg (by have:=h0.1 h;omega),if_pos (h0.1 h)]
 · rw[if_pos h2]
 · rw[if_neg h2,if_neg (fun hh=>h (h0.2 hh))]
theorem Ajz{a b:Wh}{k:Nat}(ha:a.mag.length≤k)(hb:b.mag.length≤k):(wz (zv a-zv b)).mag.length≤k+1:=by
 simp only[wz]
 refine Ax.2 ?_
 have h1:=Ax.1 (Nat.le_trans (Km a) ha)
 have h2:=Ax.1 (Nat.le_trans (Km b) hb)
 rw[Nat.pow_succ,Be]
 rw[Be]at h1 h2
 omega
theorem FZ(a b:Wh)(ha:a.mag.length≤10000)(hb:b.mag.length≤10000):Sp 224 [dW a,dW b] [.int (Ee (zv a) (zv b))]:=by
 refine Ag 0 (WQ _ _ _) (Aa (Acq a b ha hb) ?_)
 simp only[Af]
 have:=Ajz ha hb
 refine Aa (Aax _ (by omega)) (Ac ?_)
 simp only[Af,Ah,Eh]
 congr 2
 unfold Mm Ee
 split <;> split <;> first | rfl | omega | (split <;> split <;> first | rfl | omega) | (split <;> first | rfl | omega)
theorem WS(a:Wh)(ha:a.mag.length≤10000):Sp 163 [dW a] (Hq (zv a)):=by
 refine Ag 10 (NP _ _) (Aa (C6 a (by omega)) ?_)
 generalize zv a=z
 simp only[Af,L8,Lm,Bu,List.length_map]
 refine Ad (fun h=>Ac ?_) (fun h=> ?_)
 · have : ¬ (lb z.natAbs).length≤2:=by simp only[wz]at h;omega
   rw[Ax]at this
   have : ¬ Cv z:=by
     intro hr
     apply this
     unfold Cv at hr
     show z.natAbs<18446744073709551616
     omega
   rw[Hq,if_neg this]
 · have hl:(wz z).mag.length≤2:=by omega
   have hof : ∀ y,Cv y→(wz y).mag.length≤2:=fun y hy=>Ax.2 (by unfold Cv at hy;show y.natAbs<18446744073709551616;omega)
   have r1:Cv 9223372036854775807:=by decide
   have r2:Cv (-9223372036854775808):=by decide
   refine Aa (Y5 _ r1) (Aa (FZ (wz z) (wz 9223372036854775807) (by omega) (by have:=hof _ r1;omega)) ?_)
   simp only[Af,Ah,Eh,Ee]
   refine Ad (fun h2=>Ac ?_) (fun h2=> ?_)
   · rw[Hq,if_neg]
     unfold Cv
     split at h2
     · omega
     · split at h2 <;> omega
   · refine Aa (Y5 _ r2) (Aa (FZ (wz z) (wz (-9223372036854775808)) (by omega) (by have:=hof _ r2;omega)) ?_)
     simp only[Af,Ah,Eh,Ee]
     refine Ad (fun h3=>Ac ?_) (fun h3=> ?_)
     · rw[Hq,if_neg]
       unfold Cv
       split at h3
       · omega
       · split at h3 <;> omega
     · have hz:Cv z:=by
        unfold Cv
        constructor
        · split at h3 <;> omega
        · split at h2
          · omega
          · split at h2 <;> omega
       rw[Hq,if_pos hz]
       have key:=G0 (P:=Tryz.prog) (md:=md) (fun m k (x:Int)=>Kh 10 m x ((k:Int)-1) (dW (wz z))) (fun _ _=>[.int z,.bool true])
        (fun k x=>k≤(wz z).mag.length∧x=if z<0 then -((z.natAbs / B ^ k:Nat):Int) else ((z.natAbs / B ^ k:Nat):Int))
        (fun m x ⟨_,hx⟩=>by
          simp only[R5]
          refine Am (by omega) (Ac ?_)
          rw[hx]
          simp only[Nat.pow_zero,Nat.div_one]
          congr 2
          split <;> omega)
        (fun m k x ⟨hk,hx⟩ ih=>by
          have hk':k<(lb z.natAbs).length:=hk
          have hg:(lb z.natAbs)[k]? = some (lb z.natAbs)[k]:=List.getElem?_eq_getElem _
          simp only[R5,show ((k+1:Nat):Int)-1=(k:Int) by omega,L8,Lm,Bu,List.length_map,Al,Int.toNat_natCast]
          have e1:(wz z).mag=lb z.natAbs:=rfl
          have e2:(wz z).neg=decide (z<0):=rfl
          rw[e1,e2,Aj hg,Ds,D0,By]
          have hd:=Nat.mod_add_div (z.natAbs / B ^ k) B
          rw[Nat.div_div_eq_div_mul,← Nat.pow_succ]at hd
          have hle:z.natAbs / B ^ k≤z.natAbs:=Nat.div_le_self _ _
          have hm:=Nat.mod_lt (z.natAbs / B ^ k) Cd
          unfold Cv at hz
          have ih':=ih (if z<0 then -((z.natAbs / B ^ k:Nat):Int) else ((z.natAbs / B ^ k:Nat):Int)) ⟨by omega,rfl⟩
          generalize z.natAbs / B ^ k=p at *
          generalize z.natAbs / B ^ (k+1)=q at *
          generalize p % B=r at *
          rw[Be]at hd hm
          refine Ae (Ad (fun hn=> ?_) (fun hn=> ?_))
          · rw[if_pos hn]at hx ih'
            refine Ae (Ae ?_)
            rw[hx,Ap (x:= -(q:Int)*4294967296) (by omega) (by omega),Ap (x:=(r:Int)) (by omega) (by omega),Ap (x:= -(q:Int)*4294967296-r) (by omega) (by omega),Ap (by omega) (by omega),show -(q:Int)*4294967296-(r:Int) = -(p:Int) by omega]
            exact ih'
          · rw[if_neg hn]at hx ih'
            refine Ae (Ae ?_)
            rw[hx,Ap (x:=(q:Int)*4294967296) (by omega) (by omega),Ap (x:=(r:Int)) (by omega) (by omega),Ap (x:=(q:Int)*4294967296+r) (by omega) (by omega),Ap (by omega) (by omega),show (q:Int)*4294967296+(r:Int)=(p:Int) by omega]
            exact ih')
        10 (wz z).mag.length 0 (by omega) ⟨Nat.le_refl _,by
          have:z.natAbs / B ^ (wz z).mag.length=0:=Nat.div_eq_of_lt (Ax.1 (Nat.le_refl _))
          rw[this];simp⟩
       rw[Ap (by omega) (by omega)]
       exact key
theorem C9(l:List Av)(hl:l.length<9223372036854775807):Sp 321 [dL l] [dL (lb (nv l))]:=by
 refine Ag (l.length+1) (Aak _ _) ?_
 have:=G0 (P:=Tryz.prog) (md:=md) (fun m k (_:Unit)=>Ti (l.length+1) m (dL l) (k:Int)) (fun _ _=>[dL (lb (nv l))]) (fun k _=>k≤l.length∧∀ i,k≤i→(hi:i<l.length)→l[i]=0)
  (fun m s ⟨h1,h2⟩=>by
   simp only[W7,Bu,List.length_map,List.length_take]
   refine Am (by omega) (Ae (Ae (Ae (Ac ?_))))
   rw[IW (k:=0) (by omega) h2 (fun _ h=>by omega),IN];rfl)
  (fun m k s ⟨h1,h2⟩ ih=>by
   have hk:l[k]? = some l[k]:=List.getElem?_eq_getElem _
   simp only[W7,Bu,List.length_map,List.length_take,ZN k (by omega),Int.toNat_natCast,Aj hk,Ds,Bz]
   refine Ae (Ae (Ae (Ad (fun h=> ?_) (fun h=> ?_))))
   · refine ih () ⟨by omega,fun i hi hlt=> ?_⟩
     by_cases he:i=k
     · subst he;exact BitVec.eq_of_toNat_eq (by simp;omega)
     · exact h2 i (by omega) hlt
   · refine Ae (Ae (Ae (Ac ?_)))
     rw[IW (k:=k+1) (by omega) h2 (fun _ _ hc=>h (by have hc':l[k]=0:=hc;rw[hc'];rfl)),IN])
  (l.length+1) l.length () (by omega) ⟨Nat.le_refl _,fun i h1 h2=>by omega⟩
 simpa using this
theorem Ej(l:List Av)(hl:l.length≤1000000):Sp 299 [dL l] [dL (lb (nv l))]:=by
 refine Ag 0 (Aai _ _) (Aa (C9 l (by omega)) ?_)
 have h1:(lb (nv l)).length≤l.length:=Ax.2 (Ck l)
 simp only[Af,Bu,List.length_map,List.length_replicate,Int.toNat_natCast]
 refine Ae (Ae (At (by unfold Ar;omega) (Ac ?_)))
 rw[List.take_of_length_le (by simp),List.drop_eq_nil_of_le (by simp),List.append_nil];rfl
theorem Er(b:Bool)(n:Nat):Sp 298 [.bool b,dL (lb n)] [dW (wz (if b then -(n:Int) else (n:Int)))]:=by
 refine Ag 0 (KO _ _ _) ?_
 simp only[Bu,List.length_map,Bz,Al]
 refine Ad (fun h=>Ac ?_) (fun h=>Ac ?_)
 · have:n=0:=G9.1 (by omega)
   subst this
   simp[IP]
 · have:n≠0:=fun hh=>h (by rw[hh,Ct];rfl)
   rw[Ai7 _ this];rfl
theorem Pd(w:Wh)(h:w.mag.length≤1000000):Sp 269 [dW w] [dW (wz (zv w))]:=by
 refine Ag 0 (TG _ _) (Aa (Ej w.mag h) ?_)
 simp only[Af,L8,Al]
 exact Aa (Er w.neg (nv w.mag)) (Ac rfl)
theorem Ze(x:Nat):Int.fdiv (x:Int) (2 ^ (min (Int.toNat 32) (IntKind.bits .u64)))=((x / 4294967296:Nat):Int):=by
 show Int.fdiv (x:Int) 4294967296=_
 rw[Int.fdiv_eq_ediv_of_nonneg _ (by omega)];omega
theorem Aj1{z:Int}(h:z<0)(h2 : -9223372036854775808≤z):IntKind.wrap .u64 (0-IntKind.wrap .u64 z) = -z:=by
 rw[IntKind.wrap_u64,IntKind.wrap_u64];omega
theorem Od(z:Int)(h:Cv z):Sp 246 [.int z] [dW (wz z)]:=by
 unfold Cv at h
 refine Ag 0 (Aa7 _ _) ?_
 simp only[Ah]
 have main : ∀ n:Nat,n<18446744073709551616→[D.int (IntKind.wrap .u32 (n:Int)),D.int (IntKind.wrap .u32 (Int.fdiv (n:Int) (2 ^ (min (Int.toNat 32) (IntKind.bits .u64)))))] = [BitVec.ofNat 32 (n % 4294967296),BitVec.ofNat 32 (n / 4294967296)].map dB:=by
   intro n hn
   rw[Ze,Fp (x:=((n / 4294967296:Nat):Int)) (by omega) (by omega),Dy (t:=n / 4294967296) (by rw[Be];omega),show IntKind.wrap .u32 (n:Int)=((n % 4294967296:Nat):Int) by rw[IntKind.wrap_u32];omega,Dy (t:=n % 4294967296) (by rw[Be];omega)];rfl
 refine Ad (fun h0=> ?_) (fun h0=> ?_)
 · obtain ⟨n,hn⟩ : ∃ n:Nat,-z=n:=⟨(-z).toNat,by omega⟩
   rw[Aj1 h0 h.1,hn,main n (by omega)]
   simp only[h0,decide_true]
   have sp:=Ej [BitVec.ofNat 32 (n % 4294967296),BitVec.ofNat 32 (n / 4294967296)] (by simp)
   rw[U7 (by omega)]at sp
   refine Ae (Aa sp ?_)
   simp only[Af]
   refine Aa (Er true n) (Ac ?_)
   simp only[Af,if_true]
   rw[show -(n:Int)=z by omega]
 · obtain ⟨n,rfl⟩ : ∃ n:Nat,z=n:=⟨z.toNat,by omega⟩
   rw[A_ (by omega) (by omega),main n (by omega)]
   simp only[h0,decide_false]
   have sp:=Ej [BitVec.ofNat 32 (n % 4294967296),BitVec.ofNat 32 (n / 4294967296)] (by simp)
   rw[U7 (by omega)]at sp
   refine Ae (Aa sp ?_)
   simp only[Af]
   exact Aa (Er false n) (Ac rfl)
theorem VH{x d:Nat}(hx:x<4294967296)(hd:d<4294967296):Bs .or .u64 (x:Int) ((d*4294967296:Nat):Int)=((x+d*4294967296:Nat):Int):=by
 have h:=VG (BitVec.ofNat 64 x) (BitVec.ofNat 64 (d*4294967296))
 rw[BitVec.toNat_or,BitVec.toNat_ofNat,BitVec.toNat_ofNat,Nat.mod_eq_of_lt (a:=x) (by omega),Nat.mod_eq_of_lt (a:=d*4294967296) (by omega)]at h
 rw[h]
 congr 1
 have:=Nat.two_pow_add_eq_or_of_lt (i:=32) (b:=x) (by omega) d
 rw[show 2 ^ 32*d=d*4294967296 by omega]at this
 rw[Nat.or_comm,← this];omega
theorem XR(a:Wh)(ha:a.mag.length≤1000000):Sp 228 [dW a] (Hq (zv a)):=by
 refine Ag 10 (OK _ _) (Aa (Pd a (by omega)) ?_)
 generalize zv a=z
 simp only[Af,L8,Lm,Bu,List.length_map]
 refine Ad (fun h=>Ac ?_) (fun h=> ?_)
 · have : ¬ (lb z.natAbs).length≤2:=by simp only[wz]at h;omega
   rw[Ax]at this
   have : ¬ Cv z:=by
    intro hr
    apply this
    unfold Cv at hr
    show z.natAbs<18446744073709551616
    omega
   rw[Hq,if_neg this]
 · have hl:(lb z.natAbs).length≤2:=by simp only[wz]at h;omega
   have hlt:z.natAbs<18446744073709551616:=Ax.1 hl
   have fin : ∀ (m:Nat) (t:D) (k:Int),Tw (H_ 10 (m+1) (z.natAbs:Int) t k k (dW (wz z))) (Hq z):=by
    intro m t k
    simp only[Tw,Sb,L8,Al,wz]
    refine Am (by omega) (Ad (fun hn=>Ad (fun h2=>Ac ?_) (fun h2=>Ac ?_)) (fun hn=>Ad (fun h2=>Ac ?_) (fun h2=>Ac ?_)))
    · rw[Hq,if_neg];unfold Cv;omega
    · rw[Hq,if_pos (by unfold Cv;omega),IntKind.wrap_u64,IntKind.wrap_i64]
      congr 2
      omega
    · rw[Hq,if_neg];unfold Cv;omega
    · rw[Hq,if_pos (by unfold Cv;omega),Ap (by omega) (by omega)]
      congr 2
      omega
   have one : ∀ (m:Nat) (l:List Av) (t:Int) (k x:Nat) (d:Av),k≤1→l[k]? = some d→(k:Int)<t→(k=0→x=0)→x<4294967296→Tw (H_ 10 m ((x+d.toNat*4294967296 ^ k:Nat):Int) (dL l) t ((k+1:Nat):Int) (dW (wz z))) (Hq z)→Tw (H_ 10 (m+1) (x:Int) (dL l) t (k:Int) (dW (wz z))) (Hq z):=by
    intro m l t k x d hk hd ht hx hx2 hw
    have hkl:k<l.length:=(List.getElem?_eq_some_iff.1 hd).1
    have hdl:=Fa d
    rw[Be]at hdl
    simp only[Tw,Sb,Bu,List.length_map,Int.toNat_natCast,Aj hd,Ds]
    rw[Ap (x:=32*(k:Int)) (by omega) (by omega),A_ (x:=32*(k:Int)) (by omega) (by omega),A_ (x:=(d.toNat:Int)) (by omega) (by omega),An (by omega)]
    refine Ae (Ae (Ae (Ae ?_)))
    have e:Bs .or .u64 (x:Int) (IntKind.wrap .u64 ((d.toNat:Int)*2 ^ (min (Int.toNat (32*(k:Int))) (IntKind.bits .u64))))=((x+d.toNat*4294967296 ^ k:Nat):Int):=by
      rcases (by omega:k=0∨k=1) with rfl | rfl
      · rw[hx rfl]
        show Bs .or .u64 ((0:Nat):Int) (IntKind.wrap .u64 ((d.toNat:Int)*1))=_
        rw[Int.mul_one,A_ (by omega) (by omega)]
        have:=VG (0:Co) (BitVec.ofNat 64 d.toNat)
        rw[BitVec.toNat_or,BitVec.toNat_ofNat,Nat.mod_eq_of_lt (a:=d.toNat) (by omega)]at this
        simpa using this
      · show Bs .or .u64 (x:Int) (IntKind.wrap .u64 ((d.toNat:Int)*4294967296))=_
        rw[show (d.toNat:Int)*4294967296=((d.toNat*4294967296:Nat):Int) by omega,A_ (by omega) (by omega),VH hx2 hdl]
        try simp
    rw[e]
    exact hw
   have hz0:z.natAbs=nv (lb z.natAbs):=(By _).symm
   simp only[show (wz z).mag=lb z.natAbs from rfl]
   generalize hll:lb z.natAbs=ll at *
   match ll,hl with
   | [],_ =>
    have:z.natAbs=0:=by simpa using hz0
    have hf:=fin 9 (dL []) 0
    rw[this]at hf
    exact hf
   | [d],_ =>
    have:z.natAbs=d.toNat:=by simpa [nv]using hz0
    refine one 9 [d] 1 0 0 d (by omega) rfl (by omega) (fun _=>rfl) (by omega) ?_
    have hf:=fin 8 (dL [d]) 1
    rw[this]at hf
    simpa using hf
   | [d,e],_ =>
    have:z.natAbs=d.toNat+e.toNat*4294967296:=by simp only[nv,AbP]at hz0;rw[Be]at hz0;omega
    have hdl:=Fa d
    rw[Be]at hdl
    refine one 9 [d,e] 2 0 0 d (by omega) rfl (by omega) (fun _=>rfl) (by omega) ?_
    have:=one 8 [d,e] 2 1 d.toNat e (by omega) rfl (by omega) (fun h=>by omega) (by omega) (by
      have hf:=fin 7 (dL [d,e]) 2
      rw[this]at hf
      simpa using hf)
    simpa using this
def Cg(n:Num):Int:=zv ⟨n.neg,n.top⟩
def Ca(n:Num):Int:=(nv n.bot:Int)
def G4(z:Int):Num:=⟨decide (z<0),lb z.natAbs,[1]⟩
def FH:Option Int→List D
 | some z=>[.int z,.bool true]
 | none=>[.int 0,.bool false]
def ZG(z:Int):Option Int:=if Cv z then some z else none
theorem ZH(z:Int):Hq z=FH (ZG z):=by unfold Hq ZG;split <;> rfl
def D_(n:Num):Option Int:=if n.bot = [1] then ZG (Cg n) else none
def Js(p q:Int):Num×Int :=
 if q=0 then (.zero,3)
 else if 32<(lb (p.natAbs / Nat.gcd p.natAbs q.natAbs)).length∨32<(lb (q.natAbs / Nat.gcd p.natAbs q.natAbs)).length then (.zero,7)
 else (⟨decide (0<(lb (p.natAbs / Nat.gcd p.natAbs q.natAbs)).length)&& !(decide (p<0)==decide (q<0)),lb (p.natAbs / Nat.gcd p.natAbs q.natAbs),lb (q.natAbs / Nat.gcd p.natAbs q.natAbs)⟩,0)
def Ge(n:Num):Bool:=decide (n.top.length≤32∧n.bot.length≤32∧Js (Cg n) (Ca n)=(n,0))
theorem J5:D.agg [.bool false,.sl [],.sl []]=dN .zero:=rfl
theorem Ajh(l:List Av):(l = [1])↔(l.length=1∧∀ h:0<l.length,l[0].toNat=1):=by
 constructor
 · rintro rfl;exact ⟨rfl,fun _=>rfl⟩
 · rintro ⟨h1,h2⟩
   match l,h1 with
   | [x],_=>have:=h2 (by simp);simp at this;exact congrArg (· :: []) (BitVec.eq_of_toNat_eq (by simpa using this))
theorem AbS{P:Program}{md:Nat→FMode}(l:List Av):(Tree.br (((l.map dB).length:Int)==1) (.br (decide (0≤(0:Int))) (.br (decide (0<((l.map dB).length:Int))) (.ret [D.bool ((((l.map dB).getD (Int.toNat 0) D.nil).toInt)==1)]) .fail) .fail) (.ret [D.bool false])).wp P md (fun zs=>zs = [.bool (decide (l = [1]))]):=by
 simp only[List.length_map,Bz]
 refine Ad (fun h=>Ae (Ae (Ac ?_))) (fun h=>Ac ?_)
 · have hg:l[0]? = some (l[0]'(by omega)):=List.getElem?_eq_getElem _
   rw[show Int.toNat 0=0 from rfl,Aj hg,Ds]
   congr 2
   rw[decide_eq_decide,Ajh]
   refine ⟨fun hh=>⟨by omega,fun _=>by omega⟩,fun hh=>by have:=hh.2 (by omega);omega⟩
 · rw[decide_eq_false];rintro rfl;exact h rfl
theorem NQ(n:Num):Sp 162 [dN n] [.bool (decide (n.bot = [1]))]:=by
 refine Ag 0 (GA _ _) ?_
 simp only[ME,Bu]
 exact AbS n.bot
theorem Fb(l:List Av):Sp 227 [dL l] [.bool (decide (l = [1]))]:=by
 refine Ag 0 (NN _ _) ?_
 simp only[Bu]
 exact AbS l
theorem GC(n:Num)(h:n.top.length≤1000000):Sp 164 [dN n] [dW (wz (Cg n))]:=by
 refine Ag 0 (WX _ _) ?_
 simp only[MD,TZ,Al]
 exact Aa (C6 ⟨n.neg,n.top⟩ h) (Ac rfl)
theorem Acr(n:Num)(h:n.bot.length≤1000000):Sp 210 [dN n] [dW (wz (Ca n))]:=by
 refine Ag 0 (WU _ _) ?_
 simp only[ME]
 exact Aa (C6 ⟨false,n.bot⟩ h) (Ac rfl)
theorem WY(w:Wh)(h:w.mag.length≤1000000):Sp 226 [dW w] [dN (G4 (zv w))]:=by
 refine Ag 0 (NT _ _) (Aa (C6 w h) (Ac rfl))
theorem Adk(z:Int)(h:Cv z):Sp 165 [.int z] [dN (G4 z)]:=by
 refine Ag 0 (Aaz _ _) (Aa (Y5 z h) ?_)
 have hl:(wz z).mag.length≤2:=Ax.2 (by unfold Cv at h;show z.natAbs<18446744073709551616;omega)
 refine Aa (WY (wz z) (by omega)) (Ac ?_)
 rw[Eh];rfl
theorem WW(n:Num)(h:n.top.length≤10000):Sp 77 [dN n] (FH (D_ n)):=by
 refine Ag 0 (NS _ _) (Aa (NQ n) ?_)
 simp only[Af,Al,Fo]
 unfold D_
 refine Ad (fun h=>Ac ?_) (fun h0=> ?_)
 · rw[if_neg h];rfl
 · rw[if_pos (Classical.not_not.1 h0)]
   refine Aa (GC n (by omega)) ?_
   have hl:(wz (Cg n)).mag.length≤n.top.length:=Km ⟨n.neg,n.top⟩
   refine Aa (WS (wz (Cg n)) (by omega)) ?_
   rw[Eh,ZH]
   cases ZG (Cg n) <;> exact Ac rfl
theorem C0(n:Num):Sp 229 [dN n] [dW ⟨n.neg,n.top⟩]:=Ag 0 (WI _ _) (Ac rfl)
theorem M8(n:Num)(h:n.top.length≤1000000):Sp 166 [dN n] (FH (D_ n)):=by
 refine Ag 0 (NL _ _) (Aa (Fb n.bot) ?_)
 simp only[Af,Al,Fo]
 unfold D_
 refine Ad (fun h=>Ac ?_) (fun h0=> ?_)
 · rw[if_neg h];rfl
 · rw[if_pos (Classical.not_not.1 h0)]
   refine Aa (C0 n) (Aa (XR ⟨n.neg,n.top⟩ h) ?_)
   rw[ZH,show zv ⟨n.neg,n.top⟩=Cg n from rfl]
   cases ZG (Cg n) <;> exact Ac rfl
def U9(z:Int):Num:=if 32<(lb z.natAbs).length then .zero else G4 z
theorem M9(w:Wh)(h:w.mag.length≤1000000):Sp 245 [dW w] [dN (U9 (zv w))]:=by
 refine Ag 0 (NM _ _) (Aa (Pd w h) ?_)
 simp only[Af,L8,Lm,Bu,List.length_map,Al]
 unfold U9
 refine Ad (fun h=>Ac ?_) (fun h=>Ac ?_)
 · rw[if_pos (by simp only[wz]at h;omega)];rfl
 · rw[if_neg (by simp only[wz]at h;omega)];rfl
theorem Hz(z:Int)(h:Cv z):Sp 212 [.int z] [dN (G4 z)]:=by
 refine Ag 0 (Aau _ _) (Aa (Od z h) ?_)
 have hl:(wz z).mag.length≤2:=Ax.2 (by unfold Cv at h;show z.natAbs<18446744073709551616;omega)
 refine Aa (M9 (wz z) (by omega)) (Ac ?_)
 rw[Eh,U9,if_neg (by simp only[wz]at hl;omega)];rfl
theorem AbN(a b:Num):(a=b)↔(a.neg=b.neg∧a.top=b.top∧a.bot=b.bot):=by
 cases a;cases b;simp
theorem CQ(a b:Num)(h1:a.top.length≤9223372036854775807)(h2:a.bot.length≤9223372036854775807):Sp 137 [dN a,dN b] [.bool (decide (a=b))]:=by
 refine Ag 0 (RF _ _ _) ?_
 simp only[MD,TZ,ME,Al,Wr]
 refine Ad (fun e1=>Aa (CP a.top b.top h1) ?_) (fun e1=>Ac ?_)
 · simp only[Af,Al]
   refine Ad (fun e2=>Aa (CP a.bot b.bot h2) (Ac ?_)) (fun e2=>Ac ?_)
   · simp only[Af,Al]
     congr 2
     rw[decide_eq_decide,AbN];simp[e1,e2]
   · rw[decide_eq_false];rintro rfl;exact e2 rfl
 · rw[decide_eq_false];rintro rfl;exact e1 rfl
theorem Xr(a b:List Av)(ha:a.length≤9223372036854775807):Sp 312 [dL a,dL b] [.bool (decide (a=b))]:=by
 refine Ag (a.length+1) (P2 _ _ _) ?_
 simp only[Bu,List.length_map,Cz]
 refine Ad (fun h=>Ac ?_) (fun h=> ?_)
 · rw[decide_eq_false];rintro rfl;exact h rfl
 · refine IS dB Af6 a b (by omega) ha (fun m i=>Eu (a.length+1) m (dL a) (dL b) (a.length:Int) i) (fun m i=> ?_)
   rw[N2]
   simp only[Bu,List.length_map]
theorem Xq(a b:List Int)(ha:a.length≤9223372036854775807):Sp 234 [dI a,dI b] [.bool (decide (a=b))]:=by
 refine Ag (a.length+1) (V9 _ _ _) ?_
 simp only[Bx,List.length_map,Cz]
 refine Ad (fun h=>Ac ?_) (fun h=> ?_)
 · rw[decide_eq_false];rintro rfl;exact h rfl
 · refine IS D.int Abl a b (by omega) ha (fun m i=>Gj (a.length+1) m (dI a) (dI b) (a.length:Int) i) (fun m i=> ?_)
   rw[S5]
   simp only[Bx,List.length_map]
theorem Aav(a b:Num)(h1:a.top.length≤9223372036854775807)(h2:a.bot.length≤9223372036854775807):Sp 274 [dN a,dN b] [.bool (decide (a=b))]:=by
 refine Ag 0 (QU _ _ _) ?_
 simp only[MD,TZ,ME,Al,Wr]
 refine Ad (fun e1=>Aa (Xr a.top b.top h1) ?_) (fun e1=>Ac ?_)
 · simp only[Af,Al]
   refine Ad (fun e2=>Aa (Xr a.bot b.bot h2) (Ac ?_)) (fun e2=>Ac ?_)
   · simp only[Af,Al]
     congr 2
     rw[decide_eq_decide,AbN];simp[e1,e2]
   · rw[decide_eq_false];rintro rfl;exact e2 rfl
 · rw[decide_eq_false];rintro rfl;exact e1 rfl
theorem Aay(p q:Wh)(hp:p.mag.length≤1000)(hq:q.mag.length≤1000):Sp 209 [dW p,dW q] [dN (Js (zv p) (zv q)).1,.int (Js (zv p) (zv q)).2]:=by
 refine Ag 0 (RE _ _ _) (Aa (C6 p (by omega)) (Aa (C6 q (by omega)) ?_))
 have lp:=Km p
 have lq:=Km q
 generalize zv p=x at *
 generalize zv q=y at *
 simp only[Af,L8,Lm,Bu,List.length_map,Al,Bz,wz]
 refine Ad (fun h=>Ac ?_) (fun h=> ?_)
 · have:y=0:=by have:=G9.1 (show (lb y.natAbs).length=0 by omega);omega
   unfold Js;rw[if_pos this];rfl
 · have hy:y≠0:=fun hh=>h (by rw[hh];simp[Ct])
   have sp:=Acn (lb x.natAbs) (lb y.natAbs) (by omega) (by omega)
   rw[By,By]at sp
   refine Aa sp ?_
   simp only[Af]
   have hg:Nat.gcd x.natAbs y.natAbs≠0:=fun hh=>hy (by have:=(Nat.gcd_eq_zero_iff.1 hh).2;omega)
   have hgl:(lb (Nat.gcd x.natAbs y.natAbs)).length≤1000:=by
    refine Nat.le_trans ?_ (Nat.le_trans lq hq)
    refine Ax.2 (Nat.lt_of_le_of_lt (Nat.gcd_le_right _ (by omega)) (Ax.1 (Nat.le_refl _)))
   have sp1:=Q3 (lb x.natAbs) (lb (Nat.gcd x.natAbs y.natAbs)) (by omega) (by omega)
   have sp2:=Q3 (lb y.natAbs) (lb (Nat.gcd x.natAbs y.natAbs)) (by omega) (by omega)
   rw[By,By]at sp1 sp2
   refine Aa sp1 (Aa sp2 ?_)
   simp only[Af,Bu,List.length_map]
   unfold Js
   rw[if_neg hy]
   refine Ad (fun h1=>Ac ?_) (fun h1=>Ad (fun h2=>Ac ?_) (fun h2=>Ad (fun h3=>Ac ?_) (fun h3=>Ac ?_)))
   · rw[if_pos (by omega)];rfl
   · rw[if_pos (by omega)];rfl
   · rw[if_neg (by omega),decide_eq_true (p:=0<(lb (x.natAbs / Nat.gcd x.natAbs y.natAbs)).length) (by omega),Bool.true_and];rfl
   · rw[if_neg (by omega),decide_eq_false (p:=0<(lb (x.natAbs / Nat.gcd x.natAbs y.natAbs)).length) (by omega),Bool.false_and];rfl
theorem WV(n:Num):Sp 133 [dN n] [.bool (Ge n)]:=by
 refine Ag 0 (NR _ _) ?_
 simp only[TZ,ME,Bu,List.length_map]
 unfold Ge
 refine Ad (fun h=>Ac ?_) (fun h=>Ad (fun h'=>Ac ?_) (fun h'=> ?_))
 · rw[decide_eq_false (by omega)]
 · rw[decide_eq_false (by omega)]
 · refine Aa (GC n (by omega)) (Aa (Acr n (by omega)) ?_)
   have l1:(wz (Cg n)).mag.length≤n.top.length:=Km ⟨n.neg,n.top⟩
   have l2:(wz (Ca n)).mag.length≤n.bot.length:=Km ⟨false,n.bot⟩
   refine Aa (Aay (wz (Cg n)) (wz (Ca n)) (by omega) (by omega)) ?_
   simp only[Af,Ce,Ah,Bz,Eh]
   generalize Js (Cg n) (Ca n)=r
   refine Ad (fun h3=>Aa (CQ n r.1 (by omega) (by omega)) (Ac ?_)) (fun h3=>Ac ?_)
   · simp only[Af,Al]
     congr 2
     rw[decide_eq_decide]
     refine ⟨fun hh=>⟨by omega,by omega,by rw[hh];exact Prod.ext rfl h3⟩,fun hh=>by rw[hh.2.2]⟩
   · rw[decide_eq_false]
     rintro ⟨_,_,hh⟩
     exact h3 (by rw[hh])
def Q5:List (Nat×Orc):=[(2,⟨[(0,some 23),(1,none),(5,none)],[],[]⟩)]
noncomputable def Tn(n m2:Nat)(l0:D)(nn1 i5:Int):Tree :=
 lA (eA Q5 n 23 [1,0,1,0,0]) (Ao Q5 2) m2 ⟨(.d 23 l0:: .i .i64 nn1::uA 3++(.i .i64 i5::uA 12)),[],[],[],[]⟩
  (Ak 0 (Au (jA Q5 n 23 [1,1]) (rA 23 [23,3] [.tmp 4] [4])))
theorem Xk(n m2:Nat)(l0:D)(nn1 i5:Int):Tn n (m2+1) l0 nn1 i5 =
 .br (decide (i5<(l0.els.length:Int))) (.br (decide (0≤i5)) (.br (decide (i5<(l0.els.length:Int))) (.br (((l0.els.getD (Int.toNat i5) D.nil).toInt)==nn1) (.ret [D.bool true])
 (Tn n m2 l0 nn1 (IntKind.wrap .i64 (i5+1)))) .fail) .fail)
 (.ret [D.bool false]):=by kernel_rfl
theorem Aa0(n:Nat)(l0 nn1:D):Ai Tryz.prog md Q5 n 23 [] [l0,nn1] =
 Tn n n l0 nn1.toInt 0:=by kernel_rfl
theorem WZ(n:Nat)(c0:D):Ai Tryz.prog md [] n 135 [] [c0] =
 .br (decide (0≤c0.toInt)) (.br (decide (c0.toInt≤1114111)) (.br (decide (c0.toInt<55296)) (.ret [D.bool true])
 (.ret [D.bool (decide (57343<c0.toInt))]))
 (.ret [D.bool false]))
 (.ret [D.bool false]):=by kernel_rfl
theorem TT : ∃ N:Nat,9223372036854775808<N:=⟨9223372036854775809,by decide⟩
def Bg:List Int→Int→Int
 | [],p=>p
 | x::xs,p=>if 2048<p*x then 0 else Bg xs (p*x)
def Ay(l:List Int):Int×Int :=
 if 6<l.length then (0,7) else if l.any (fun x=>decide (x<0)) then (0,3) else if l.any (fun x=>decide (2048<x)) then (0,7)
 else if l.any (fun x=>decide (x=0)) then (0,0) else if Bg l 1=0 then (0,7) else (Bg l 1,0)
theorem VU{x y:Int}(h1:1≤x)(h2:x≤2048)(h3:1≤y)(h4:y≤2048):1≤x*y∧x*y≤4194304:=by
 constructor
 · have:=Int.mul_le_mul h1 h3 (by omega) (by omega);omega
 · have:=Int.mul_le_mul h2 h4 (by omega) (by omega);omega
theorem YV : ∀ (l:List Int) (p:Int),1≤p→p≤2048→(∀ x∈l,1≤x∧x≤2048)→0≤Bg l p∧Bg l p≤2048
 | [],p,h1,h2,_=>by simp only[Bg];omega
 | x::xs,p,h1,h2,h=>by
  simp only[Bg]
  have hx:=h x (by simp)
  have:=VU h1 h2 hx.1 hx.2
  split
  · omega
  · exact YV xs (p*x) this.1 (by omega) (fun y hy=>h y (by simp[hy]))
theorem T_{l:List Int}{p:Int→Bool}(h : ¬ l.any p=true) : ∀ x∈l,p x=false:=fun x hx=>by
 cases hp:p x with
 | false=>rfl
 | true=>exact absurd (List.any_eq_true.2 ⟨x,hx,hp⟩) h
theorem X5{l:List Int}(h1 : ¬ l.any (fun x=>decide (x<0))=true)(h2 : ¬ l.any (fun x=>decide (2048<x))=true)(h3 : ¬ l.any (fun x=>decide (x=0))=true) : ∀ x∈l,1≤x∧x≤2048:=fun x hx=>by
 have a:=of_decide_eq_false (T_ h1 x hx)
 have b:=of_decide_eq_false (T_ h2 x hx)
 have c:=of_decide_eq_false (T_ h3 x hx)
 omega
theorem Fj(l:List Int):0≤(Ay l).1∧(Ay l).1≤2048:=by
 unfold Ay
 split
 · decide
 split
 · decide
 split
 · decide
 split
 · decide
 split
 · decide
 · rename_i h1 h2 h3 h4 _;exact YV l 1 (by decide) (by decide) (X5 h2 h3 h4)
theorem E8{l:List Int}(h:(Ay l).2=0):l.length≤6∧∀ x∈l,0≤x∧x≤2048:=by
 unfold Ay at h
 split at h
 · cases h
 split at h
 · cases h
 split at h
 · cases h
 · rename_i h1 h2 h3
   refine ⟨by omega,fun x hx=> ?_⟩
   have a:=of_decide_eq_false (T_ h2 x hx)
   have b:=of_decide_eq_false (T_ h3 x hx)
   omega
def Ig(p:Int→Bool):Nat→List Int→Int
 | _,[]=> -1
 | k,x::xs=>if p x then (k:Int) else Ig p (k+1) xs
def PA(p:Int):List D:=if p=0 then [.int 0,.int 7] else [.int p,.int 0]
theorem K2(x:Int)(xs:List Int)(p:Int):Bg (x::xs) p=if 2048<p*x then 0 else Bg xs (p*x):=rfl
theorem AfH(p:Int→Bool)(k:Nat)(x:Int)(xs:List Int):Ig p k (x::xs)=if p x then (k:Int) else Ig p (k+1) xs:=rfl
theorem Acu(N:Nat)(l:List Int)(hl:l.length<N)(hb:l.length≤6)(hx : ∀ x∈l,1≤x∧x≤2048):Tw (Ji N N (dI l) 1 0) (PA (Bg l 1)):=by
 have key:=A7 (P:=Tryz.prog) (md:=md) l (fun m k (p:Int)=>Ji N m (dI l) p (k:Int)) (fun rest p=>PA (Bg rest p)) (fun _ p=>1≤p∧p≤2048)
  (fun m k p hk hI=>by
   simp only[Q6,Bx,List.length_map]
   refine Am (by omega) (Ac ?_)
   show _=PA p
   rw[PA,if_neg (by omega)])
  (fun m k p x rest hd hI ih=>by
   obtain ⟨h1,h2,h3⟩:=Az hd
   have hxx:=hx x (List.mem_of_getElem? h2)
   have hp:=VU hI.1 hI.2 hxx.1 hxx.2
   simp only[Q6,Bx,List.length_map,Int.toNat_natCast,Aj h2,Ah,An (show k<9223372036854775807 by omega),Ap (x:=p*x) (by omega) (by omega)]
   repeat (refine Ae ?_)
   rw[K2]
   refine Ad (fun h=>Ac ?_) (fun h=> ?_)
   · rw[if_pos h];rfl
   · rw[if_neg h];exact ih _ ⟨hp.1,by omega⟩)
  N 0 1 (by omega) (by omega) (by decide)
 exact key
theorem XA(l:List Int):Sp 52 [dI l] [.int (Ay l).1,.int (Ay l).2]:=by
  refine Ag (l.length+1) (NU _ _) ?_
  simp only[Bx,List.length_map]
  unfold Ay
  refine Ad (fun h=>Ac ?_) (fun h=> ?_)
  · rw[if_pos (by omega)]
  · rw[if_neg (by omega)]
    have key:=A7 (P:=Tryz.prog) (md:=md) l (fun m k (s:Bool×Bool)=>Fy (l.length+1) m (dI l) s.1 s.2 (k:Int))
      (fun rest s=>if rest.any (fun x=>decide (x<0)) then [.int 0,.int 3] else if s.1||rest.any (fun x=>decide (2048<x)) then [.int 0,.int 7] else if s.2||rest.any (fun x=>decide (x=0)) then [.int 0,.int 0] else PA (Bg l 1))
      (fun rest s=>(∀ x∈l,(0≤x∧(s.1=true∨x≤2048)∧(s.2=true∨x≠0))∨x∈rest))
      (fun m k s hk hI=>by
        simp only[R6,Bx,List.length_map]
        refine Am (by omega) (Df (fun h1=>Ac ?_) (fun h1=>Df (fun h2=>Ac ?_) (fun h2=> ?_)))
        · simp[h1]
        · simp[h1,h2]
        · simp only[h1,h2,List.any_nil,Bool.or_self,Bool.false_eq_true,if_false]
          refine Acu (l.length+1) l (by omega) (by omega) (fun x hx=> ?_)
          rcases hI x hx with ⟨a,b,c⟩ | b
          · rw[h1]at b;rw[h2]at c
            simp at b c
            omega
          · cases b)
      (fun m k s x rest hd hI ih=>by
        obtain ⟨h1,h2,h3⟩:=Az hd
        simp only[R6,Bx,List.length_map,Int.toNat_natCast,Aj h2,Ah,An (show k<9223372036854775807 by omega),Bz]
        repeat (refine Ae ?_)
        refine Ad (fun h=>Ac ?_) (fun h=> ?_)
        · simp[h]
        · have hih : ∀ s':Bool×Bool,s'=(s.1||decide (2048<x),s.2||decide (x=0))→Tw (Fy (l.length+1) m (dI l) s'.1 s'.2 ((k+1:Nat):Int)) (if (x::rest).any (fun x=>decide (x<0)) then [.int 0,.int 3] else if s.1||(x::rest).any (fun x=>decide (2048<x)) then [.int 0,.int 7] else if s.2||(x::rest).any (fun x=>decide (x=0)) then [.int 0,.int 0] else PA (Bg l 1)):=fun s' hs'=>by
            have:=ih s' (fun y hy=>by
              subst hs'
              rcases hI y hy with ⟨a,b,c⟩ | b
              · refine .inl ⟨a,?_,?_⟩
                · rcases b with b | b
                  · left;simp[b]
                  · right;exact b
                · rcases c with b | b
                  · left;simp[b]
                  · right;exact b
              · rcases List.mem_cons.1 b with rfl | b
                · left
                  refine ⟨by omega,?_,?_⟩
                  · by_cases hh:2048<y
                    · left;simp[hh]
                    · right;omega
                  · by_cases hh:y=0
                    · left;simp[hh]
                    · right;exact hh
                · exact .inr b)
            subst hs'
            rw[List.any_cons,List.any_cons,List.any_cons,decide_eq_false h,Bool.false_or,← Bool.or_assoc,← Bool.or_assoc]
            exact this
          refine Df (fun b1=>Df (fun b2=> ?_) (fun b2=> ?_)) (fun b1=> ?_)
          · exact hih (true,true) (by simp[b1,b2])
          · repeat (refine Ae ?_)
            exact hih (true,decide (x=0)) (by simp[b1,b2])
          · repeat (refine Ae ?_)
            refine Df (fun b2=> ?_) (fun b2=> ?_)
            · exact hih (decide (2048<x),true) (by simp[b1,b2])
            · repeat (refine Ae ?_)
              exact hih (decide (2048<x),decide (x=0)) (by simp[b1,b2]))
      (l.length+1) 0 (false,false) (by omega) (by omega) (fun x hx=> .inr hx)
    have e:(fun (c:Int×Int)=>[D.int c.1,D.int c.2]) (if l.any (fun x=>decide (x<0)) then (0,3) else if l.any (fun x=>decide (2048<x)) then (0,7)
      else if l.any (fun x=>decide (x=0)) then (0,0) else if Bg l 1=0 then (0,7) else (Bg l 1,0))=(if l.any (fun x=>decide (x<0)) then [.int 0,.int 3] else if false||l.any (fun x=>decide (2048<x)) then [.int 0,.int 7] else if false||l.any (fun x=>decide (x=0)) then [.int 0,.int 0] else PA (Bg l 1)):=by
      simp only[Bool.false_or]
      split
      · rfl
      split
      · rfl
      split
      · rfl
      show _=PA _
      unfold PA
      split <;> rfl
    show Tw _ ((fun (c:Int×Int)=>[D.int c.1,D.int c.2]) _)
    rw[e]
    exact key
theorem AZ(p:Int→Bool) : ∀ (l:List Int) (k:Nat),decide (0≤Ig p k l)=l.any p
 | [],k=>by simp[Ig]
 | x::xs,k=>by
  rw[AfH,List.any_cons]
  by_cases hp:p x=true
  · rw[if_pos hp];simp[hp]
  · rw[if_neg hp,AZ p xs (k+1)];simp[hp]
theorem Mn(l:List Int)(v:Int)(hb:l.length≤9223372036854775807):Sp 74 [dI l,.int v] [.bool (l.any (fun x=>decide (x=v)))]:=by
 refine Ag 0 (S4 _ _ _) (Aa (ys:=[.int (Ig (fun x=>decide (x=v)) 0 l)]) ?_ (Ac ?_))
 · refine Ag (l.length+1) (V_ _ _ _) ?_
   have key:=A7 (P:=Tryz.prog) (md:=md) l (fun m k (_:Unit)=>Gk (l.length+1) m (dI l) v (l.length:Int) (k:Int)) (fun rest _=>[.int (Ig (fun x=>decide (x=v)) (l.length-rest.length) rest)]) (fun _ _=>True)
    (fun m k p hk hI=>by
     simp only[Kk]
     refine Am (by omega) (Ac ?_)
     simp[Ig])
    (fun m k p x rest hd hI ih=>by
     obtain ⟨h1,h2,h3⟩:=Az hd
     have hle:=congrArg List.length hd;rw[List.length_drop,List.length_cons]at hle;have hk:l.length-(x::rest).length=k:=by rw[List.length_cons];omega
     have hk':l.length-rest.length=k+1:=by omega
     simp only[Kk,Bx,List.length_map,Int.toNat_natCast,Aj h2,Ah,An (show k<9223372036854775807 by omega),Bz]
     repeat (refine Ae ?_)
     simp only[Ig,hk]
     refine Ad (fun h=>Ac ?_) (fun h=> ?_)
     · simp[h]
     · have:=ih () trivial
       rw[hk']at this
       simpa [show ¬ x=v from fun e=>h e.symm]using this)
    (l.length+1) 0 () (by omega) (by omega) trivial
   simpa using key
 · exact congrArg (fun b=>[D.bool b]) (AZ _ l 0)
theorem Afs(x:Int):Sp 168 [.int x] [.bool (decide (x<0))]:=Ag 0 (GV _ _) (Ac rfl)
theorem Aft(x:Int):Sp 169 [.int x] [.bool (decide (2048<x))]:=Ag 0 (GW _ _) (Ac rfl)
theorem AaM(l:List Int)(hb:l.length≤6):Sp 167 [dI l,D.fn 168 [] []] [.bool (l.any (fun x=>decide (x<0)))]:=by
 refine Ag 0 (Iw _ _) (Aa (ys:=[.int (Ig (fun x=>decide (x<0)) 0 l)]) ?_ (Ac ?_))
 · refine Ag (l.length+1) (Jt _ _) ?_
   have key:=A7 (P:=Tryz.prog) (md:=md) l (fun m k (_:Unit)=>Bm (l.length+1) m (dI l) (D.fn 168 [] []) (l.length:Int) (k:Int)) (fun rest _=>[.int (Ig (fun x=>decide (x<0)) (l.length-rest.length) rest)]) (fun _ _=>True)
    (fun m k p hk hI=>by
     simp only[Ff]
     refine Am (by omega) (Ac ?_)
     simp[Ig])
    (fun m k p x rest hd hI ih=>by
     obtain ⟨h1,h2,h3⟩:=Az hd
     have hle:=congrArg List.length hd;rw[List.length_drop,List.length_cons]at hle;have hk:l.length-(x::rest).length=k:=by rw[List.length_cons];omega
     have hk':l.length-rest.length=k+1:=by omega
     simp only[Ff,Bx,List.length_map,Int.toNat_natCast,Aj h2,Ah,An (show k<9223372036854775807 by omega),H2,Gm,H1,List.append_nil]
     repeat (refine Ae ?_)
     refine Aa (Afs x) ?_
     simp only[Af,Al,Ig,hk]
     refine Ad (fun h=>Ac ?_) (fun h=> ?_)
     · simp[h]
     · have:=ih () trivial
       rw[hk']at this
       simpa [h]using this)
    (l.length+1) 0 () (by omega) (by omega) trivial
   simpa using key
 · exact congrArg (fun b=>[D.bool b]) (AZ _ l 0)
theorem AaN(l:List Int)(hb:l.length≤6):Sp 167 [dI l,D.fn 169 [] []] [.bool (l.any (fun x=>decide (2048<x)))]:=by
 refine Ag 0 (Ix _ _) (Aa (ys:=[.int (Ig (fun x=>decide (2048<x)) 0 l)]) ?_ (Ac ?_))
 · refine Ag (l.length+1) (Ju _ _) ?_
   have key:=A7 (P:=Tryz.prog) (md:=md) l (fun m k (_:Unit)=>Bm (l.length+1) m (dI l) (D.fn 169 [] []) (l.length:Int) (k:Int)) (fun rest _=>[.int (Ig (fun x=>decide (2048<x)) (l.length-rest.length) rest)]) (fun _ _=>True)
    (fun m k p hk hI=>by
     simp only[Fg]
     refine Am (by omega) (Ac ?_)
     simp[Ig])
    (fun m k p x rest hd hI ih=>by
     obtain ⟨h1,h2,h3⟩:=Az hd
     have hle:=congrArg List.length hd;rw[List.length_drop,List.length_cons]at hle;have hk:l.length-(x::rest).length=k:=by rw[List.length_cons];omega
     have hk':l.length-rest.length=k+1:=by omega
     simp only[Fg,Bx,List.length_map,Int.toNat_natCast,Aj h2,Ah,An (show k<9223372036854775807 by omega),H2,Gm,H1,List.append_nil]
     repeat (refine Ae ?_)
     refine Aa (Aft x) ?_
     simp only[Af,Al,Ig,hk]
     refine Ad (fun h=>Ac ?_) (fun h=> ?_)
     · simp[h]
     · have:=ih () trivial
       rw[hk']at this
       simpa [h]using this)
    (l.length+1) 0 () (by omega) (by omega) trivial
   simpa using key
 · exact congrArg (fun b=>[D.bool b]) (AZ _ l 0)
theorem OF(l:List Int)(hb:l.length≤6)(hx : ∀ x∈l,1≤x∧x≤2048):Sp 170 [dI l] [.int (Bg l 1)]:=by
 refine Ag (l.length+1) (U2 _ _) ?_
 have key:=A7 (P:=Tryz.prog) (md:=md) l (fun m k (p:Int)=>Il (l.length+1) m p (dI l) (l.length:Int) (k:Int)) (fun rest p=>[.int (Bg rest p)]) (fun _ p=>1≤p∧p≤2048)
  (fun m k p hk hI=>by
   simp only[Hc]
   exact Am (by omega) (Ac rfl))
  (fun m k p x rest hd hI ih=>by
   obtain ⟨h1,h2,h3⟩:=Az hd
   have hxx:=hx x (List.mem_of_getElem? h2)
   have hp:=VU hI.1 hI.2 hxx.1 hxx.2
   simp only[Hc,Bx,List.length_map,Int.toNat_natCast,Aj h2,Ah,An (show k<9223372036854775807 by omega),Ap (x:=p*x) (by omega) (by omega)]
   repeat (refine Ae ?_)
   simp only[Bg]
   refine Ad (fun h=>Ac ?_) (fun h=> ?_)
   · rw[if_pos h]
   · rw[if_neg h];exact ih _ ⟨hp.1,by omega⟩)
  (l.length+1) 0 1 (by omega) (by omega) (by decide)
 simpa using key
theorem Gu(l:List Int):Sp 81 [dI l] [.int (Ay l).1,.int (Ay l).2]:=by
 refine Ag 0 (OD _ _) ?_
 simp only[Bx,List.length_map]
 unfold Ay
 refine Ad (fun h=>Ac ?_) (fun h=> ?_)
 · rw[if_pos (by omega)]
 · rw[if_neg (by omega)]
   refine Aa (AaM l (by omega)) ?_
   simp only[Af,Al]
   refine Df (fun h1=>Ac (by rw[if_pos h1])) (fun h1=> ?_)
   rw[if_neg (by simp[h1])]
   refine Aa (AaN l (by omega)) ?_
   simp only[Af,Al]
   refine Df (fun h2=>Ac (by rw[if_pos h2])) (fun h2=> ?_)
   rw[if_neg (by simp[h2])]
   refine Aa (Mn l 0 (by omega)) ?_
   simp only[Af,Al]
   refine Df (fun h3=>Ac (by rw[if_pos h3])) (fun h3=> ?_)
   rw[if_neg (by simp[h3])]
   refine Aa (OF l (by omega) (X5 (by simp[h1]) (by simp[h2]) (by simp[h3]))) ?_
   simp only[Af,Ah,Bz]
   refine Ad (fun h4=>Ac (by rw[if_pos h4])) (fun h4=>Ac (by rw[if_neg h4]))
theorem Aa1(a b:List Int)(ha:a.length≤9223372036854775807):Sp 54 [dI a,dI b] [.bool (decide (a=b))]:=by
 refine Ag (a.length+1) (RG _ _ _) ?_
 simp only[Bx,List.length_map,Cz]
 refine Ad (fun h=>Ac ?_) (fun h=> ?_)
 · rw[decide_eq_false];rintro rfl;exact h rfl
 · exact IS D.int Abl a b (by omega) ha (fun m i=>O_ (a.length+1) m (dI a) (dI b) i) (fun m i=>GE _ _ _ _ _)
def AeP(c:Int):Bool:=decide (0≤c∧c≤1114111∧(c<55296∨57343<c))
theorem Ahs(c:Int):Tw (.br (decide (0≤c)) (.br (decide (c≤1114111)) (.br (decide (c<55296)) (.ret [D.bool true]) (.ret [D.bool (decide (57343<c))])) (.ret [D.bool false])) (.ret [D.bool false])) [.bool (AeP c)]:=by
 unfold AeP
 refine Ad (fun h1=>Ad (fun h2=>Ad (fun h3=>Ac ?_) (fun h3=>Ac ?_)) (fun h2=>Ac ?_)) (fun h1=>Ac ?_)
 · rw[decide_eq_true (by omega)]
 · congr 2;rw[decide_eq_decide];omega
 · rw[decide_eq_false (by omega)]
 · rw[decide_eq_false (by omega)]
theorem Acs(c:Int):Sp 135 [.int c] [.bool (AeP c)]:=Ag 0 (WZ _ _) (Ahs c)
end Go.Proofs.YtokkbgpgaheakaaGreat
