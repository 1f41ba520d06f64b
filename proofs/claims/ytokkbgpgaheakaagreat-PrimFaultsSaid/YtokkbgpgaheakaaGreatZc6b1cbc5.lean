/- Proved: lemmas for the law of this folder, part 6. No condition. -/
import Derived.Test.YtokkbgpgaheakaaGreatRows
import Derived.WalkKit
import Derived.WalkSpells
import Derived.WalkLawsBesides
import Derived.Lib.Hide
import Derived.Laws.CopyOwn
import Derived.Deep.QuietTactic
import Derived.BigQuiet
import Derived.Orders
import Derived.Defers
import Derived.Recover
import Derived.Test.YtokkbgpgaheakaaGreatProg
import Derived.KernelRfl
import Derived.ProofKit
import Derived.OpenShut
import Derived.Maps.OwnRows
import Derived.Maps.Views
import Derived.Deep.RegionHeld3
import Derived.Deep.AppendLies
import Derived.Test.YtokkbgpgaheakaaGreatZc299a0df
set_option linter.unusedSimpArgs false
set_option linter.unusedVariables false
set_option maxRecDepth 100000
open Array renaming getElem?_eq_getElem → Amy, getElem?_eq_some_iff → Am8, getD_eq_getD_getElem? → Ana
open BitVec renaming ofNat → Amt
open Bool renaming and_eq_true → Ami
open Classical renaming not_not → Amn
open Int renaming toNat → Ama, toNat_natCast → Amj, fdiv → Am3
open Go.IntKind renaming wrap → Al6, bits → Aml
open List renaming getElem?_eq_getElem → Amb, replicate → Amc, length_map → Amd, getElem?_eq_some_iff → Ame, getD_eq_getElem?_getD → Amf, length_cons → Amg, mem_of_getElem? → Amh, length_append → Amm, length_drop → Amp, length_take → Amr, getElem?_map → Ams, length_nil → Amu, mem_cons → Amw, append_nil → Amx, append_assoc → Amz, getElem?_append_left → Am0, length_eq_zero_iff → Am1, drop_eq_getElem_cons → Am2, take_append_drop → Am6, take_of_length_le → Am7, range → Am9, length_replicate → Anf, getElem_mem → Anh, map_cons → Ani, all_eq_true → Ank, nil_append → Anm
open Nat renaming le_refl → Amo, mul_le_mul_right → Amv, mod_eq_of_lt → Am4, mod_lt → Am5, lt_of_lt_of_le → Am_, mul_comm → Anb, pow_succ → Anc, div_div_eq_div_mul → Ane, div_lt_iff_lt_mul → Anj, zero_add → Anl, lt_or_ge → Ann
open Option renaming map_eq_some_iff → Amq, bind_eq_some_iff → Ang
open Option.some renaming injEq → Amk
namespace Go.Proofs.YtokkbgpgaheakaaGreat
def Ib:List Int→List Int→Nat→Nat→Bool
 | x::xs,y::ys,axis,i=>(decide (i≠axis∧x≠y))||Ib xs ys axis (i+1)
 | _,_,_,_=>false
theorem NF : ∀ {xs ys:List Int} {axis i:Nat},Ib xs ys axis i=false→xs.length=ys.length→∀ j,i+j≠axis→xs[j]? = ys[j]?
 | [],[],_,_,_,_,_,_=>rfl
 | x::xs,y::ys,axis,i,h,hl,j,hj=>by
  simp only[Ib,Bool.or_eq_false_iff,decide_eq_false_iff_not]at h
  match j with
  | 0 =>
   have:=h.1
   have e:x=y:=Decidable.byContradiction (fun q=>this ⟨by simpa using hj,q⟩)
   rw[e];rfl
  | j+1 =>
   have:=NF h.2 (by simpa using hl) j (by omega)
   simpa using this
 | [],y::ys,_,_,_,hl,_,_=>by simp at hl
 | x::xs,[],_,_,_,hl,_,_=>by simp at hl
def Ep(x y:List Int)(axis:Nat):List Int×Int :=
 if Ib x y axis 0 then ([],4) else if (A5 (x.set axis (x.getD axis 0+y.getD axis 0))).2≠0 then ([],(A5 (x.set axis (x.getD axis 0+y.getD axis 0))).2) else (x.set axis (x.getD axis 0+y.getD axis 0),0)
theorem AdS(x y:Bk)(axes axis:Nat)(hx:BkOk x axes)(hy:BkOk y axes)(ha:axis<axes)(h5:axes≤1000) :
  Sp 87 [Fw x.d y.d (axis:Int)] [dI (Ep x.sh y.sh axis).1,.int (Ep x.sh y.sh axis).2]:=by
 refine Af 4096 (AdQ _ _) ?_
 have gx:(x.sh.map D.int).getD axis D.nil=D.int (x.sh.getD axis 0):=Gz (by rw[hx.len];exact ha)
 have gy:(y.sh.map D.int).getD axis D.nil=D.int (y.sh.getD axis 0):=Gz (by rw[hy.len];exact ha)
 have memD : ∀ {l:List Int},axis<l.length→l.getD axis 0∈l:=fun h=>by rw[Amf,Amb h];exact Anh h
 have kx:=hx.rng _ (memD (l:=x.sh) (by rw[hx.len];exact ha))
 have ky:=hy.rng _ (memD (l:=y.sh) (by rw[hy.len];exact ha))
 have lx:=hx.len
 have ly:=hy.len
 simp only[Fw,Bk.d,F3,J6,J7,U4,B_,Amd]
 have key:=B3 x.sh (fun m k (_:Unit)=>Nz 4096 m (dI x.sh) (x.sh.length:Int) (k:Int) (Fw x.d y.d (axis:Int))) (fun _ _=>[dI (Ep x.sh y.sh axis).1,.int (Ep x.sh y.sh axis).2])
  (fun rest _=>Ib x.sh y.sh axis 0=Ib rest (y.sh.drop (x.sh.length-rest.length)) axis (x.sh.length-rest.length))
  (fun m k _ hk hI=>by
   have hd:Ib x.sh y.sh axis 0=false:=by rw[hI];rfl
   rw[PV]
   simp only[Fw,Bk.d,F3,J6,J7,U4,Al,B_,Amd,Amj,gx,gy,At (x:=x.sh.getD axis 0+y.sh.getD axis 0) (by omega) (by omega)]
   have hw:=ZH x.sh (axis:Int) (x.sh.getD axis 0+y.sh.getD axis 0) (by omega)
   rw[show Sr x.sh (axis:Int) (x.sh.getD axis 0+y.sh.getD axis 0) = [dI (x.sh.set axis (x.sh.getD axis 0+y.sh.getD axis 0)),.bool true] by unfold Sr;rw[if_pos ⟨by omega,by omega⟩];rfl]at hw
   refine Aq (Ad (Ad (Ad (Ad (Aa hw ?_)))))
   simp only[Ag]
   refine Aa (Mv _) ?_
   unfold Ep
   rw[hd]
   simp only[Ah,Bool.false_eq_true,if_false]
   refine Ae (fun g=>Ac ?_) (fun g=>Ac ?_)
   · rw[if_pos g];rfl
   · rw[if_neg g])
  (fun m k _ v rest hdr hI ih=>by
   obtain ⟨h4,h2,h3⟩:=Bx hdr
   have hle:=congrArg List.length hdr
   rw[Amp,Amg]at hle
   rw[show x.sh.length-(v::rest).length=k by rw[Amg];omega,Am2 (show k<y.sh.length by omega)]at hI
   rw[show x.sh.length-rest.length=k+1 by omega]at ih
   have hsi:y.sh[k]? = some y.sh[k]:=Amb (by omega)
   generalize y.sh[k]=u at *
   simp only[Ib]at hI
   have go:Ib x.sh y.sh axis 0=Ib rest (y.sh.drop (k+1)) axis (k+1)→Tw (Nz 4096 m (dI x.sh) (x.sh.length:Int) ((k+1:Nat):Int) (Fw x.d y.d (axis:Int))) [dI (Ep x.sh y.sh axis).1,.int (Ep x.sh y.sh axis).2]:=ih ()
   rw[PV]
   have e:(Fw x.d y.d (axis:Int)).fld 2=D.int (axis:Int):=rfl
   have e2:(((Fw x.d y.d (axis:Int)).fld 1).fld 0)=dI y.sh:=rfl
   simp only[e,e2,Al,B_,Amd,Amj,As h2,As hsi,C0,Bb k]
   refine Ad (Ad (Ad (Ae (fun g=> ?_) (fun g=> ?_))))
   · refine Ad (Ad (Ae (fun g2=>Ac ?_) (fun g2=> ?_)))
     · have:Ib x.sh y.sh axis 0=true:=by rw[hI,decide_eq_true ⟨by omega,g2⟩];rfl
       unfold Ep
       rw[if_pos this];rfl
     · refine go ?_
       rw[hI,decide_eq_false (fun q=>g2 q.2)];rfl
   · refine go ?_
     rw[hI,decide_eq_false (fun q=>q.1 (by omega))];rfl)
  4096 0 () (by omega) (by omega) (by simp)
 exact key
def Ck(a b:Arr):Nat:=max (max a.shape.length b.shape.length) 1
def Dd(a b:Arr)(first:Bool):Nat:=if first then 0 else Ck a b-1
theorem Lm(a b:Arr)(first:Bool):Dd a b first<Ck a b:=by unfold Dd Ck;split <;> omega
def DT(a b:Arr)(first:Bool):List D:=match Gl a b.shape (Ck a b) (Dd a b first),Gl b a.shape (Ck a b) (Dd a b first) with
 | some x,some y=>[Fw x.d y.d (Dd a b first:Int),.int 0]
 | _,_=>[Fw (F3 [] [] false) (F3 [] [] false) 0,.int 5]
theorem AdM(a b:Arr)(first:Bool)(ha:a.shape.length≤6)(hb:b.shape.length≤6):Sp 86 [dA a,dA b,.bool first] (DT a b first):=by
 refine Af 0 (AdN _ _ _ _) ?_
 have e1:(if (if (a.shape.length:Int)<(b.shape.length:Int) then (b.shape.length:Int) else (a.shape.length:Int))<1 then 1 else (if (a.shape.length:Int)<(b.shape.length:Int) then (b.shape.length:Int) else (a.shape.length:Int)))=((Ck a b:Nat):Int):=by unfold Ck;split <;> (split <;> omega)
 have h1:1≤Ck a b:=by unfold Ck;omega
 have h6:Ck a b≤6:=by unfold Ck;omega
 have w1:=PX a b.shape (Ck a b) (Dd a b first) (by omega) (by omega) h1 (Lm a b first) (by omega) (by unfold Ck;omega)
 have w2:=PX b a.shape (Ck a b) (Dd a b first) (by omega) (by omega) h1 (Lm a b first) (by omega) (by unfold Ck;omega)
 simp only[Ah,e1]
 unfold DT
 have fin:Tw (.call 172 [] [dA a,dI b.shape,.int (Ck a b:Int),.int (Dd a b first:Int)] fun Y1 =>
   .br (!((qB Y1).toBool)) (.ret [D.agg [D.agg [D.sl [],D.sl [],D.bool false],D.agg [D.sl [],D.sl [],D.bool false],D.int 0],D.int 5])
   (.call 172 [] [dA b,dI a.shape,.int (Ck a b:Int),.int (Dd a b first:Int)] fun Y2 =>
   .br (!((qB Y2).toBool)) (.ret [D.agg [D.agg [D.sl [],D.sl [],D.bool false],D.agg [D.sl [],D.sl [],D.bool false],D.int 0],D.int 5])
   (.ret [D.agg [qA Y1,qA Y2,D.int (Dd a b first:Int)],D.int 0]))) (match Gl a b.shape (Ck a b) (Dd a b first),Gl b a.shape (Ck a b) (Dd a b first) with
    | some x,some y=>[Fw x.d y.d (Dd a b first:Int),.int 0]
    | _,_=>[Fw (F3 [] [] false) (F3 [] [] false) 0,.int 5]):=by
  refine Aa w1 ?_
  cases Gl a b.shape (Ck a b) (Dd a b first) with
  | none=>exact Bi rfl (Ac rfl)
  | some x =>
    refine D6 rfl (Aa w2 ?_)
    cases Gl b a.shape (Ck a b) (Dd a b first) with
    | none=>exact Bi rfl (Ac rfl)
    | some y=>exact D6 rfl (Ac rfl)
 cases first with
 | true=>exact Bi rfl fin
 | false =>
  have e3:Al6 .i64 ((Ck a b:Int)-1)=(Dd a b false:Int):=by rw[At (by omega) (by omega)];unfold Dd;simp;omega
  rw[e3]
  exact D6 rfl fin
def Pv(a b:Arr)(first:Bool):Arr×Int:=match Gl a b.shape (Ck a b) (Dd a b first),Gl b a.shape (Ck a b) (Dd a b first) with
 | some x,some y=>if (Ep x.sh y.sh (Dd a b first)).2≠0 then (.none,(Ep x.sh y.sh (Dd a b first)).2) else (.mk (a.s|||b.s) (Ep x.sh y.sh (Dd a b first)).1 (FL x y (Dd a b first) (Ep x.sh y.sh (Dd a b first)).1),0)
 | _,_=>(.none,5)
theorem Al8{x y:Bk}{axes axis:Nat}(hx:BkOk x axes)(hy:BkOk y axes)(ha:axis<axes)(h:(Ep x.sh y.sh axis).2=0) :
   Near x axis (Ep x.sh y.sh axis).1∧Near y axis (Ep x.sh y.sh axis).1∧(Ep x.sh y.sh axis).1.length=axes∧(Ep x.sh y.sh axis).1.getD axis 0=x.sh.getD axis 0+y.sh.getD axis 0∧(A5 (Ep x.sh y.sh axis).1).2=0:=by
 unfold Ep at h ⊢
 split at h
 · cases h
 · rename_i hd
   rw[if_neg hd]
   split at h
   · rename_i g;exact absurd h g
   · rename_i g
     rw[if_neg g]
     have hxy:x.sh.length=y.sh.length:=by rw[hx.len,hy.len]
     have heq:=NF (by simpa using hd) hxy
     refine ⟨⟨?_,?_⟩,⟨?_,?_⟩,by rw[List.length_set,hx.len],?_,Amn.1 g⟩
     · rw[List.take_set_of_le (Amo _)]
     · rw[List.drop_set_of_lt (by omega)]
     · rw[List.take_set_of_le (Amo _)]
       refine List.ext_getElem? (fun j=> ?_)
       rw[List.getElem?_take,List.getElem?_take]
       split
       · rw[heq j (by omega)]
       · rfl
     · rw[List.drop_set_of_lt (by omega)]
       refine List.ext_getElem? (fun j=> ?_)
       rw[List.getElem?_drop,List.getElem?_drop,heq _ (by omega)]
     · rw[Amf,List.getElem?_set_self (by rw[hx.len];exact ha)];rfl
theorem PR(a b:Arr)(first:Bool)(ha:A5 a.shape=((a.cells.length:Int),0))(hb:A5 b.shape=((b.cells.length:Int),0)):Sp 36 [dA a,dA b,.bool first] [dA (Pv a b first).1,.int (Pv a b first).2]:=by
 have ha6:=(I3 ha).1
 have hb6:=(I3 hb).1
 have har:=(Gr (l:=a.shape) (by rw[ha])).2
 have hbr:=(Gr (l:=b.shape) (by rw[hb])).2
 have h6:Ck a b≤6:=by unfold Ck;omega
 have h1:1≤Ck a b:=by unfold Ck;omega
 refine Af 0 (AdJ _ _ _ _) ?_
 have hf:=AdM a b first ha6 hb6
 unfold DT at hf
 unfold Pv
 simp only[Az]
 cases hwa:Gl a b.shape (Ck a b) (Dd a b first) with
 | none=>rw[hwa]at hf;exact Aa hf (Bi rfl (Ac rfl))
 | some x =>
  rw[hwa]at hf
  cases hwb:Gl b a.shape (Ck a b) (Dd a b first) with
  | none=>rw[hwb]at hf;exact Aa hf (Bi rfl (Ac rfl))
  | some y =>
   rw[hwb]at hf
   have hx:=AaF hwa ha hbr h1 (Lm a b first) (by unfold Ck;omega) (by unfold Ck;omega)
   have hy:=AaF hwb hb har h1 (Lm a b first) (by unfold Ck;omega) (by unfold Ck;omega)
   refine Aa hf (D6 rfl (Aa (AdS x y (Ck a b) _ hx hy (Lm a b first) (by omega)) ?_))
   simp only[Ah,Cr]
   refine Ae (fun g=>Ac (by rw[if_pos g])) (fun g=> ?_)
   rw[if_neg g]
   obtain ⟨n1,n2,n3,n4,n5⟩:=Al8 hx hy (Lm a b first) (Amn.1 g)
   refine Aa (Gb a.s b.s) (Aa (AdO x y (Ck a b) _ _ hx hy (Lm a b first) n1 n2 n3 n4 n5) (Ac ?_))
   simp only[Ah]
   rw[Dn];rfl
def JV(a:Arr):Arr:= .mk a.s (if 0<a.shape.length then [a.shape.getD 0 0,Bd (a.shape.drop 1) 1] else [1,1]) a.cells
theorem AdK(a:Arr)(ha:A5 a.shape=((a.cells.length:Int),0)):Sp 58 [dA a] [dA (JV a)]:=by
 have hle:=(F5 a.shape).2
 rw[ha]at hle
 simp only at hle
 refine Af 0 (AdL _ _) ?_
 unfold JV
 simp only[Ah]
 refine Ae (fun g=> ?_) (fun g=> ?_)
 · have ar:=JJ a.shape 0
   rw[show Ll a.shape 0 = [.int (Bd (a.shape.take 0) 1),.int (a.shape.getD 0 0),.int (Bd (a.shape.drop 1) 1),.bool true] by unfold Ll;rw[if_pos ⟨by rw[ha],by omega,by omega⟩];rfl]at ar
   refine Aa ar (Ax (by simp only[Aj];omega) (Ac ?_))
   rw[if_pos (by omega),Dn]
   rfl
 · refine Ax (by simp only[Aj];omega) (Ac ?_)
   rw[if_neg (by omega),Dn]
   rfl
def Us:List (Nat×Orc):=[(12,⟨[(1,none),(2,none),(6,none),(39,none),(40,none)],[(1,true),(2,false)],[(.slot 6,1120,67)]⟩)]
noncomputable def Ur(n m12:Nat)(cells6:List D)(t39 t40:Int)(nn1:D)(t2_0:Int):Tree :=
 lA (eA Us n 65 [1,1,1,1,1,0,1,0,0]) (Ak Us 12) m12 ⟨(.undef:: .ptr 1 []:: .ptr 2 []::uA 3++(.row 1120::uA 32++(.i .i64 t39:: .i .i64 t40::uA 14))),[(1,.var 26 (.d 26 nn1) true),(2,.var 26 (.agg 26 [.i .u64 t2_0,.mt,.mt]) true),(1120,.row 67 cells6 true)],[1,2,1120],[],[]⟩
  (Ai 1 (Am (jA Us n 65 [1,1,1,1,1,1]) (rA 65 [26] [.cell 2 26,.tmp 3] [26,29])))
theorem NU(n m12:Nat)(cells6:List D)(t39 t40:Int)(nn1:D)(t2_0:Int):Ur n (m12+1) cells6 t39 t40 nn1 t2_0 =
 bK (t40<t39) (cK 138 [D.int (Al6 .i64 (t40+1))] fun Y2 =>
 kK (0≤t40) (kK (t40<(cells6.length:Int)) (Ur n m12 (cells6.set (Ama t40) (qA Y2)) t39 (Al6 .i64 (t40+1)) nn1 t2_0)))
 (cK 149 [D.sl cells6] fun Y3 =>
 cK 84 [nn1] fun Y4 =>
 cK 90 [qA Y3,D.int ((qA Y4).toInt)] fun Y5 =>
 .ret [qA Y5,D.int 0]):=by kernel_rfl
theorem Adb(n:Nat)(nn0:D):fA Us n 65 [] [nn0] =
 cK 80 [nn0] fun Y1 =>
 .br (((qB Y1).toInt)!=0) (.ret [D.agg [D.int 0,D.sl [],D.sl []],D.int ((qB Y1).toInt)])
 (.br ((((qA Y1).els).length:Int)!=1) (.ret [D.agg [D.int 0,D.sl [],D.sl []],D.int 4])
 (kK (0≤0) (kK (0<(((qA Y1).els).length:Int)) (bK (((((qA Y1).els).getD (Ama 0) D.nil).toInt)<0) (.ret [D.agg [D.int 0,D.sl [],D.sl []],D.int 3])
 (kK (0≤0) (kK (0<(((qA Y1).els).length:Int)) (bK (2048<((((qA Y1).els).getD (Ama 0) D.nil).toInt)) (.ret [D.agg [D.int 0,D.sl [],D.sl []],D.int 7])
 (kK (0≤0) (kK (0<(((qA Y1).els).length:Int)) (kK (0≤(((qA Y1).els).getD (Ama 0) D.nil).toInt) (kK ((((qA Y1).els).getD (Ama 0) D.nil).toInt≤(((qA Y1).els).getD (Ama 0) D.nil).toInt) (kK ((((qA Y1).els).getD (Ama 0) D.nil).toInt≤Aj) (Ur n n (Amc (Ama ((((qA Y1).els).getD (Ama 0) D.nil).toInt)) (D.agg [D.int 0,D.int 0,D.agg [D.bool false,D.sl [],D.sl []],D.int 0,D.sl []])) ((Amc (Ama ((((qA Y1).els).getD (Ama 0) D.nil).toInt)) (D.agg [D.int 0,D.int 0,D.agg [D.bool false,D.sl [],D.sl []],D.int 0,D.sl []])).length:Int) 0 nn0 0))))))))))))):=by kernel_rfl
def Uu:List (Nat×Orc):=[(7,⟨[(1,none),(2,none),(3,none),(4,some 128),(5,none),(19,some 24),(20,none),(21,none)],[(1,true),(2,false),(3,false)],[(.slot 5,1070,67)]⟩)]
noncomputable def P8(n m7:Nat)(place4:D)(cells5:List D)(t19:D)(t20 t21:Int)(a1:D)(r2_0 e3:Int):Tree :=
 lA (eA Uu n 67 [1,1,1,1,1,0,1,0,0]) (Ak Uu 7) m7 ⟨(.undef:: .ptr 1 []:: .ptr 2 []:: .ptr 3 []:: .d 128 place4:: .row 1070::uA 13++(.d 24 t19:: .i .i64 t20:: .i .i64 t21::uA 19)),[(1,.var 26 (.d 26 a1) true),(2,.var 26 (.agg 26 [.i .u64 r2_0,.mt,.mt]) true),(3,.var 29 (.i .i64 e3) true),(1070,.row 67 cells5 true)],[1,2,3,1070],[(151,[.ptr 2 [],.ptr 3 []])],[]⟩
  (Ai 0 (Am (jA Uu n 67 [1,1,1,1,1,1]) (rA 67 [26] [.cell 2 26,.cell 3 29] [26,29])))
theorem NX(n m7:Nat)(place4_c0 place4_c1:D)(cells5:List D)(t19:D)(t20 t21:Int)(a1:D)(r2_0 e3:Int):P8 n (m7+1) (D.fn 216 [.ref 173,.ref 24] [place4_c0,place4_c1]) cells5 t19 t20 t21 a1 r2_0 e3 =
 bK (t21<t20) (kK (0≤t21) (kK (t21<(t19.els.length:Int)) (.call (D.fn 216 [.ref 173,.ref 24] [place4_c0,place4_c1]).fnId (D.fn 216 [.ref 173,.ref 24] [place4_c0,place4_c1]).fnCts ([t19.els.getD (Ama t21) D.nil]++(D.fn 216 [.ref 173,.ref 24] [place4_c0,place4_c1]).fnDs) fun Y2 =>
 .br (((qA Y2).toInt)==t21) (kK (cells5.length + [t19.els.getD (Ama t21) D.nil].length≤Aj) (P8 n m7 (D.fn 216 [.ref 173,.ref 24] [place4_c0,place4_c1]) (cells5++[t19.els.getD (Ama t21) D.nil]) t19 t20 (Al6 .i64 (t21+1)) a1 r2_0 e3))
 (P8 n m7 (D.fn 216 [.ref 173,.ref 24] [place4_c0,place4_c1]) cells5 t19 t20 (Al6 .i64 (t21+1)) a1 r2_0 e3))))
 (cK 149 [D.sl cells5] fun Y3 =>
 cK 84 [a1] fun Y4 =>
 cK 90 [qA Y3,D.int ((qA Y4).toInt)] fun Y5 =>
 .ret [qA Y5,D.int 0]):=by kernel_rfl
theorem Adi(n:Nat)(a0:D):fA Uu n 67 [] [a0] =
 bK (1<(((a0.fld 1).els).length:Int)) (.ret [D.agg [D.int 0,D.sl [],D.sl []],D.int 5])
 (cK 152 [a0.fld 2] fun Y1 =>
 P8 n n (qA Y1) [] (a0.fld 2) (((a0.fld 2).els).length:Int) 0 a0 0 0):=by kernel_rfl
def Uq:List (Nat×Orc):=[(7,⟨[(2,none),(3,none),(4,none),(5,none),(6,some 128),(7,none),(25,some 24),(26,none),(27,none)],[(2,true),(3,true),(4,false),(5,false)],[(.slot 7,1070,67)]⟩)]
noncomputable def Nn(n m7:Nat)(place6:D)(cells7:List D)(t25:D)(t26 t27:Int)(a2 b3:D)(r4_0 e5:Int):Tree :=
 lA (eA Uq n 106 [1,1,1,1,1,0,1,0,0]) (Ak Uq 7) m7 ⟨(.undef:: .undef:: .ptr 2 []:: .ptr 3 []:: .ptr 4 []:: .ptr 5 []:: .d 128 place6:: .row 1070::uA 17++(.d 24 t25:: .i .i64 t26:: .i .i64 t27::uA 26)),[(2,.var 26 (.d 26 a2) true),(3,.var 26 (.d 26 b3) true),(4,.var 26 (.agg 26 [.i .u64 r4_0,.mt,.mt]) true),(5,.var 29 (.i .i64 e5) true),(1070,.row 67 cells7 true)],[2,3,4,5,1070],[(180,[.ptr 4 [],.ptr 5 []])],[]⟩
  (Ai 0 (Am (jA Uq n 106 [1,1,1,1,1,1]) (rA 106 [26,26] [.cell 4 26,.cell 5 29] [26,29])))
theorem NT(n m7:Nat)(place6_c0 place6_c1:D)(cells7:List D)(t25:D)(t26 t27:Int)(a2 b3:D)(r4_0 e5:Int):Nn n (m7+1) (D.fn 216 [.ref 173,.ref 24] [place6_c0,place6_c1]) cells7 t25 t26 t27 a2 b3 r4_0 e5 =
 bK (t27<t26) (kK (0≤t27) (kK (t27<(t25.els.length:Int)) (.call (D.fn 216 [.ref 173,.ref 24] [place6_c0,place6_c1]).fnId (D.fn 216 [.ref 173,.ref 24] [place6_c0,place6_c1]).fnCts ([t25.els.getD (Ama t27) D.nil]++(D.fn 216 [.ref 173,.ref 24] [place6_c0,place6_c1]).fnDs) fun Y2 =>
 bK (((qA Y2).toInt)<0) (cK 138 [D.int (Al6 .i64 ((((a2.fld 2).els).length:Int)+1))] fun Y3 =>
 kK (0≤t27) (kK (t27<(cells7.length:Int)) (Nn n m7 (D.fn 216 [.ref 173,.ref 24] [place6_c0,place6_c1]) (cells7.set (Ama t27) (qA Y3)) t25 t26 (Al6 .i64 (t27+1)) a2 b3 r4_0 e5)))
 (cK 138 [D.int (Al6 .i64 (((qA Y2).toInt)+1))] fun Y4 =>
 kK (0≤t27) (kK (t27<(cells7.length:Int)) (Nn n m7 (D.fn 216 [.ref 173,.ref 24] [place6_c0,place6_c1]) (cells7.set (Ama t27) (qA Y4)) t25 t26 (Al6 .i64 (t27+1)) a2 b3 r4_0 e5))))))
 (cK 182 [a2,b3] fun Y5 =>
 cK 181 [D.int ((qA Y5).toInt),b3.fld 1,D.sl cells7] fun Y6 =>
 .ret [qA Y6,D.int 0]):=by kernel_rfl
theorem AcZ(n:Nat)(a0 b1:D):fA Uq n 106 [] [a0,b1] =
 .br ((((a0.fld 1).els).length:Int)!=1) (.ret [D.agg [D.int 0,D.sl [],D.sl []],D.int 5])
 (cK 152 [a0.fld 2] fun Y1 =>
 kK (0≤(((b1.fld 2).els).length:Int)) (kK ((((b1.fld 2).els).length:Int)≤(((b1.fld 2).els).length:Int)) (kK ((((b1.fld 2).els).length:Int)≤Aj) (Nn n n (qA Y1) (Amc (Ama (((b1.fld 2).els).length:Int)) (D.agg [D.int 0,D.int 0,D.agg [D.bool false,D.sl [],D.sl []],D.int 0,D.sl []])) (b1.fld 2) (((b1.fld 2).els).length:Int) 0 a0 b1 0 0)))):=by kernel_rfl
def Ut:List (Nat×Orc):=[(5,⟨[(2,none),(3,none),(4,none),(5,some 128),(6,none),(19,some 24),(20,none),(21,none)],[(2,true),(3,true),(4,false)],[(.slot 6,1050,67)]⟩)]
noncomputable def No(n m5:Nat)(place5:D)(cells6:List D)(t19:D)(t20 t21:Int)(a2 b3:D)(r4_0:Int):Tree :=
 lA (eA Ut n 107 [1,1,1,1,0,1,0,0]) (Ak Ut 5) m5 ⟨(.undef:: .undef:: .ptr 2 []:: .ptr 3 []:: .ptr 4 []:: .d 128 place5:: .row 1050::uA 12++(.d 24 t19:: .i .i64 t20:: .i .i64 t21::uA 21)),[(2,.var 26 (.d 26 a2) true),(3,.var 26 (.d 26 b3) true),(4,.var 26 (.agg 26 [.i .u64 r4_0,.mt,.mt]) true),(1050,.row 67 cells6 true)],[2,3,4,1050],[(183,[.ptr 4 []])],[]⟩
  (Ai 0 (Am (jA Ut n 107 [1,1,1,1,1]) (rA 107 [26,26] [.cell 4 26] [26])))
theorem NV(n m5:Nat)(place5_c0 place5_c1:D)(cells6:List D)(t19:D)(t20 t21:Int)(a2 b3:D)(r4_0:Int):No n (m5+1) (D.fn 216 [.ref 173,.ref 24] [place5_c0,place5_c1]) cells6 t19 t20 t21 a2 b3 r4_0 =
 bK (t21<t20) (kK (0≤t21) (kK (t21<(t19.els.length:Int)) (.call (D.fn 216 [.ref 173,.ref 24] [place5_c0,place5_c1]).fnId (D.fn 216 [.ref 173,.ref 24] [place5_c0,place5_c1]).fnCts ([t19.els.getD (Ama t21) D.nil]++(D.fn 216 [.ref 173,.ref 24] [place5_c0,place5_c1]).fnDs) fun Y2 =>
 bK (0≤((qA Y2).toInt)) (cK 138 [D.int 1] fun Y3 =>
 kK (0≤t21) (kK (t21<(cells6.length:Int)) (No n m5 (D.fn 216 [.ref 173,.ref 24] [place5_c0,place5_c1]) (cells6.set (Ama t21) (qA Y3)) t19 t20 (Al6 .i64 (t21+1)) a2 b3 r4_0)))
 (cK 138 [D.int 0] fun Y4 =>
 kK (0≤t21) (kK (t21<(cells6.length:Int)) (No n m5 (D.fn 216 [.ref 173,.ref 24] [place5_c0,place5_c1]) (cells6.set (Ama t21) (qA Y4)) t19 t20 (Al6 .i64 (t21+1)) a2 b3 r4_0))))))
 (cK 182 [a2,b3] fun Y5 =>
 cK 181 [D.int ((qA Y5).toInt),a2.fld 1,D.sl cells6] fun Y6 =>
 .ret [qA Y6]):=by kernel_rfl
theorem Add(n:Nat)(a0 b1:D):fA Ut n 107 [] [a0,b1] =
 cK 152 [b1.fld 2] fun Y1 =>
 kK (0≤(((a0.fld 2).els).length:Int)) (kK ((((a0.fld 2).els).length:Int)≤(((a0.fld 2).els).length:Int)) (kK ((((a0.fld 2).els).length:Int)≤Aj) (No n n (qA Y1) (Amc (Ama (((a0.fld 2).els).length:Int)) (D.agg [D.int 0,D.int 0,D.agg [D.bool false,D.sl [],D.sl []],D.int 0,D.sl []])) (a0.fld 2) (((a0.fld 2).els).length:Int) 0 a0 b1 0))):=by kernel_rfl
theorem Adg(n:Nat)(a0 b1:D):fA [] n 108 [] [a0,b1] =
 bK (1<(((a0.fld 1).els).length:Int)) (.ret [D.agg [D.int 0,D.sl [],D.sl []],D.int 5])
 (bK (1<(((b1.fld 1).els).length:Int)) (.ret [D.agg [D.int 0,D.sl [],D.sl []],D.int 5])
 (cK 185 [b1.fld 2,a0.fld 2,D.bool false] fun Y1 =>
 bK (2048<(Al6 .i64 ((((a0.fld 2).els).length:Int)+(((qA Y1).els).length:Int)))) (.ret [D.agg [D.int 0,D.sl [],D.sl []],D.int 7])
 (kK (0≤0) (kK (0≤Al6 .i64 ((((a0.fld 2).els).length:Int)+(((qA Y1).els).length:Int))) (kK (Al6 .i64 ((((a0.fld 2).els).length:Int)+(((qA Y1).els).length:Int))≤Aj) (kK ((Amc (Ama 0) (D.agg [D.int 0,D.int 0,D.agg [D.bool false,D.sl [],D.sl []],D.int 0,D.sl []])).length+((a0.fld 2).els).length≤Aj) (kK (((Amc (Ama 0) (D.agg [D.int 0,D.int 0,D.agg [D.bool false,D.sl [],D.sl []],D.int 0,D.sl []]))++((a0.fld 2).els)).length+((qA Y1).els).length≤Aj) (cK 149 [D.sl (((Amc (Ama 0) (D.agg [D.int 0,D.int 0,D.agg [D.bool false,D.sl [],D.sl []],D.int 0,D.sl []]))++((a0.fld 2).els))++((qA Y1).els))] fun Y2 =>
 cK 182 [a0,b1] fun Y3 =>
 cK 90 [qA Y2,D.int ((qA Y3).toInt)] fun Y4 =>
 .ret [qA Y4,D.int 0])))))))):=by kernel_rfl
theorem Ade(n:Nat)(a0 b1 in2:D):fA [] n 109 [] [a0,b1,in2] =
 bK (1<(((a0.fld 1).els).length:Int)) (.ret [D.agg [D.int 0,D.sl [],D.sl []],D.int 5])
 (cK 185 [a0.fld 2,b1.fld 2,D.bool in2.toBool] fun Y1 =>
 cK 149 [qA Y1] fun Y2 =>
 cK 182 [a0,b1] fun Y3 =>
 cK 90 [qA Y2,D.int ((qA Y3).toInt)] fun Y4 =>
 .ret [qA Y4,D.int 0]):=by kernel_rfl
theorem Adn(n:Nat)(l0 s1 cells2:D):fA [] n 181 [] [l0,s1,cells2] =
 kK (s1.els.length≤Aj) (.ret [D.agg [D.int l0.toInt,D.sl s1.els,cells2]]):=by kernel_rfl
theorem Adj(n:Nat)(a0 b1:D):fA [] n 182 [] [a0,b1] =
 cK 84 [a0] fun Y1 =>
 cK 84 [b1] fun Y2 =>
 cK 83 [D.int ((qA Y1).toInt),D.int ((qA Y2).toInt)] fun Y3 =>
 .ret [D.int ((qA Y3).toInt)]:=by kernel_rfl
def U0:List (Nat×Orc):=[(4,⟨[(2,none),(7,some 128),(8,none),(14,some 24),(15,none),(16,none)],[],[(.slot 8,1040,67)]⟩)]
noncomputable def Qa(n m4:Nat)(in2:Bool)(place7:D)(r8:List D)(t14:D)(t15 t16:Int):Tree :=
 lA (eA U0 n 185 [1,1,1,0,1,0,0]) (Ak U0 4) m4 ⟨(.undef:: .undef:: .b in2::uA 4++(.d 128 place7:: .row 1040::uA 5++(.d 24 t14:: .i .i64 t15:: .i .i64 t16::uA 15))),[(1040,.row 67 r8 true)],[1040],[],[]⟩
  (Ai 0 (Am (jA U0 n 185 [1,1,1,1]) (rA 185 [24,24,4] [.tmp 6] [24])))
theorem OF(n m4:Nat)(in2:Bool)(place7_c0 place7_c1:D)(r8:List D)(t14:D)(t15 t16:Int):Qa n (m4+1) in2 (D.fn 216 [.ref 173,.ref 24] [place7_c0,place7_c1]) r8 t14 t15 t16 =
 bK (t16<t15) (kK (0≤t16) (kK (t16<(t14.els.length:Int)) (.call (D.fn 216 [.ref 173,.ref 24] [place7_c0,place7_c1]).fnId (D.fn 216 [.ref 173,.ref 24] [place7_c0,place7_c1]).fnCts ([t14.els.getD (Ama t16) D.nil]++(D.fn 216 [.ref 173,.ref 24] [place7_c0,place7_c1]).fnDs) fun Y2 =>
 .br ((decide (0≤((qA Y2).toInt)))==in2) (kK (r8.length + [t14.els.getD (Ama t16) D.nil].length≤Aj) (Qa n m4 in2 (D.fn 216 [.ref 173,.ref 24] [place7_c0,place7_c1]) (r8++[t14.els.getD (Ama t16) D.nil]) t14 t15 (Al6 .i64 (t16+1))))
 (Qa n m4 in2 (D.fn 216 [.ref 173,.ref 24] [place7_c0,place7_c1]) r8 t14 t15 (Al6 .i64 (t16+1))))))
 (.ret [D.sl r8]):=by kernel_rfl
theorem Ado(n:Nat)(l0 others1 in2:D):fA U0 n 185 [] [l0,others1,in2] =
 cK 152 [others1] fun Y1 =>
 Qa n n in2.toBool (qA Y1) [] l0 (l0.els.length:Int) 0:=by kernel_rfl
def C6:List (Nat×Orc):=[(5,⟨[(0,none),(3,none),(31,some 62),(32,none),(33,none)],[(3,true)],[]⟩),(10,⟨[(0,none),(3,none),(44,some 62),(45,none),(46,none)],[(3,true)],[]⟩),(15,⟨[(0,none),(56,some 65),(57,none),(58,none)],[],[]⟩),(18,⟨[(0,none),(10,none),(56,some 65),(57,none),(58,none),(63,some 23),(64,none),(65,none)],[(10,true)],[]⟩),(23,⟨[(0,none),(56,some 65),(57,none),(58,none),(75,some 24),(76,none),(77,none)],[],[]⟩)]
def Lx:List Nat:=[22,67]
def Ly:List ResultVar:=[.tmp 4]
noncomputable def Uz(n m15 m23:Nat)(k0:Int)(t56:D)(t57 t58:Int)(t75:D)(t76 t77:Int):Tree :=
 lA (eA C6 n 215 [1,1,1,1,1,0,1,0,0,1,1,0,0,1,1,1,0,0]) (Ak C6 23) m23 ⟨(.i .u64 k0::uA 55++(.d 65 t56:: .i .i64 t57:: .i .i64 t58::uA 16++(.d 24 t75:: .i .i64 t76:: .i .i64 t77::uA 9))),[],[],[],[]⟩
  (Ai 8 (Ai 5 (Am (jA C6 n 215 [1,1,1,1,1,0,1,0,0,1,1,1]) (Fa Tryz.prog md (Ak C6 15) (fun s1=>lA (eA C6 n 215 [1,1,1,1,1,0,1,0,0]) (Ak C6 15) m15 s1 (Ai 4 (Am (jA C6 n 215 [1,1,1,1,1,1]) (rA 215 Lx Ly [22])))) (Ai 4 (Am (jA C6 n 215 [1,1,1,1,1,1]) (rA 215 Lx Ly [22])))))))
noncomputable def Uy(n m15 m18:Nat)(k0:Int)(t56:D)(t57 t58:Int)(t63:D)(t64 t65:Int)(a10:D):Tree :=
 lA (eA C6 n 215 [1,1,1,1,1,0,1,0,0,1,1,0,0,1,0,1,0,0]) (Ak C6 18) m18 ⟨(.i .u64 k0::uA 9++(.ptr 10 []::uA 45++(.d 65 t56:: .i .i64 t57:: .i .i64 t58::uA 4++(.d 23 t63:: .i .i64 t64:: .i .i64 t65::uA 21)))),[(10,.var 26 (.d 26 a10) true)],[10],[],[]⟩
  (Ai 6 (Am (jA C6 n 215 [1,1,1,1,1,0,1,0,0,1,1,0,0,1,1]) (Ai 5 (Am (jA C6 n 215 [1,1,1,1,1,0,1,0,0,1,1,1]) (Fa Tryz.prog md (Ak C6 15) (fun s1=>lA (eA C6 n 215 [1,1,1,1,1,0,1,0,0]) (Ak C6 15) m15 s1 (Ai 4 (Am (jA C6 n 215 [1,1,1,1,1,1]) (rA 215 Lx Ly [22])))) (Ai 4 (Am (jA C6 n 215 [1,1,1,1,1,1]) (rA 215 Lx Ly [22]))))))))
noncomputable def P_(n m15:Nat)(k0:Int)(t56:D)(t57 t58:Int):Tree :=
 lA (eA C6 n 215 [1,1,1,1,1,0,1,0,0]) (Ak C6 15) m15 ⟨(.i .u64 k0::uA 55++(.d 65 t56:: .i .i64 t57:: .i .i64 t58::uA 28)),[],[],[],[]⟩
  (Ai 4 (Am (jA C6 n 215 [1,1,1,1,1,1]) (rA 215 Lx Ly [22])))
noncomputable def P9(n m10:Nat)(k0:Int)(t44:D)(t45 t46:Int)(c3:D):Tree :=
 lA (eA C6 n 215 [1,1,1,1,0,1,0,0]) (Ak C6 10) m10 ⟨(.i .u64 k0:: .undef:: .undef:: .ptr 3 []::uA 40++(.d 62 t44:: .i .i64 t45:: .i .i64 t46::uA 40)),[(3,.var 67 (.d 67 c3) true)],[3],[],[]⟩
  (Ai 2 (Am (jA C6 n 215 [1,1,1,1,1]) (rA 215 Lx Ly [22])))
noncomputable def Np(n m5:Nat)(k0:Int)(t31:D)(t32 t33:Int)(c3:D):Tree :=
 lA (eA C6 n 215 [1,1,1,0,1,0,0]) (Ak C6 5) m5 ⟨(.i .u64 k0:: .undef:: .undef:: .ptr 3 []::uA 27++(.d 62 t31:: .i .i64 t32:: .i .i64 t33::uA 53)),[(3,.var 67 (.d 67 c3) true)],[3],[],[]⟩
  (Ai 0 (Am (jA C6 n 215 [1,1,1,1]) (rA 215 Lx Ly [22])))
theorem OC(n m15 m23:Nat)(k0:Int)(t56:D)(t57 t58:Int)(t75:D)(t76 t77:Int):Uz n m15 (m23+1) k0 t56 t57 t58 t75 t76 t77 =
 bK (t77<t76) (kK (0≤t77) (kK (t77<(t75.els.length:Int)) (cK 215 [D.int k0,t75.els.getD (Ama t77) D.nil] fun Y7 =>
 Uz n m15 m23 ((qA Y7).toInt) t56 t57 t58 t75 t76 (Al6 .i64 (t77+1)))))
 (P_ n m15 k0 t56 t57 (Al6 .i64 (t58+1))):=by kernel_rfl
theorem OB(n m15 m18:Nat)(k0:Int)(t56:D)(t57 t58:Int)(t63:D)(t64 t65:Int)(a10:D):Uy n m15 (m18+1) k0 t56 t57 t58 t63 t64 t65 a10 =
 bK (t65<t64) (kK (0≤t65) (kK (t65<(t63.els.length:Int)) (cK 249 [D.int k0,D.int (Al6 .u64 ((t63.els.getD (Ama t65) D.nil).toInt))] fun Y6 =>
 Uy n m15 m18 ((qA Y6).toInt) t56 t57 t58 t63 t64 (Al6 .i64 (t65+1)) a10)))
 (Uz n m15 n k0 t56 t57 t58 (a10.fld 2) (((a10.fld 2).els).length:Int) 0):=by kernel_rfl
theorem OA(n m15:Nat)(k0:Int)(t56:D)(t57 t58:Int):P_ n (m15+1) k0 t56 t57 t58 =
 bK (t58<t57) (kK (0≤t58) (kK (t58<(t56.els.length:Int)) (Uy n m15 n k0 t56 t57 t58 ((t56.els.getD (Ama t58) D.nil).fld 1) ((((t56.els.getD (Ama t58) D.nil).fld 1).els).length:Int) 0 (t56.els.getD (Ama t58) D.nil))))
 (.ret [D.int k0]):=by kernel_rfl
theorem NZ(n m10:Nat)(k0:Int)(t44:D)(t45 t46:Int)(c3:D):P9 n (m10+1) k0 t44 t45 t46 c3 =
 bK (t46<t45) (kK (0≤t46) (kK (t46<(t44.els.length:Int)) (cK 249 [D.int k0,D.int (Al6 .u64 ((t44.els.getD (Ama t46) D.nil).toInt))] fun Y5 =>
 P9 n m10 ((qA Y5).toInt) t44 t45 (Al6 .i64 (t46+1)) c3)))
 (P_ n n k0 (c3.fld 4) (((c3.fld 4).els).length:Int) 0):=by kernel_rfl
theorem OD(n m5:Nat)(k0:Int)(t31:D)(t32 t33:Int)(c3:D):Np n (m5+1) k0 t31 t32 t33 c3 =
 bK (t33<t32) (kK (0≤t33) (kK (t33<(t31.els.length:Int)) (cK 249 [D.int k0,D.int (Al6 .u64 ((t31.els.getD (Ama t33) D.nil).toInt))] fun Y4 =>
 Np n m5 ((qA Y4).toInt) t31 t32 (Al6 .i64 (t33+1)) c3)))
 (P9 n n k0 ((c3.fld 2).fld 2) ((((c3.fld 2).fld 2).els).length:Int) 0 c3):=by kernel_rfl
theorem Adl(n:Nat)(k0 c1:D):fA C6 n 215 [] [k0,c1] =
 cK 249 [D.int k0.toInt,D.int (Al6 .u64 ((c1.fld 1).toInt))] fun Y1 =>
 cK 249 [D.int ((qA Y1).toInt),D.int (Al6 .u64 ((c1.fld 3).toInt))] fun Y2 =>
 .br (((c1.fld 2).fld 0).toBool) (cK 249 [D.int ((qA Y2).toInt),D.int 1] fun Y3 =>
 Np n n ((qA Y3).toInt) ((c1.fld 2).fld 1) ((((c1.fld 2).fld 1).els).length:Int) 0 c1)
 (Np n n ((qA Y2).toInt) ((c1.fld 2).fld 1) ((((c1.fld 2).fld 1).els).length:Int) 0 c1):=by kernel_rfl
def Ux:List (Nat×Orc):=[(3,⟨[(2,none),(5,none),(13,some 23),(14,none),(15,none)],[(5,true)],[]⟩)]
noncomputable def Uw(n m3:Nat)(t2 t13:D)(t14 t15:Int)(alone5:D):Tree :=
 lA (eA Ux n 216 [1,1,0,1,0,0]) (Ak Ux 3) m3 ⟨(.undef:: .undef:: .at_ 24 t2:: .undef:: .undef:: .ptr 5 []::uA 7++(.d 23 t13:: .i .i64 t14:: .i .i64 t15::uA 12)),[(5,.var 26 (.d 26 alone5) true)],[5],[],[]⟩
  (Ai 0 (Am (jA Ux n 216 [1,1,1]) (rA 216 [67] [.tmp 4] [3])))
theorem NY(n m3:Nat)(t2 t13:D)(t14 t15:Int)(alone5:D):Uw n (m3+1) t2 t13 t14 t15 alone5 =
 bK (t15<t14) (kK (0≤t15) (kK (t15<(t13.els.length:Int)) (kK (0≤(t13.els.getD (Ama t15) D.nil).toInt) (kK ((t13.els.getD (Ama t15) D.nil).toInt<(t2.els.length:Int)) (cK 178 [t2.els.getD (Ama ((t13.els.getD (Ama t15) D.nil).toInt)) D.nil] fun Y3 =>
 cK 179 [alone5,qA Y3] fun Y4 =>
 .br ((qA Y4).toBool) (.ret [D.int ((t13.els.getD (Ama t15) D.nil).toInt)])
 (Uw n m3 t2 t13 t14 (Al6 .i64 (t15+1)) alone5))))))
 (.ret [D.int (-1)]):=by kernel_rfl
theorem Adk(n:Nat)(c0 c1 c2:D):fA Ux n 216 [.ref 173,.ref 24] [c0,c1,c2] =
 cK 178 [c0] fun Y1 =>
 cK 215 [D.int 0,c0] fun Y2 =>
 Uw n n c2.unref (D.sl ((c1.unref.grpI ((qA Y2).toInt)).map D.int)) (((c1.unref.grpI ((qA Y2).toInt)).map D.int).length:Int) 0 (qA Y1):=by kernel_rfl
theorem Adm(n:Nat)(k0 nn1:D):fA [] n 249 [] [k0,nn1] =
 kK (0≤29) (.ret [D.int (Bm .xor .u64 (Al6 .u64 ((Bm .xor .u64 k0.toInt nn1.toInt)*11400714819323198485)) (Am3 (Al6 .u64 ((Bm .xor .u64 k0.toInt nn1.toInt)*11400714819323198485)) (2 ^ (min (Ama 29) (Aml .u64)))))]):=by kernel_rfl
def wU(x:Int):Int:=Al6 .u64 x
def Fc(k n:Int):Int:=Bm .xor .u64 (Al6 .u64 ((Bm .xor .u64 k n)*11400714819323198485)) (Am3 (Al6 .u64 ((Bm .xor .u64 k n)*11400714819323198485)) (2 ^ (min (Ama 29) (Aml .u64))))
theorem Ob(k n:Int):Sp 249 [.int k,.int n] [.int (Fc k n)]:=Af 0 (Adm _ _ _) (Ax (by decide) (Ac rfl))
def Ij(k:Int)(l:List Ao):Int:=l.foldl (fun k x=>Fc k (wU (x.toNat:Int))) k
def FJ(k:Int)(l:List Int):Int:=l.foldl (fun k x=>Fc k (wU x)) k
mutual
def B5:Int→CellF Arr→Int
 | k,⟨_,kd,n,c,inn⟩=>Qv (Ij (Ij (if n.neg then Fc (Fc (Fc k (wU kd)) (wU c)) 1 else Fc (Fc k (wU kd)) (wU c)) n.top) n.bot) inn
def Qv:Int→List Arr→Int
 | k,[]=>k
 | k,a::as_=>Qv (Fb k a) as_
def Fb:Int→Arr→Int
 | k,.mk _ sh cs=>Qw (FJ k sh) cs
def Qw:Int→List (CellF Arr)→Int
 | k,[]=>k
 | k,c::cs=>Qw (B5 k c) cs
end
theorem QR : ∀ (as_:List Arr) (k:Int),Qv k as_=as_.foldl Fb k
 | [],k=>by rw[Qv];rfl
 | a::as_,k=>by rw[Qv,QR as_];rfl
theorem QU : ∀ (cs:List Cell) (k:Int),Qw k cs=cs.foldl B5 k
 | [],k=>by rw[Qw];rfl
 | c::cs,k=>by rw[Qw,QU cs];rfl
theorem V4(k:Int)(a:Arr):Fb k a=a.cells.foldl B5 (FJ k a.shape):=by cases a;rw[Fb,QU];rfl
theorem N9(k:Int)(c:Cell):B5 k c=c.inn.foldl Fb (Ij (Ij (if c.n.neg then Fc (Fc (Fc k (wU c.kind)) (wU c.c)) 1 else Fc (Fc k (wU c.kind)) (wU c.c)) c.n.top) c.n.bot):=by cases c;rw[B5,QR]
theorem U6{α:Type}{f:Int→α→Int}{r:α→α} : ∀ {l:List α} {k:Int},(∀ x∈l,∀ k,f k (r x)=f k x)→(l.map r).foldl f k=l.foldl f k
 | [],_,_=>rfl
 | x::xs,k,h=>by
  simp only[Ani,List.foldl_cons,h x (by simp)]
  exact U6 (fun y hy=>h y (List.mem_cons_of_mem _ hy))
theorem Ae1(g:Ap→Ap)(a:Arr) : ∀ k,Fb k (Fn g a)=Fb k a:=by
 induction a using Arr.ind with
 | h s sh cs IH =>
  intro k
  rw[V4,V4,Mr]
  simp only[Arr.cells_mk,Arr.shape_mk]
  refine U6 (fun c hc k=> ?_)
  rw[N9,N9,Yy]
  exact U6 (fun x hx k=>IH c hc x hx k)
theorem QT(g:Ap→Ap)(c:Cell)(k:Int):B5 k (En g c)=B5 k c:=by
 rw[N9,N9,Yy]
 exact U6 (fun x _ k=>Ae1 g x k)
noncomputable def Ip(x y:Cell):Bool:=Ic (En (fun _=>0) x) (En (fun _=>0) y)
theorem Mu{x y:Cell} : Ip x y=true↔En (fun _=>0) x=En (fun _=>0) y:=Lv
theorem Aju(x:Cell):Ip x x=true:=AcK _
theorem Ajs(x y:Cell):Ip x y=Ip y x:=by
 cases h:Ip y x with
 | true=>exact Mu.2 (Mu.1 h).symm
 | false =>
  cases h2:Ip x y with
  | false=>rfl
  | true=>rw[Mu.2 (Mu.1 h2).symm]at h;cases h
theorem Ajt{x y:Cell}(h:Ip x y=true)(k:Int):B5 k x=B5 k y:=by
 rw[← QT (fun _=>0) x,← QT (fun _=>0) y,Mu.1 h]
theorem Ae4(x y:Cell):V5 (El x) (El y)=Ip x y:=by
 cases h:Ip x y with
 | true=>exact Kw.2 (by unfold Um El;rw[Mr,Mr];simp only[Arr.cells_mk,Arr.s_mk,Arr.shape_mk,Ani,List.map_nil,Mu.1 h])
 | false =>
  cases h2:V5 (El x) (El y) with
  | false=>rfl
  | true =>
   have:=Kw.1 h2
   unfold Um El at this
   rw[Mr,Mr,S4]at this
   have h3:=this.2.2
   simp only[Arr.cells_mk,Ani,List.map_nil,List.cons.injEq,and_true]at h3
   rw[Mu.2 h3]at h;cases h
noncomputable def Dp:List Cell→Cell→Nat→Int
 | [],_,_=> -1
 | x::xs,c,k=>if Ip x c then (k:Int) else Dp xs c (k+1)
theorem TZ : ∀ (l:List Cell) (c:Cell) (k:Nat),Dp l c k = -1∨((k:Int)≤Dp l c k∧Dp l c k<(k+l.length:Nat))
 | [],c,k=> .inl rfl
 | x::xs,c,k=>by
  simp only[Dp]
  split
  · right;simp only[Amg];omega
  · rcases TZ xs c (k+1) with h | h
    · exact .inl h
    · right;simp only[Amg];omega
def Di:List Cell→Int→Nat→List Int
 | [],_,_=>[]
 | x::xs,n,k=>if B5 0 x=n then (k:Int)::Di xs n (k+1) else Di xs n (k+1)
theorem PE : ∀ (l:List Cell) (n:Int) (k:Nat),(∀ j∈Di l n k,(k:Int)≤j∧j<(k+l.length:Nat))∧(Di l n k).length≤l.length
 | [],n,k=>by simp[Di]
 | x::xs,n,k=>by
  obtain ⟨h1,h2⟩:=PE xs n (k+1)
  simp only[Di]
  split
  · refine ⟨fun j hj=> ?_,by simp only[Amg];omega⟩
    simp only[Amg]
    rcases Amw.1 hj with rfl | hj
    · omega
    · have:=h1 j hj;omega
  · refine ⟨fun j hj=> ?_,by simp only[Amg];omega⟩
    simp only[Amg]
    have:=h1 j hj;omega
noncomputable def Qe(l:List Cell)(c:Cell):List Int→Int
 | []=> -1
 | j::js=>if Ip c (l.getD j.toNat Cell.none) then j else Qe l c js
theorem OO(l:List Cell)(c:Cell) : ∀ (xs:List Cell) (k:Nat),l.drop k=xs→Qe l c (Di xs (B5 0 c) k)=Dp xs c k
 | [],k,_=>rfl
 | x::xs,k,h=>by
  obtain ⟨h1,h2,h3⟩:=Bx h
  have ih:=OO l c xs (k+1) h3
  have hg:l.getD k Cell.none=x:=by rw[Amf,h2];rfl
  simp only[Di,Dp]
  by_cases hm:B5 0 x=B5 0 c
  · rw[if_pos hm]
    simp only[Qe,Amj,hg]
    rw[Ajs c x,ih]
  · rw[if_neg hm,if_neg (fun hs=>hm (Ajt hs 0)),ih]
theorem QV : ∀ (d:Nat) (c:Cell) (k:Int),SmlC d c→Sp 215 [.int k,dC c] [.int (B5 k c)]:=by
 suffices key : ∀ (d:Nat),(∀ e,d=e+1→∀ (c:Cell) (k:Int),SmlC e c→Sp 215 [.int k,dC c] [.int (B5 k c)])→∀ (c:Cell) (k:Int),SmlC d c→Sp 215 [.int k,dC c] [.int (B5 k c)] by
   intro d
   induction d with
   | zero=>exact key 0 (fun e he=>by omega)
   | succ d ih=>exact key (d+1) (fun e he=>by
          have:e=d:=by omega
          subst this;exact ih)
 intro d IH c k hc
 obtain ⟨c1,c2,c3,c4⟩:=hc
 rw[N9]
 have inn : ∀ k0:Int,Tw (P_ 1048577 1048577 k0 (.sl (c.inn.map dA)) (c.inn.length:Int) 0) [.int (c.inn.foldl Fb k0)]:=by
   intro k0
   have key:=B3 c.inn (fun m k (s:Int)=>P_ 1048577 m s (.sl (c.inn.map dA)) (c.inn.length:Int) (k:Int)) (fun rest s=>[.int (rest.foldl Fb s)]) (fun _ _=>True)
    (fun m k s hk _=>by
     simp only[OA]
     exact Aq (Ac rfl))
    (fun m k s x rest hdr _ ih=>by
     obtain ⟨h1,h2,h3⟩:=Bx hdr
     have hx:=c4 x (Amh h2)
     obtain ⟨e,rfl⟩:=hx.succ
     have hxs:=hx.1
     have hxc:=hx.2.1
     simp only[OA,Ah,As h2]
     refine Ad (Ad (Ad ?_))
     have key2:=B3 x.shape (fun m' j (s:Int)=>Uy 1048577 m m' s (.sl (c.inn.map dA)) (c.inn.length:Int) (k:Int) (dI x.shape) (x.shape.length:Int) (j:Int) (dA x)) (fun rest' s=>[.int (rest.foldl Fb (x.cells.foldl B5 (FJ s rest')))]) (fun _ _=>True)
      (fun m' j s hj _=>by
       simp only[OB,Ah]
       refine Aq ?_
       have key3:=B3 x.cells (fun m'' i (s:Int)=>Uz 1048577 m m'' s (.sl (c.inn.map dA)) (c.inn.length:Int) (k:Int) (.sl (x.cells.map dC)) (x.cells.length:Int) (i:Int)) (fun rest'' s=>[.int (rest.foldl Fb (rest''.foldl B5 s))]) (fun _ _=>True)
        (fun m'' i s hi _=>by
         simp only[OC,Bb k]
         exact Aq (ih s trivial))
        (fun m'' i s y rest'' hdr'' _ ih''=>by
         obtain ⟨g1,g2,g3⟩:=Bx hdr''
         simp only[OC,Ah,As g2,Bb i]
         exact Ad (Ad (Ad (Aa (IH e rfl y s (hx.cell y (Amh g2))) (ih'' _ trivial)))))
        1048577 0 s (by omega) (by omega) trivial
       exact key3)
      (fun m' j s y rest' hdr' _ ih'=>by
       obtain ⟨g1,g2,g3⟩:=Bx hdr'
       simp only[OB,Ah,As g2,Bb j]
       exact Ad (Ad (Ad (Aa (Ob s (wU y)) (ih' _ trivial)))))
      1048577 0 s (by omega) (by omega) trivial
     rw[List.foldl_cons,V4]
     exact key2)
    1048577 0 k0 (by omega) (by omega) trivial
   exact key
 have bot : ∀ k0:Int,Tw (P9 1048577 1048577 k0 (dL c.n.bot) (c.n.bot.length:Int) 0 (dC c)) [.int (c.inn.foldl Fb (Ij k0 c.n.bot))]:=by
   intro k0
   have key:=B3 c.n.bot (fun m k (s:Int)=>P9 1048577 m s (dL c.n.bot) (c.n.bot.length:Int) (k:Int) (dC c)) (fun rest s=>[.int (c.inn.foldl Fb (Ij s rest))]) (fun _ _=>True)
    (fun m k s hk _=>by
     simp only[NZ,Ah]
     exact Aq (inn s))
    (fun m k s x rest hdr _ ih=>by
     obtain ⟨h1,h2,h3⟩:=Bx hdr
     simp only[NZ,Bz,Amd,Amj,As h2,Dc,Bb k]
     exact Ad (Ad (Ad (Aa (Ob s (wU (x.toNat:Int))) (ih _ trivial)))))
    1048577 0 k0 (by omega) (by omega) trivial
   exact key
 have top : ∀ k0:Int,Tw (Np 1048577 1048577 k0 (dL c.n.top) (c.n.top.length:Int) 0 (dC c)) [.int (c.inn.foldl Fb (Ij (Ij k0 c.n.top) c.n.bot))]:=by
   intro k0
   have key:=B3 c.n.top (fun m k (s:Int)=>Np 1048577 m s (dL c.n.top) (c.n.top.length:Int) (k:Int) (dC c)) (fun rest s=>[.int (c.inn.foldl Fb (Ij (Ij s rest) c.n.bot))]) (fun _ _=>True)
    (fun m k s hk _=>by
     simp only[OD,Ah]
     exact Aq (bot s))
    (fun m k s x rest hdr _ ih=>by
     obtain ⟨h1,h2,h3⟩:=Bx hdr
     simp only[OD,Bz,Amd,Amj,As h2,Dc,Bb k]
     exact Ad (Ad (Ad (Aa (Ob s (wU (x.toNat:Int))) (ih _ trivial)))))
    1048577 0 k0 (by omega) (by omega) trivial
   exact key
 refine Af 1048577 (Adl _ _ _) ?_
 simp only[Ah]
 refine Aa (Ob k (wU c.kind)) ?_
 simp only[Ag,Al]
 refine Aa (Ob (Fc k (wU c.kind)) (wU c.c)) ?_
 simp only[Ag,Al]
 refine Bu (fun h=> ?_) (fun h=> ?_)
 · have hn:c.n.neg=true:=by simpa using h
   rw[if_pos hn]
   exact Aa (Ob _ 1) (top _)
 · have hn : ¬ c.n.neg=true:=by simpa using h
   rw[if_neg hn]
   exact top _
abbrev L0(g:List (Int×List Int))(l:List Cell):D:=D.fn 216 [.ref 173,.ref 24] [.ref (.mp g),.ref (.sl (l.map dC))]
theorem U1{d e:Nat}(g:List (Int×List Int))(l:List Cell)(c:Cell)(hg : ∀ n,G0 g n=Di l n 0)(hc:SmlC d c)(hl : ∀ x∈l,SmlC e x)(hlen:l.length≤1048576):Dq Tryz.prog md 216 [.ref 173,.ref 24] [dC c,.ref (.mp g),.ref (.sl (l.map dC))] [.int (Dp l c 0)]:=by
 refine Af 1048577 (Adk _ _ _ _) (Aa (Pp c hc) (Aa (QV d c 0 hc) ?_))
 have hgm:(D.mp g).grpI (B5 0 c)=Di l (B5 0 c) 0:=hg _
 simp only[AX,Ag,Al,hgm]
 have hr:=PE l (B5 0 c) 0
 have hp:=OO l c l 0 rfl
 generalize Di l (B5 0 c) 0=js at *
 have key:=B3 js (fun m k (_:Unit)=>Uw 1048577 m (.sl (l.map dC)) (.sl (js.map D.int)) (((js.map D.int).length:Nat):Int) (k:Int) (dA (El c))) (fun rest _=>[.int (Qe l c rest)]) (fun _ _=>True)
  (fun m k s hk _=>by
   simp only[NY,Amd]
   exact Aq (Ac rfl))
  (fun m k s j rest hdr _ ih=>by
   obtain ⟨h1,h2,h3⟩:=Bx hdr
   have hj:=hr.1 j (Amh h2)
   obtain ⟨J,rfl⟩ : ∃ J:Nat,j=(J:Int):=⟨j.toNat,by omega⟩
   have hJ:J<l.length:=by omega
   have hcell:(l.map dC).getD J D.nil=dC (l.getD J Cell.none):=by
    rw[As (Amb hJ),Amf,Amb hJ];rfl
   have hmem:l.getD J Cell.none∈l:=by
    rw[Amf,Amb hJ];exact Anh hJ
   simp only[NY,Ah,As h2,hcell,Bb k]
   have hm:=LN (d:=d+1) (El c) (El (l.getD J Cell.none)) (Sml.of (by simp[El]) (by simp[El]) (by simp[El]) (fun x hx=>by simp[El]at hx;subst hx;exact hc))
   rw[Ae4]at hm
   refine Ad (Ad (Ad (Ad (Ad (Aa (Pp _ (hl _ hmem)) (Aa hm ?_))))))
   simp only[Ag,Az,Qe,Amj]
   refine Bu (fun h=>Ac (by rw[if_pos h])) (fun h=> ?_)
   rw[if_neg (by rw[h];decide)]
   have:=ih () trivial
   simp only[Amd]at this
   exact this)
  1048577 0 () (by omega) (by omega) trivial
 rw[List.drop_zero,hp]at key
 exact key
def Lk:Prop:=∀ (e:Nat) (l:List Cell),(∀ x∈l,SmlC e x)→l.length≤2048→∃ g,(∀ n,G0 g n=Di l n 0)∧Sp 152 [.sl (l.map dC)] [L0 g l]
def H8(a b:Arr):Ap:=Av a|||Av b
theorem AgD{l:List Cell}{c:Cell}(h:l.length≤2048) : -1≤Dp l c 0∧Dp l c 0<(l.length:Int):=by
 have:=TZ l c 0
 omega
noncomputable def Ho(l:List Cell)(c:Cell):Cell:=Be (if Dp l c 0<0 then (l.length:Int)+1 else Dp l c 0+1)
noncomputable def Vl(a b:Arr):Arr×Int:=if a.shape.length=1 then (.mk (H8 a b) b.shape (b.cells.map (Ho a.cells)),0) else (.none,5)
noncomputable def Jc(l:List Cell)(c:Cell):Cell:=Be (if 0≤Dp l c 0 then 1 else 0)
noncomputable def Qz(a b:Arr):Arr:= .mk (H8 a b) a.shape (a.cells.map (Jc b.cells))
noncomputable def Pd(l:List Cell):List Cell→Nat→List Cell
 | [],_=>[]
 | c::cs,k=>if Dp (l.take k) c 0<0 then c::Pd l cs (k+1) else Pd l cs (k+1)
def N8(s:Ap)(l:List Cell):Arr:= .mk s [(l.length:Int)] l
noncomputable def AW(a:Arr):Arr×Int:=if 1<a.shape.length then (.none,5) else (N8 (Av a) (Pd a.cells a.cells 0),0)
noncomputable def Gj(l others:List Cell)(in_:Bool):List Cell:=l.filter (fun c=>decide (0≤Dp others c 0)==in_)
noncomputable def Se(a b:Arr)(in_:Bool):Arr×Int:=if 1<a.shape.length then (.none,5) else (N8 (H8 a b) (Gj a.cells b.cells in_),0)
noncomputable def AV(a b:Arr):Arr×Int:=if 1<a.shape.length then (.none,5) else if 1<b.shape.length then (.none,5) else if 2048<a.cells.length+(Gj b.cells a.cells false).length then (.none,7) else (N8 (H8 a b) (a.cells++Gj b.cells a.cells false),0)
def H3(k:Nat):List Int:=(Am9 k).map (fun (i:Nat)=>(i:Int)+1)
def L9(n:Arr):Arr×Int:=if (A8 n).2=0 then (match (A8 n).1 with
 | [k]=>if k<0 then (.none,3) else if 2048<k then (.none,7) else (Dk (H3 k.toNat) (Av n),0)
 | _=>(.none,4)) else (.none,(A8 n).2)
theorem HN(l:List Cell)(s:Ap):Da (Ju l) s=N8 s l:=by simp[Da,Ju,N8]
theorem JG{α:Type}{f:α→D}{z:D}(pre:List α)(x:α)(k:Nat){i:Nat}(hi:i=pre.length):((pre.map f)++Amc (k+1) z).set i (f x)=((pre++[x]).map f)++Amc k z:=by
 subst hi;exact Ld pre x k
theorem Uv(a b:Arr)(ha:Fits a)(hb:Fits b):Sp 182 [dA a,dA b] [dB (H8 a b)]:=by
 refine Af 0 (Adj _ _ _) (Aa (Es a ha) (Aa (Es b hb) ?_))
 simp only[Ah]
 exact Aa (Gb _ _) (Ac rfl)
theorem OE(s:Ap)(sh:List Int)(cs:List Cell)(h:sh.length≤1048576):Sp 181 [dB s,dI sh,.sl (cs.map dC)] [dA (.mk s sh cs)]:=by
 refine Af 0 (Adn _ _ _ _) (Ax (by simp only[B_,Amd,Aj];omega) (Ac ?_))
 rw[Dn];rfl
theorem AcY(hF:Lk){d:Nat}(a b:Arr)(ha:Sml (d+1) a)(hb:Sml (d+1) b)(la:a.cells.length≤2048)(lb:b.cells.length≤2048):Sp 106 [dA a,dA b] [dA (Vl a b).1,.int (Vl a b).2]:=by
 refine Af 4096 (AcZ _ _ _) ?_
 unfold Vl
 simp only[Ah,Cr,Gu]
 refine Ae (fun h=>Ac (by rw[if_neg (by omega)])) (fun h=> ?_)
 rw[if_pos (by omega)]
 obtain ⟨g,hg,hsp⟩:=hF d a.cells ha.cell la
 refine Aa hsp (Ad (Ad (Ax (by simp only[Aj];omega) ?_)))
 have key:=B3 b.cells (fun m k (cs:List D)=>Nn 4096 m (L0 g a.cells) cs (.sl (b.cells.map dC)) (b.cells.length:Int) (k:Int) (dA a) (dA b) 0 0) (fun _ _=>[dA (.mk (H8 a b) b.shape (b.cells.map (Ho a.cells))),.int 0])
  (fun rest cs=>∃ pre:List Cell,b.cells=pre++rest∧cs=(pre.map (Ho a.cells)).map dC++Amc rest.length (dC Cell.none))
  (fun m k cs hk hI=>by
   obtain ⟨pre,h1,rfl⟩:=hI
   rw[Amx]at h1
   simp only[NT,Ah]
   refine Aq (Aa (Uv a b ha.fits hb.fits) ?_)
   simp only[Ah,Amu,List.replicate_zero,Amx]
   exact Aa (OE (H8 a b) b.shape _ hb.1) (Ac (by rw[h1];rfl)))
  (fun m k cs c rest hdr hI ih=>by
   obtain ⟨h1,h2,h3⟩:=Bx hdr
   obtain ⟨pre,hp,rfl⟩:=hI
   have hk:k=(pre.map (Ho a.cells)).length:=by
     have:=congrArg List.length hdr
     rw[hp]at this h1
     simp at this h1 ⊢; omega
   have hcl:((pre.map (Ho a.cells)).map dC++Amc (rest.length+1) (dC Cell.none)).length=b.cells.length:=by rw[hp];simp
   have hpl:=AgD (c:=c) la
   have nxt:Tw (Nn 4096 m (L0 g a.cells) (((pre.map (Ho a.cells)).map dC++Amc (rest.length+1) (dC Cell.none)).set k (dC (Ho a.cells c))) (.sl (b.cells.map dC)) (b.cells.length:Int) ((k+1:Nat):Int) (dA a) (dA b) 0 0) [dA (.mk (H8 a b) b.shape (b.cells.map (Ho a.cells))),.int 0]:=by
     rw[JG (f:=dC) (z:=dC Cell.none) _ _ _ hk]
     exact ih _ ⟨pre++[c],by rw[hp];simp,by simp⟩
   simp only[NT,Ah,As h2,Bb k,Gx,Gv,Gw,List.singleton_append,Amg,hcl]
   refine Ad (Ad (Ad (Aa (U1 g a.cells c hg (hb.cell c (Amh h2)) ha.cell (by omega)) ?_)))
   simp only[Ag,Al]
   refine Ae (fun hlt=> ?_) (fun hlt=> ?_)
   · have w1:Al6 .i64 ((a.cells.length:Int)+1)=(a.cells.length:Int)+1:=At (by omega) (by omega)
     have e1:Ho a.cells c=Be ((a.cells.length:Int)+1):=by unfold Ho;rw[if_pos hlt]
     rw[w1]
     rw[e1]at nxt
     refine Aa (H6 _ (Ez (by omega) (by omega))) (Ad (Ad nxt))
   · have w1:Al6 .i64 (Dp a.cells c 0+1)=Dp a.cells c 0+1:=At (by omega) (by omega)
     have e1:Ho a.cells c=Be (Dp a.cells c 0+1):=by unfold Ho;rw[if_neg hlt]
     rw[w1]
     rw[e1]at nxt
     exact Aa (H6 _ (Ez (by omega) (by omega))) (Ad (Ad nxt)))
  4096 0 (Amc b.cells.length (dC Cell.none)) (by omega) (by omega) ⟨[],by simp,by simp⟩
 exact key
theorem Adc(hF:Lk){d:Nat}(a b:Arr)(ha:Sml (d+1) a)(hb:Sml (d+1) b)(la:a.cells.length≤2048)(lb:b.cells.length≤2048):Sp 107 [dA a,dA b] [dA (Qz a b)]:=by
 refine Af 4096 (Add _ _ _) ?_
 simp only[Ah,Cr,Gu]
 obtain ⟨g,hg,hsp⟩:=hF d b.cells hb.cell lb
 refine Aa hsp (Ad (Ad (Ax (by simp only[Aj];omega) ?_)))
 have key:=B3 a.cells (fun m k (cs:List D)=>No 4096 m (L0 g b.cells) cs (.sl (a.cells.map dC)) (a.cells.length:Int) (k:Int) (dA a) (dA b) 0) (fun _ _=>[dA (Qz a b)])
  (fun rest cs=>∃ pre:List Cell,a.cells=pre++rest∧cs=(pre.map (Jc b.cells)).map dC++Amc rest.length (dC Cell.none))
  (fun m k cs hk hI=>by
   obtain ⟨pre,h1,rfl⟩:=hI
   rw[Amx]at h1
   simp only[NV,Ah]
   refine Aq (Aa (Uv a b ha.fits hb.fits) ?_)
   simp only[Ah,Amu,List.replicate_zero,Amx]
   exact Aa (OE (H8 a b) a.shape _ ha.1) (Ac (by unfold Qz;rw[h1];rfl)))
  (fun m k cs c rest hdr hI ih=>by
   obtain ⟨h1,h2,h3⟩:=Bx hdr
   obtain ⟨pre,hp,rfl⟩:=hI
   have hk:k=(pre.map (Jc b.cells)).length:=by
     have:=congrArg List.length hdr
     rw[hp]at this h1
     simp at this h1 ⊢; omega
   have hcl:((pre.map (Jc b.cells)).map dC++Amc (rest.length+1) (dC Cell.none)).length=a.cells.length:=by rw[hp];simp
   have nxt:Tw (No 4096 m (L0 g b.cells) (((pre.map (Jc b.cells)).map dC++Amc (rest.length+1) (dC Cell.none)).set k (dC (Jc b.cells c))) (.sl (a.cells.map dC)) (a.cells.length:Int) ((k+1:Nat):Int) (dA a) (dA b) 0) [dA (Qz a b)]:=by
     rw[JG (f:=dC) (z:=dC Cell.none) _ _ _ hk]
     exact ih _ ⟨pre++[c],by rw[hp];simp,by simp⟩
   simp only[NV,Ah,As h2,Bb k,Gx,Gv,Gw,List.singleton_append,Amg,hcl]
   refine Ad (Ad (Ad (Aa (U1 g b.cells c hg (ha.cell c (Amh h2)) hb.cell (by omega)) ?_)))
   simp only[Ag,Al]
   refine Ae (fun hlt=> ?_) (fun hlt=> ?_)
   · have e1:Jc b.cells c=Be 1:=by unfold Jc;rw[if_pos hlt]
     rw[e1]at nxt
     exact Aa (H6 _ (Ez (by omega) (by omega))) (Ad (Ad nxt))
   · have e1:Jc b.cells c=Be 0:=by unfold Jc;rw[if_neg hlt]
     rw[e1]at nxt
     exact Aa (H6 _ (Ez (by omega) (by omega))) (Ad (Ad nxt)))
  4096 0 (Amc a.cells.length (dC Cell.none)) (by omega) (by omega) ⟨[],by simp,by simp⟩
 exact key
theorem UA : ∀ (l:List Cell) (c:Cell) (k i:Nat),l[i]? = some c→(Dp l c k=((k+i:Nat):Int)↔Dp (l.take i) c k<0)
 | [],c,k,i,h=>by simp at h
 | x::xs,c,k,0,h=>by
  simp at h
  subst h
  simp[Dp,Aju]
 | x::xs,c,k,i+1,h=>by
  simp only[List.take_succ_cons,Dp]
  have ih:=UA xs c (k+1) i (by simpa using h)
  split
  · constructor <;> intro hh <;> omega
  · rw[← ih,show k+1+i=k+(i+1) by omega]
theorem Adh(hF:Lk){d:Nat}(a:Arr)(ha:Sml (d+1) a)(la:a.cells.length≤2048):Sp 67 [dA a] [dA (AW a).1,.int (AW a).2]:=by
 refine Af 4096 (Adi _ _) ?_
 unfold AW
 simp only[Ah,Cr,Gu]
 refine Ae (fun h=>Ac (by rw[if_pos (by omega)])) (fun h=> ?_)
 rw[if_neg (by omega)]
 obtain ⟨g,hg,hsp⟩:=hF d a.cells ha.cell la
 refine Aa hsp ?_
 have key:=B3 a.cells (fun m k (out:List Cell)=>P8 4096 m (L0 g a.cells) (out.map dC) (.sl (a.cells.map dC)) (a.cells.length:Int) (k:Int) (dA a) 0 0) (fun rest out=>[dA (N8 (Av a) (out++Pd a.cells rest (a.cells.length-rest.length))),.int 0])
  (fun rest out=>out.length+rest.length≤2048∧∀ c∈out,SmlC d c)
  (fun m k out hk hI=>by
   simp only[NX,Ah]
   refine Aq (Aa (M8 out hI.2 (by have:=hI.1;omega)) (Aa (Es a ha.fits) ?_))
   simp only[Ah]
   refine Aa (F1 (Ju out) (Av a)) (Ac ?_)
   simp only[Pd,Amx,Ag]
   rw[HN])
  (fun m k out c rest hdr hI ih=>by
   obtain ⟨h1,h2,h3⟩:=Bx hdr
   have hle:=congrArg List.length hdr
   rw[Amp,Amg]at hle
   have hk:a.cells.length-(c::rest).length=k:=by rw[Amg];omega
   have hk':a.cells.length-rest.length=k+1:=by omega
   have hcm:=Amh h2
   have hpt:=UA a.cells c 0 k h2
   rw[Anl]at hpt
   have hI1:=hI.1
   rw[Amg]at hI1
   simp only[NX,Ah,As h2,Bb k,Gx,Gv,Gw,List.singleton_append]
   refine Ad (Ad (Ad (Aa (U1 g a.cells c hg (ha.cell c hcm) ha.cell (by omega)) ?_)))
   simp only[Ag,Al,hk,Pd]
   refine Ae (fun he=>Ax (by simp only[Amg,Amu,Aj];omega) ?_) (fun he=> ?_)
   · have:=ih (out++[c]) ⟨by simp;omega,fun x hx=>by rcases List.mem_append.1 hx with hx | hx;exact hI.2 x hx;simp at hx;subst hx;exact ha.cell _ hcm⟩
     rw[List.map_append,hk']at this
     rw[if_pos (hpt.1 he)]
     refine Tree.wp_mono this (fun ys hy=>hy.trans ?_)
     simp
   · have:=ih out ⟨by omega,hI.2⟩
     rw[hk']at this
     rw[if_neg (fun hh=>he (hpt.2 hh))]
     exact this)
  4096 0 [] (by omega) (by omega) ⟨by simpa using la,by simp⟩
 simpa using key
theorem Aat{l o:List Cell}{i:Bool} : ∀ c∈Gj l o i,c∈l:=fun c h=>(List.mem_filter.1 h).1
theorem Aas{l o:List Cell}{i:Bool} : (Gj l o i).length≤l.length:=List.length_filter_le _ _
theorem AkQ{l o:List Cell}{c:Cell}{i:Bool}(h:(decide (0≤Dp o c 0)==i)=true):Gj (c::l) o i=c::Gj l o i:=List.filter_cons_of_pos h
theorem AkP{l o:List Cell}{c:Cell}{i:Bool}(h:(decide (0≤Dp o c 0)==i)=false):Gj (c::l) o i=Gj l o i:=List.filter_cons_of_neg (by rw[h];decide)
theorem OG(hF:Lk){d e:Nat}(l o:List Cell)(in_:Bool)(hl : ∀ x∈l,SmlC d x)(ho : ∀ x∈o,SmlC e x)(ll:l.length≤2048)(lo:o.length≤2048):Sp 185 [.sl (l.map dC),.sl (o.map dC),.bool in_] [.sl ((Gj l o in_).map dC)]:=by
 refine Af 4096 (Ado _ _ _ _) ?_
 simp only[Ah]
 obtain ⟨g,hg,hsp⟩:=hF e o ho lo
 refine Aa hsp ?_
 have key:=B3 l (fun m k (out:List Cell)=>Qa 4096 m in_ (L0 g o) (out.map dC) (.sl (l.map dC)) (l.length:Int) (k:Int)) (fun rest out=>[.sl ((out++Gj rest o in_).map dC)]) (fun rest out=>out.length+rest.length≤2048)
  (fun m k out hk hI=>by
   simp only[OF]
   exact Aq (Ac (by simp[Gj])))
  (fun m k out c rest hdr hI ih=>by
   obtain ⟨h1,h2,h3⟩:=Bx hdr
   rw[Amg]at hI
   simp only[OF,Ah,As h2,Bb k,Gx,Gv,Gw,List.singleton_append]
   refine Ad (Ad (Ad (Aa (U1 g o c hg (hl c (Amh h2)) ho (by omega)) ?_)))
   simp only[Ag,Al]
   refine Bu (fun hb=>Ax (by simp only[Amg,Amu,Aj];omega) ?_) (fun hb=> ?_)
   · have:=ih (out++[c]) (by simp;omega)
     rw[List.map_append]at this
     refine Tree.wp_mono this (fun ys hy=>hy.trans ?_)
     rw[AkQ hb]
     simp
   · have:=ih out (by omega)
     refine Tree.wp_mono this (fun ys hy=>hy.trans ?_)
     rw[AkP hb])
  4096 0 [] (by omega) (by omega) (by simpa using ll)
 simpa using key
theorem NW(hF:Lk){d e:Nat}(a b:Arr)(in_:Bool)(ha:Sml (d+1) a)(hb:Sml (e+1) b)(la:a.cells.length≤2048)(lb:b.cells.length≤2048):Sp 109 [dA a,dA b,.bool in_] [dA (Se a b in_).1,.int (Se a b in_).2]:=by
 refine Af 0 (Ade _ _ _ _) ?_
 unfold Se
 simp only[Ah,Cr]
 refine Ae (fun h=>Ac (by rw[if_pos (by omega)])) (fun h=> ?_)
 rw[if_neg (by omega)]
 have hs:=Aas (l:=a.cells) (o:=b.cells) (i:=in_)
 refine Aa (OG hF a.cells b.cells in_ ha.cell hb.cell la lb) (Aa (M8 _ (fun c hc=>ha.cell c (Aat c hc)) (by omega)) (Aa (Uv a b ha.fits hb.fits) ?_))
 simp only[Ah]
 refine Aa (F1 _ (H8 a b)) (Ac ?_)
 rw[Ag,HN]
theorem Adf(hF:Lk){d:Nat}(a b:Arr)(ha:Sml (d+1) a)(hb:Sml (d+1) b)(la:a.cells.length≤2048)(lb:b.cells.length≤2048):Sp 108 [dA a,dA b] [dA (AV a b).1,.int (AV a b).2]:=by
 refine Af 0 (Adg _ _ _) ?_
 unfold AV
 simp only[Ah,Cr,Gu,List.replicate_zero,Anm,Amu]
 refine Ae (fun h=>Ac (by rw[if_pos (by omega)])) (fun h=> ?_)
 rw[if_neg (by omega)]
 refine Ae (fun h=>Ac (by rw[if_pos (by omega)])) (fun h=> ?_)
 rw[if_neg (by omega)]
 have hs:=Aas (l:=b.cells) (o:=a.cells) (i:=false)
 refine Aa (OG hF b.cells a.cells false hb.cell ha.cell lb la) ?_
 simp only[Ah]
 have w1:Al6 .i64 ((a.cells.length:Int)+((Gj b.cells a.cells false).length:Int))=(a.cells.length:Int)+((Gj b.cells a.cells false).length:Int):=At (by omega) (by omega)
 simp only[w1]
 refine Ae (fun h=>Ac (by rw[if_pos (by omega)])) (fun h=> ?_)
 rw[if_neg (by omega)]
 refine Ad (Ad (Ax (by simp only[Aj];omega) (Ax (by simp only[Aj];omega) (Ax (by simp only[Amd,Aj];omega) ?_))))
 rw[← List.map_append]
 refine Aa (M8 _ (fun c hc=>by
  rcases List.mem_append.1 hc with hc | hc
  · exact ha.cell c hc
  · exact hb.cell c (Aat c hc)) (by rw[Amm];omega)) (Aa (Uv a b ha.fits hb.fits) ?_)
 simp only[Ah]
 refine Aa (F1 _ (H8 a b)) (Ac ?_)
 rw[Ag,HN]
theorem Al0(k:Nat):H3 (k+1)=H3 k++[(k:Int)+1]:=by simp[H3,List.range_succ]
theorem KE(k:Nat):(H3 k).length=k:=by simp[H3]
theorem Alz{k:Nat}(h:k≤2048) : ∀ x∈H3 k,Bc x:=fun x hx=>by
 simp only[H3,List.mem_map,List.mem_range]at hx
 obtain ⟨i,hi,rfl⟩:=hx
 exact Ez (by omega) (by omega)
theorem Ahb(l:List Int)(s:Ap):Da (Ju (l.map Be)) s=Dk l s:=by simp[Da,Ju,Dk]
theorem AdG{n:Arr}(h : ¬ (A8 n).1.length=1)(h0:(A8 n).2=0):L9 n=(.none,4):=by
 unfold L9
 rw[if_pos h0]
 split
 · rename_i k hk;rw[hk]at h;exact absurd rfl h
 · rfl
theorem Ada(n:Arr)(hn:Fits n)(hnl:n.cells.length≤2048)(hnt : ∀ c∈n.cells,c.n.top.length≤32):Sp 65 [dA n] [dA (L9 n).1,.int (L9 n).2]:=by
 refine Af 4096 (Adb _ _) (Aa (J0 n hnl hnt) ?_)
 simp only[Ah,Cr,Gu]
 refine Ae (fun h=>Ac (by unfold L9;rw[if_neg h])) (fun h=> ?_)
 have h0:(A8 n).2=0:=Amn.1 h
 refine Ae (fun h1=>Ac (by rw[AdG (by omega) h0])) (fun h1=> ?_)
 obtain ⟨k,hk⟩:=Md (l:=(A8 n).1) (by omega)
 unfold L9
 rw[if_pos h0,hk]
 simp only[Ani,List.map_nil,Amg,Amu,Ag,Al]
 refine Ad (Ad (Ae (fun h2=>Ac (by rw[if_pos h2])) (fun h2=> ?_)))
 rw[if_neg h2]
 refine Ad (Ad (Ae (fun h3=>Ac (by rw[if_pos h3])) (fun h3=> ?_)))
 rw[if_neg h3]
 refine Ad (Ad (Ad (Ad (Ax (by simp only[Aj];omega) ?_))))
 obtain ⟨K,rfl⟩ : ∃ K:Nat,k=(K:Int):=⟨k.toNat,by omega⟩
 simp only[Amj,Anf]
 have key:=Cw K (fun m k (cs:List D)=>Ur 4096 m cs (K:Int) (k:Int) (dA n) 0) (fun _ _=>[dA (Dk (H3 K) (Av n)),.int 0])
  (fun k cs=>cs=((H3 k).map Be).map dC++Amc (K-k) (dC Cell.none))
  (fun m cs hI=>by
   simp only[NU]
   rw[hI,Nat.sub_self,List.replicate_zero,Amx]
   refine Aq (Aa (M8 (d:=0) _ (fun c hc=>by
    obtain ⟨z,hz,rfl⟩:=List.mem_map.1 hc
    exact R_ (Alz (by omega) z hz) 0) (by rw[Amd,KE];omega)) (Aa (Es n hn) ?_))
   simp only[Ah]
   refine Aa (F1 _ (Av n)) (Ac ?_)
   rw[Ag,Ahb])
  (fun m k cs hkK hI ih=>by
   have hcl:cs.length=K:=by rw[hI];simp[KE];omega
   have w1:=Bb k
   simp only[NU,hcl,w1,Amj]
   refine Ad (Aa (H6 _ (Ez (by omega) (by omega))) (Ad (Ad ?_)))
   refine ih _ ?_
   rw[hI,show K-k=(K-(k+1))+1 by omega,Ag,JG (f:=dC) (z:=dC Cell.none) ((H3 k).map Be) (Be ((k+1:Nat):Int)) (K-(k+1)) (by simp[KE]),Al0]
   simp)
  4096 0 (Amc K (dC Cell.none)) (by omega) (by omega) (by simp[H3])
 exact key
open Go.RowKit Go.WideMaps Go.Maps Go.ChangeShapes
theorem PF : ∀ (l:List Cell) (c:Cell) (n:Int) (k:Nat),Di (l++[c]) n k=Di l n k++(if B5 0 c=n then [((k+l.length:Nat):Int)] else [])
 | [],c,n,k=>by simp only[Anm,Di,Amu,Nat.add_zero]
 | x::xs,c,n,k=>by
  simp only[List.cons_append,Di,Amg]
  rw[PF xs c n (k+1),show k+1+xs.length=k+(xs.length+1) by omega]
  split <;> simp
theorem EO : ∀ (l:List Cell) (n:Int) (k:Nat),(∀ c∈l,B5 0 c≠n)→Di l n k = []
 | [],_,_,_=>rfl
 | x::xs,n,k,h=>by
  simp only[Di]
  rw[if_neg (h x (by simp)),EO xs n (k+1) (fun c hc=>h c (by simp[hc]))]
def g0(l:List Cell):List (Int×List Int):=l.map (fun c=>(B5 0 c,Di l (B5 0 c) 0))
theorem EJ(l:List Cell)(n:Int):G0 (g0 l) n=Di l n 0:=by
 have key : ∀ ms:List Cell,G0 (ms.map (fun c=>(B5 0 c,Di l (B5 0 c) 0))) n=if (∃ c∈ms,B5 0 c=n) then Di l n 0 else []:=by
   intro ms
   induction ms with
   | nil=>simp[G0]
   | cons x xs ih =>
    simp only[Ani,G0]
    by_cases h:B5 0 x=n
    · rw[if_pos h,if_pos ⟨x,by simp,h⟩,h]
    · rw[if_neg h,ih]
      by_cases h2 : ∃ c∈xs,B5 0 c=n
      · obtain ⟨c,hc,h3⟩:=h2
        rw[if_pos ⟨c,hc,h3⟩,if_pos ⟨c,by simp[hc],h3⟩]
      · rw[if_neg h2,if_neg (fun ⟨c,hc,h3⟩=>by
         rcases Amw.1 hc with rfl | hc
         · exact h h3
         · exact h2 ⟨c,hc,h3⟩)]
 have:=key l
 unfold g0
 rw[this]
 split
 · rfl
 · rename_i h
   exact (EO l n 0 (fun c hc he=>h ⟨c,hc,he⟩)).symm
def PQ:DataW Unit→List (DataW Unit) | .slice es _=>es | _=>[]
theorem FH{q:IntKind}{a b:List Int}(h:(lits q a:List (DataW Unit))=lits q b):a=b:=by
 unfold lits at h
 exact (List.map_inj_right (fun x y hxy=>by simpa using hxy)).1 h
theorem Jt:Tryz.prog.underlying 22=some (.int .u64):=by kernel_rfl
theorem Pc:Tryz.prog.underlying 173=some (.map 22 23):=by kernel_rfl
theorem AU:Tryz.prog.underlying 23=some (.slice 3):=by kernel_rfl
theorem Qq:Keyed Tryz.prog 22:=int_keyed Jt
theorem BI(w:World):(zeroValue 23).run Tryz.prog w = .ok (.slice none 0 0) w:=by kernel_rfl
theorem EW{n:Int}(h0:0≤n)(h1:n≤18446744073709551615):keyOf Tryz.prog 22 (.int .u64 n)=some (.int .u64 n):=by
 have hb:(Lit.int .u64 n).wf=true:=by
  unfold Lit.wf
  simp only[Ami,decide_eq_true_eq]
  exact ⟨h0,h1⟩
 unfold keyOf
 rw[Jt]
 simp only[mapKey,Jt]
 simp[hb]
theorem PZ{v:Value}{kl:Lit}(h:keyOf Tryz.prog 22 v=some kl) : ∃ n:Int,v = .int .u64 n∧0≤n∧n≤18446744073709551615∧kl = .int .u64 n:=by
 unfold keyOf at h
 rw[Jt]at h
 simp only[mapKey,Jt]at h
 cases v <;> simp only[reduceCtorEq]at h
 rename_i q n
 split at h
 · rename_i hc
   obtain ⟨rfl,hw⟩:=hc
   unfold Lit.wf at hw
   simp only[Ami,decide_eq_true_eq]at hw
   injection h with h
   exact ⟨n,rfl,hw.1,hw.2,h.symm⟩
 · cases h
theorem Kz{w:World}{o:Obj}{b:Nat}{z:Obj}(h:w.heap[b]? = some z):(w.alloc o).heap[b]? = some z:=(heap_alloc_old w o (Am8.1 h).1).trans h
structure FI (w:World) (l:List Cell) (A:Option Addr) (c k:Nat) (wr:World):Prop where
 groups : ∃ D,wr.ownsGroups (H:=Unit) Tryz.prog 22 (w.heap.size+3) 3 .i64 (w.heap.size+1) k D∧∀ n:Int,0≤n→n<18446744073709551616→PQ (D.atKey (.int .u64 n) .nil)=lits .i64 (Di (l.take k) n 0)
 below:Below w.heap.size w wr
 lbox:wr.heap[w.heap.size]? = some (.cells #[.slice A l.length c] 24 (0,0))
 mbox:wr.heap[w.heap.size+2]? = some (.cells #[.map (some (w.heap.size+1))] 173 (0,0))
 size:w.heap.size+3≤wr.heap.size
theorem EU{w:World}{base:Nat}{e:TypeId}{v:Value}{zs:List Int}(h:w.ownsInts base e .i64 v zs):PQ (rowDatum .i64 v zs)=lits .i64 zs:=by
 rcases h.datum (H:=Unit) with ⟨h1,h2⟩ | h1
 · rw[h1,h2];rfl
 · rw[h1];rfl
theorem Ad5{w w':World}{base b n:Nat}{D:DataW Unit}(h:w.ownsGroups Tryz.prog 22 base 3 .i64 b n D)(hx:Ext w w'):w'.ownsGroups Tryz.prog 22 base 3 .i64 b n D:=by
 obtain ⟨es,clock,hb,F,hs,rfl,hbb,hlen,hap⟩:=h
 have hg:w.grownBy w' none:=⟨hx.os,hx.tape,hx.output,hx.size,fun k hk _=>hx.block k hk⟩
 have hk : ∀ {v:Value} {zs:List Int},w.ownsInts base 3 .i64 v zs→w'.ownsInts base 3 .i64 v zs:=fun ho=>ho.kept hg (by cases hv:Value.ownBlock _ with | none=>exact .inl rfl | some g=>exact .inr (by simp))
 obtain ⟨F2,hmap,_⟩:=F.stay (R':=rowElem w' base 3 .i64) (fun x _ z hz=>by
  obtain ⟨zs,ho,rfl⟩:=rowElem_inv hz
  exact rowElem_mk (hk ho))
 refine ⟨es,clock,(hx.block b (Am8.1 hb).1).trans hb,F2,hs,by rw[hmap],hbb,fun x hx' zs ho=> ?_,hap⟩
 obtain ⟨y,hy⟩:=F.reads x hx'
 obtain ⟨z,hz,_⟩:=Go.WideElems.rd_val hy
 obtain ⟨zs',ho',_⟩:=rowElem_inv hz
 rw[ho.unique (hk ho')]
 exact hlen x hx' zs' ho'
theorem FI.ext {w wr w':World} {l:List Cell} {A:Option Addr} {c k:Nat} (h:FI w l A c k wr) (hx:Ext wr w'):FI w l A c k w':=by
 obtain ⟨⟨D,h1,h2⟩,h3,h4,h5,h6⟩:=h
 have hs:=hx.size
 exact ⟨⟨D,Ad5 h1 hx,h2⟩,Below.trans h3 (Below.mono hx (by omega)),(hx.block _ (by omega)).trans h4,(hx.block _ (by omega)).trans h5,by omega⟩
theorem FI.look {w wr:World} {l:List Cell} {A:Option Addr} {c k:Nat} (h:FI w l A c k wr) (hk:k<l.length) (hlen:l.length≤2048) (h0:0≤B5 0 l[k]) (h1:B5 0 l[k]≤18446744073709551615) :
   ∃ (es:Array MapEntry) (clk:Nat) (v:Value) (zs:List Int),wr.heap[w.heap.size+1]? = some (.map es clk)∧(∀ y:World,y.heap[w.heap.size+1]? = some (.map es clk)→(Instr.lookup 173 (.map (some (w.heap.size+1))) (.int .u64 (B5 0 l[k])) false).run Tryz.prog y = .ok v y)∧wr.ownsInts (w.heap.size+3) 3 .i64 v zs∧zs.length≤k ∧
     ∀ (wc:World) (v':Value),wr.grownBy wc v.ownBlock→wc.ownsInts (w.heap.size+3) 3 .i64 v' (zs++[(k:Int)])→(v'.ownBlock=v.ownBlock∨∃ g,v'.ownBlock=some g∧wr.heap.size≤g)→∃ w2,(Instr.mapUpdate 173 (.map (some (w.heap.size+1))) (.int .u64 (B5 0 l[k])) v').run Tryz.prog wc = .ok () w2∧FI w l A c (k+1) w2:=by
 obtain ⟨⟨D,hg,hD⟩,hbel,hbox,mbox,hsz⟩:=h
 have hkey:=EW h0 h1
 obtain ⟨v,zs,hrun,hat,ho,hzl,hback⟩:=hg.at Qq Pc (BI wr) (by unfold maxLen;omega) hkey
 have hg':=hg
 obtain ⟨es,clk,hb,F,_,hDm,_,_,_⟩:=hg
 have hzs:zs=Di (l.take k) (B5 0 l[k]) 0:=by
   have:=hD (B5 0 l[k]) h0 (by omega)
   rw[hat,EU ho]at this
   exact FH this
 have hks : ∀ x∈es.toList,∃ m,x.key = .int .u64 m:=fun x hx=>by
   obtain ⟨y,hy⟩:=F.reads x hx
   obtain ⟨n,hn,_⟩:=PZ (Go.WideElems.rd_key hy)
   exact ⟨n,hn⟩
 have lk : ∀ y:World,y.heap[w.heap.size+1]? = some (.map es clk)→∃ u,(∀ y':World,y'.heap[w.heap.size+1]? = some (.map es clk)→(Instr.lookup 173 (.map (some (w.heap.size+1))) (.int .u64 (B5 0 l[k])) false).run Tryz.prog y' = .ok u y'):=by
   intro y hy
   rcases DQ (q':= .u64) (n:=B5 0 l[k]) es.toList 0 hks with ⟨f1,f2⟩ | ⟨j,ex,f1,f2,f3⟩
   · refine ⟨.slice none 0 0,fun y' hy'=> ?_⟩
     unfold Instr.lookup
     have hck:=fun em=>Zg (P:=Tryz.prog) (w:=y') em 9999 (q':= .u64) (i:=B5 0 l[k]) Jt
     simp[run_underlying Pc,run_underlying Jt,Zh hy',hck,Instr.findKey,f1,BI y']
   · refine ⟨ex.val,fun y' hy'=> ?_⟩
     unfold Instr.lookup
     have hck:=fun em=>Zg (P:=Tryz.prog) (w:=y') em 9999 (q':= .u64) (i:=B5 0 l[k]) Jt
     simp[run_underlying Pc,run_underlying Jt,Zh hy',hck,Instr.findKey,f1]
 obtain ⟨u,hu⟩:=lk wr hb
 have huv:u=v:=by
   have:=hu wr hb
   rw[hrun]at this
   injection this with this
   exact this.symm
 subst huv
 refine ⟨es,clk,u,zs,hb,hu,ho,hzl,fun wc v' hgr hown' hloc=> ?_⟩
 obtain ⟨w2,hmu,hown2,hgr2⟩:=hback wc v' (zs++[(k:Int)]) hgr hown' (by simp;omega) hloc
 have hvb : ∀ j,u.ownBlock=some j→w.heap.size+3≤j:=fun j hj=>(ho.1.lt j hj).1
 have far : ∀ b,b<wr.heap.size→b<w.heap.size+3→b≠w.heap.size+1→w2.heap[b]? = wr.heap[b]? := fun b hb1 hb2 hb3=>by
   have hs:=hgr.size
   rw[hgr2.block b (by omega) (by simp;omega),hgr.block b hb1 (fun e=>by have:=hvb b e.symm;omega)]
 refine ⟨w2,hmu,⟨_,hown2,fun n hn0 hn1=> ?_⟩,?_,(far _ (by omega) (by omega) (by omega)).trans hbox,(far _ (by omega) (by omega) (by omega)).trans mbox,by have:=hgr.size;have:=hgr2.size;omega⟩
 · rw[List.take_add_one,Amb hk]
   show _=lits .i64 (Di (l.take k++[l[k]]) n 0)
   rw[PF,Amr,Nat.min_eq_left (by omega),Anl]
   have hmk:WideAt.IsKeyLit (.int .u64 (B5 0 l[k])):=Qq.key hkey
   by_cases he:B5 0 l[k]=n
   · subst he
     rw[if_pos rfl,atKey_put_same ⟨_,hDm⟩ hmk,EU hown',hzs]
   · rw[if_neg he,Amx,atKey_put_other (fun e=>he (by injection e with _ e;exact e.symm))]
     exact hD n hn0 hn1
 · exact hbel.groups ho hgr hgr2 (by omega) (by omega) (by omega)
theorem Ae3{d:Nat}{x:Cell}{u:Value}{W:World}(hx:SmlC d x)(h:Rd Tryz.prog md W (fun _=>False) (.ty 67) (dC x) u):Calls Tryz.prog 215 #[.int .u64 0,u] W (fun e w'=>e = .returned (.int .u64 (B5 0 x))∧(0≤B5 0 x∧B5 0 x≤18446744073709551615)∧Ext W w'):=by
 have hps:Tryz.f215.params.toList = [22,67]:=by kernel_rfl
 have ht:Tryz.prog.underlying 22=some (.int .u64):=by kernel_rfl
 exact JR (vs:=[.int .u64 0,u]) (QV d x 0 hx) Tryz.func215 (by kernel_rfl) (fun b hb=>hb.elim) (by kernel_rfl) (by kernel_rfl) (Oq hps (Ou ht (by kernel_rfl) (by kernel_rfl) (by decide) (by decide)) h) (t:=22) (by kernel_rfl) ht
section
variable {w:World} {M:Nat→Prop} {t:Nat} {x:D} {c:Nat→Option Value}
theorem IB{k:IntKind}(h:RdC Tryz.prog md w M (.ty t) x c)(ht:Tryz.prog.underlying t=some (.int k)) : ∃ n,c 0=some (.int k n):=by
 cases h with
 | int ht' h1 h2 hc =>
  have:Tryz.prog.underlying t=_:=ht'
  rw[ht]at this
  injection this with this;injection this with this;subst this
  exact ⟨_,hc⟩
 | bool ht'=>have:Tryz.prog.underlying t=_:=ht';rw[ht]at this;cases this
 | str ht'=>have:Tryz.prog.underlying t=_:=ht';rw[ht]at this;cases this
 | sl ht'=>have:Tryz.prog.underlying t=_:=ht';rw[ht]at this;cases this
 | fn ht'=>have:Tryz.prog.underlying t=_:=ht';rw[ht]at this;cases this
 | ref ht'=>have:Tryz.prog.underlying t=_:=ht';rw[ht]at this;cases this
 | mp ht'=>have:Tryz.prog.underlying t=_:=ht';rw[ht]at this;cases this
 | struct hf=>obtain ⟨⟨a,ha,_⟩,_⟩:=Cl hf;rw[ht]at ha;cases ha
theorem AhC(h:RdC Tryz.prog md w M (.ty t) x c)(ht:Tryz.prog.underlying t=some .bool) : ∃ b,c 0=some (.bool b):=by
 cases h with
 | bool ht' hc=>exact ⟨_,hc⟩
 | int ht'=>have:Tryz.prog.underlying t=_:=ht';rw[ht]at this;cases this
 | str ht'=>have:Tryz.prog.underlying t=_:=ht';rw[ht]at this;cases this
 | sl ht'=>have:Tryz.prog.underlying t=_:=ht';rw[ht]at this;cases this
 | fn ht'=>have:Tryz.prog.underlying t=_:=ht';rw[ht]at this;cases this
 | ref ht'=>have:Tryz.prog.underlying t=_:=ht';rw[ht]at this;cases this
 | mp ht'=>have:Tryz.prog.underlying t=_:=ht';rw[ht]at this;cases this
 | struct hf=>obtain ⟨⟨a,ha,_⟩,_⟩:=Cl hf;rw[ht]at ha;cases ha
theorem IC{e:Nat}(h:RdC Tryz.prog md w M (.ty t) x c)(ht:Tryz.prog.underlying t=some (.slice e)) : ∃ A n m,c 0=some (.slice A n m):=by
 cases h with
 | sl ht' hc=>exact ⟨_,_,_,hc⟩
 | struct hf=>obtain ⟨⟨a,ha,_⟩,_⟩:=Cl hf;rw[ht]at ha;cases ha
 | int ht'=>have:Tryz.prog.underlying t=_:=ht';rw[ht]at this;cases this
 | bool ht'=>have:Tryz.prog.underlying t=_:=ht';rw[ht]at this;cases this
 | str ht'=>have:Tryz.prog.underlying t=_:=ht';rw[ht]at this;cases this
 | fn ht'=>have:Tryz.prog.underlying t=_:=ht';rw[ht]at this;cases this
 | ref ht'=>have:Tryz.prog.underlying t=_:=ht';rw[ht]at this;cases this
 | mp ht'=>have:Tryz.prog.underlying t=_:=ht';rw[ht]at this;cases this
end
theorem Ky{t:Nat}{l:List (Nat×Nat)}(h:(Cz Tryz.prog t).map (fun fs=>fs.map (fun f=>(f.type,f.offset)))=some l){i ft o:Nat}(hi:l[i]? = some (ft,o)){w:World}{M:Nat→Prop}{x:D}{c:Nat→Option Value}(hr:RdC Tryz.prog md w M (.ty t) x c):RdC Tryz.prog md w M (.ty ft) (x.fld i) (fun j=>c (o+j)):=by
 obtain ⟨fs,hf,rfl⟩:=Amq.1 h
 rw[Ams,Amq]at hi
 obtain ⟨f,h1,h2⟩:=hi
 injection h2 with h2 h3
 subst h2
 subst h3
 exact Rl hr hf h1
theorem Qb:(Cz Tryz.prog 67).map (fun fs=>fs.map (fun f=>(f.type,f.offset)))=some [(22,0),(3,1),(64,2),(3,5),(65,6)]:=by kernel_rfl
theorem DZ:(Cz Tryz.prog 64).map (fun fs=>fs.map (fun f=>(f.type,f.offset)))=some [(4,0),(62,1),(62,2)]:=by kernel_rfl
theorem AbT{w:World}{M:Nat→Prop}{x:D}{c:Nat→Option Value}(h:RdC Tryz.prog md w M (.ty 67) x c) : ∃ n0 n1 b A3 k3 m3 A4 k4 m4 n5 A6 k6 m6,c 0=some (.int .u64 n0)∧c 1=some (.int .i64 n1)∧c 2=some (.bool b)∧c 3=some (.slice A3 k3 m3)∧c 4=some (.slice A4 k4 m4)∧c 5=some (.int .i64 n5)∧c 6=some (.slice A6 k6 m6):=by
 obtain ⟨n0,h0⟩:=IB (Ky Qb (i:=0) rfl h) (k:= .u64) (by kernel_rfl)
 obtain ⟨n1,h1⟩:=IB (Ky Qb (i:=1) rfl h) (k:= .i64) (by kernel_rfl)
 have hn:=Ky Qb (i:=2) rfl h
 obtain ⟨b,h2⟩:=AhC (Ky DZ (i:=0) rfl hn) (by kernel_rfl)
 obtain ⟨A3,k3,m3,h3⟩:=IC (Ky DZ (i:=1) rfl hn) (e:=180) (by kernel_rfl)
 obtain ⟨A4,k4,m4,h4⟩:=IC (Ky DZ (i:=2) rfl hn) (e:=180) (by kernel_rfl)
 obtain ⟨n5,h5⟩:=IB (Ky Qb (i:=3) rfl h) (k:= .i64) (by kernel_rfl)
 obtain ⟨A6,k6,m6,h6⟩:=IC (Ky Qb (i:=4) rfl h) (e:=26) (by kernel_rfl)
 exact ⟨n0,n1,b,A3,k3,m3,A4,k4,m4,n5,A6,k6,m6,h0,h1,h2,h3,h4,h5,h6⟩
structure CellAt (wr:World) (bk o:Nat) (x:Cell) (u0 u1 u2 u3 u4 u5 u6:Value):Prop where
 c0:wr.cell? ⟨bk,o,none⟩=some u0
 c1:wr.cell? ⟨bk,o+1,none⟩=some u1
 c2:wr.cell? ⟨bk,o+2,none⟩=some u2
 c3:wr.cell? ⟨bk,o+3,none⟩=some u3
 c4:wr.cell? ⟨bk,o+4,none⟩=some u4
 c5:wr.cell? ⟨bk,o+5,none⟩=some u5
 c6:wr.cell? ⟨bk,o+6,none⟩=some u6
 rd:Rd Tryz.prog md wr (fun _=>False) (.ty 67) (dC x) (.agg #[u0,u1,u2,u3,u4,u5,u6])
theorem Aep{M:Nat→Prop}{l:List Cell}{A:Option Addr}{c:Nat}{w:World}(h:Rd Tryz.prog md w M (.ty 24) (.sl (l.map dC)) (.slice A l.length c)){k:Nat}(hk:k<l.length) : ∃ bk off,A=some ⟨bk,off,none⟩∧bk<w.heap.size∧∀ wr,Below w.heap.size w wr→w.heap.size≤wr.heap.size →
  ∃ n0 n1 b A3 k3 m3 A4 k4 m4 n5 A6 k6 m6,CellAt wr bk (off+k*7) l[k] (.int .u64 n0) (.int .i64 n1) (.bool b) (.slice A3 k3 m3) (.slice A4 k4 m4) (.int .i64 n5) (.slice A6 k6 m6):=by
 have h7:Tryz.prog.cellsOf 67=7:=by kernel_rfl
 obtain ⟨h1,h2,h3⟩:=h
 cases h1 with
 | @sl _ e _ _ A' cap bk off ht hc h4 h5 hA hh =>
  have he:e=67:=by
   have:Tryz.prog.underlying 24=some (.slice e):=ht
   rw[show Tryz.prog.underlying 24=some (.slice 67) by kernel_rfl]at this
   injection this with this;injection this with this;exact this.symm
  subst he
  have hv:Value.slice A l.length c = .slice A' (l.map dC).length cap:=by simpa [Value.cells]using hc
  injection hv with e1 e2 e3
  subst e1
  obtain ⟨a1,a2,a3⟩:=hA (fun e=>by rw[List.map_eq_nil_iff.1 e]at hk;simp at hk)
  refine ⟨bk,off,a1,a3,fun wr hb hsz=> ?_⟩
  have hr:=hh k (dC l[k]) (by rw[Ams,Amb hk];rfl)
  rw[h7]at hr
  have hpos:0<(CT.ty 67).size Tryz.prog:=by show 0<Tryz.prog.cellsOf _;omega
  have hr':RdC Tryz.prog md wr (fun _=>False) (.ty 67) (dC l[k]) (fun j=>wr.cell? ⟨bk,off+k*7+j,none⟩):=by
   have:=hr.mono (w':=wr) (M':=fun _=>False) hsz (fun b _ hlt=>hb.block b hlt) (fun b hf _=>hf.elim)
   refine this.congr (fun j _=> ?_) hpos
   rw[Nat.add_assoc,Ti (hb.block bk a3)]
  obtain ⟨n0,n1,b,A3,k3,m3,A4,k4,m4,n5,A6,k6,m6,c0,c1,c2,c3,c4,c5,c6⟩:=AbT hr'
  refine ⟨n0,n1,b,A3,k3,m3,A4,k4,m4,n5,A6,k6,m6,c0,c1,c2,c3,c4,c5,c6,?_,h7.symm,by kernel_rfl⟩
  refine hr'.congr (fun j hj=> ?_) hpos
  have hj:j<7:=by
   have:j<Tryz.prog.cellsOf 67:=hj
   omega
  match j,hj with
  | 0,_=>exact c0.symm
  | 1,_=>exact c1.symm
  | 2,_=>exact c2.symm
  | 3,_=>exact c3.symm
  | 4,_=>exact c4.symm
  | 5,_=>exact c5.symm
  | 6,_=>exact c6.symm
theorem AdA(bk off n c k:Nat)(hk:k<n)(w:World):(Instr.indexAt 24 (.slice (some ⟨bk,off,none⟩) n c) (.int .i64 k)).run Tryz.prog w = .ok (.pointer (some ⟨bk,off+k*7,none⟩)) w:=by
 have hu:Tryz.prog.underlying 24=some (.slice 67):=by kernel_rfl
 have h7:Tryz.prog.cellsOf 67=7:=by kernel_rfl
 have hcond:0≤(k:Int)∧(k:Int)<((n:Nat):Int):=by omega
 simp[Instr.indexAt,asIntOf,run_underlying hu,hcond,hk,Gh (P:=Tryz.prog) (t:=67) (by omega),h7,Addr.add_lit]
def AaZ(w:World)(l:List Cell)(A:Option Addr)(c:Nat)(e:Ending)(w':World):Prop:=e = .returned (.func (.func 216) #[] #[.pointer (some ⟨w.heap.size+1+1,0,none⟩),.pointer (some ⟨w.heap.size,0,none⟩)])∧FI w l A c l.length w'
theorem FI.start (w:World) (l:List Cell) (A:Option Addr) (c:Nat):FI w l A c 0 (((w.alloc (.cells #[.slice A l.length c] 24)).alloc (.map #[] 0)).alloc (.cells #[.map (some (w.heap.size+1))] 173)):=by
 have h1:((w.alloc (.cells #[.slice A l.length c] 24)).alloc (.map #[] 0)).heap[w.heap.size+1]? = some (.map #[] 0):=by
  have:=heap_alloc_new (w.alloc (.cells #[.slice A l.length c] 24)) (.map #[] 0)
  simpa using this
 have h0:(w.alloc (.cells #[.slice A l.length c] 24)).heap[w.heap.size]? = some (.cells #[.slice A l.length c] 24 (0,0)):=heap_alloc_new w _
 refine ⟨⟨.map [],⟨#[],0,Kz h1,⟨by simp,Go.MapKept.stamped_empty 0,by simp⟩,Amo _,rfl,by omega,by simp,by simp⟩,fun n _ _=>rfl⟩,((Below.refl _ _).alloc (Amo _) _ |>.alloc (by simp) _ |>.alloc (by simp;omega) _),Kz (Kz h0),?_,by simp⟩
 have:=heap_alloc_new ((w.alloc (.cells #[.slice A l.length c] 24)).alloc (.map #[] 0)) (.cells #[.map (some (w.heap.size+1))] 173)
 simpa using this
set_option maxHeartbeats 1000000 in
theorem Adp{M:Nat→Prop}(l:List Cell)(hl : ∀ x∈l,∃ d,SmlC d x)(hlen:l.length≤2048)(A:Option Addr)(c:Nat)(w:World)(hrd:Rd Tryz.prog md w M (.ty 24) (.sl (l.map dC)) (.slice A l.length c)) :
  Calls Tryz.prog 152 #[.slice A l.length c] w (AaZ w l A c):=by
 have hmm:= @run_makeMap Tryz.prog
 have HRD:=Lib.hid hrd
 clear hrd
 have HLL:=Lib.hid hl
 clear hl
 go_enter Tryz.func152,Tryz.ntmps152
 go_wp2_with fail
 go_loopw [10] (fun iv wr=>∃ k:Nat,k≤l.length∧iv = .int .i64 k∧FI w l A c k wr) (fun iv _=>l.length-(intOf iv).toNat)
 case atStart=>exact ⟨0,Nat.zero_le _,rfl,FI.start w l A c⟩
 case round =>
  obtain ⟨k,hk,rfl,HF⟩:=hrel
  by_cases hlt:k<l.length
  · obtain ⟨bk,off,rfl,hbk,hcell⟩:=Aep HRD.out hlt
    obtain ⟨n0,n1,b,A3,k3,m3,A4,k4,m4,n5,A6,k6,m6,hca⟩:=hcell wr HF.below (by have:=HF.size;omega)
    clear hcell
    have hc0:=hca.c0
    have hc1:=hca.c1
    have hc2:=hca.c2
    have hc3:=hca.c3
    have hc4:=hca.c4
    have hc5:=hca.c5
    have hc6:=hca.c6
    have HRU:=Lib.hid hca
    clear hca
    obtain ⟨d,hsx⟩:=HLL.out l[k] (Anh hlt)
    have HSX:=Lib.hid hsx
    clear hsx
    have HIX:=AdA bk off l.length c k hlt
    have HFH:=Lib.hid HF
    clear HF
    go_wp2_with (first
      | (go_at_call 215;refine (Ae3 HSX.out ?_).mono ?_;rotate_left;rintro e w1 ⟨rfl,hb1,hx1⟩))
    · have hfi:=HFH.out.ext (Ext.trans ((Ext.refl wr).alloc _) hx1)
      obtain ⟨es,clk,v,zs,hb,hu,ho,hzl,hnext⟩:=hfi.look hlt hlen hb1.1 hb1.2
      have hsz1:=hfi.size
      have hmb0:=hfi.mbox
      have hvb : ∀ j,v.ownBlock=some j→w.heap.size+3≤j:=fun j hj=>(ho.1.lt j hj).1
      have KS : ∀ y:World,y.heap[w.heap.size+2]? = some (.cells #[.map (some (w.heap.size+1))] 173 (0,0))→y.heap[w.heap.size+2]? = some (.cells #[.map (some (w.heap.size+1))] 173 (0,0))∧y.cell? ⟨w.heap.size+1+1,0,none⟩=some (.map (some (w.heap.size+1))):=by
       intro y h2
       refine ⟨h2,?_⟩
       unfold World.cell?
       simp[h2]
      have hlk1:=hu w1 hb
      have hlk2:=hu w1.drew hb
      have hlk3:=hu (w1.alloc (.cells #[.int .i64 k] 3)) (Kz hb)
      have hlk4:=hu (w1.alloc (.cells #[.int .i64 k] 3)).drew (Kz hb)
      have hlk5:=hu (w1.drew.alloc (.cells #[.int .i64 k] 3)) (Kz (w:=w1.drew) hb)
      have hinfo : ∃ i0,Tryz.prog.info? 3=some i0∧i0.zero=some (.int .i64 0)∧i0.size=1∧i0.bytes=8:=info_parts (P:=Tryz.prog) (e:=3) (z:= .int .i64 0) (size:=1) (bytes:=8) (by kernel_rfl)
      obtain ⟨i0,hi0,hz0,hz1,hz2⟩:=hinfo
      obtain ⟨_,hcell1⟩:=KS w1 hmb0
      have GD : ∀ {x y:World} {r:Option Nat},x.drew.grownBy y r→x.grownBy y r:=fun h=>⟨h.os,h.tape,h.output,h.size,h.block⟩
      have WFK:(Lit.int .i64 (k:Int)).wf=true:=WalkArith.wf_i64 (by omega)
      go_region_held3 (fun y=>y.heap[w.heap.size+2]? = some (.cells #[.map (some (w.heap.size+1))] 173 (0,0))∧y.cell? ⟨w.heap.size+1+1,0,none⟩=some (.map (some (w.heap.size+1))))
       ((go_split_ands;first | (refine ⟨?_,?_⟩ <;> assumption) | exact KS _ hfi5.mbox | exact KS _ (by assumption) | exact KS _ (Kz (by assumption)) | exact KS _ ((hgrow.block _ (by simp;omega) (by intro e;have:=hvb _ e.symm;omega)).trans (by first | assumption | exact Kz (by assumption)))))
       ((refine step_append_lies _ (by rfl) _ _ _ (by rfl) (w.heap.size+3) 3 i0 _ 1 8 AU hi0 hz0 hz1 hz2 rfl (by omega) v zs.length (zs.map (Value.int .i64)) (by rfl) ((ho.1.alloc _).drew) ⟨w1.heap.size,0,none⟩ 1 1 [.int .i64 k] (by rfl) (by rfl) (World.news_of_block (cs:= #[.int .i64 k]) (t:=3) (fr:=(0,0)) (heap_alloc_new w1 _)) (by simp[Value.oneCell']) (by omega) (by unfold maxLen;omega) (by omega) (by simp;omega) (w1.heap.size+1) (by simp) ?_;intro gg cap w4 hown4 hgrow hat hlt4;obtain ⟨w5,hmu,hfi5⟩:=hnext w4 _ ((World.grownBy_alloc w1 _ _).trans (GD hgrow)) (ho.appended hown4 WFK) (hat.imp (fun h=>h.symm) (fun h=>⟨gg,rfl,by omega⟩))))
      all_goals
       go_wp2_with fail
       go_roundw
       · exact ⟨k+1,by omega,by go_num,hfi5⟩
       · simp[intOf];omega
    · exact Jh HRU.out.rd ((Ext.refl wr).alloc _) (fun b hb _=>hb)
  · have hkn:k=l.length:=by omega
    subst hkn
    go_wp2_with fail
    go_ret
    exact ⟨rfl,HF⟩
theorem FM(k n:Int):0≤Fc k n∧Fc k n≤18446744073709551615:=by
 unfold Fc Bm
 simp only
 rw[IntKind.wrap_u64]
 omega
def Hw(k:Int):Prop:=0≤k∧k≤18446744073709551615
theorem Qc{α:Type}{f:Int→α→Int} : ∀ {l:List α} {k:Int},Hw k→(∀ x∈l,∀ k,Hw k→Hw (f k x))→Hw (l.foldl f k)
 | [],_,h,_=>h
 | x::xs,k,h,hf=>by
  rw[List.foldl_cons]
  exact Qc (l:=xs) (hf x (by simp) k h) (fun y hy=>hf y (List.mem_cons_of_mem _ hy))
theorem QS{c:Cell}{k:Int}(h : ∀ x∈c.inn,∀ k,Hw k→Hw (Fb k x)):Hw (B5 k c):=by
 rw[N9]
 refine Qc ?_ h
 have h1 : ∀ (l:List Ao) {k:Int},Hw k→Hw (Ij k l):=fun l k hk=>Qc hk (fun x _ k _=>FM _ _)
 refine h1 _ (h1 _ ?_)
 split <;> exact FM _ _
theorem Ae0(a:Arr) : ∀ k,Hw k→Hw (Fb k a):=by
 induction a using Arr.ind with
 | h s sh cs IH =>
  intro k hk
  rw[V4]
  exact Qc (Qc hk (fun x _ k _=>FM _ _)) (fun c hc k _=>QS (IH c hc))
theorem Ae2(c:Cell)(k:Int):Hw (B5 k c):=QS (fun x _=>Ae0 x)
theorem TF{α:Type}{f:α→Lit×DataW Unit} : ∀ {l:List α} {x y:α},(l.map f).Pairwise (fun p q=>p.1≠q.1)→x∈l→y∈l→(f x).1=(f y).1→x=y
 | [],x,y,_,hx,_,_=>by cases hx
 | a::l,x,y,h,hx,hy,he=>by
  rw[Ani,List.pairwise_cons]at h
  rcases Amw.1 hx with e1 | hx1 <;> rcases Amw.1 hy with e2 | hy1
  · rw[e1,e2]
  · rw[e1]at he;exact absurd he (h.1 _ (List.mem_map.2 ⟨y,hy1,rfl⟩))
  · rw[e2]at he;exact absurd he.symm (h.1 _ (List.mem_map.2 ⟨x,hx1,rfl⟩))
  · exact TF h.2 hx1 hy1 he
theorem Ah_{w:World}{M:Nat→Prop}{base:Nat}{v:Value}{zs:List Int}(h:w.ownsInts base 3 .i64 v zs)(hM : ∀ b,M b→b<base):RdC Tryz.prog md w M (.ty 23) (.sl (zs.map .int)) (fun j=>v.cells[j]?)∧C9 v=false:=by
 have hc1:Tryz.prog.cellsOf 3=1:=by kernel_rfl
 have hti:Tryz.prog.underlying 3=some (.int .i64):=by kernel_rfl
 obtain ⟨hrow,hwf⟩:=h
 rcases hrow.2 with ⟨rfl,h0⟩ | ⟨g,cap,cur,rfl,hbg,hg,hnc,hcm,hcs,htake⟩
 · have:zs = []:=Am1.1 h0
   subst this
   exact ⟨.sl (t:= .ty _) (e:=3) (A:=none) (cap:=0) (bk:=0) (off:=0) AU rfl (by simp) (by simp) (fun hne=>absurd rfl hne) (fun i x hx=>by simp at hx),rfl⟩
 · have hcell:=hrow.cells (g:=g) rfl
   refine ⟨.sl (t:= .ty _) (e:=3) (A:=some ⟨g,0,none⟩) (cap:=cap) (bk:=g) (off:=0) AU (by simp[Value.cells]) (by simpa using hnc) hcm (fun _=>⟨rfl,fun hm=>by have:=hM g hm;omega,(Am8.1 hg).1⟩) (fun i x hx=> ?_),rfl⟩
   rw[Ams,Amq]at hx
   obtain ⟨z,hz,rfl⟩:=hx
   have hw:=hwf z (Amh hz)
   unfold Lit.wf at hw
   simp only[Ami,decide_eq_true_eq]at hw
   have:=hcell i (.int .i64 z) (by rw[Ams,hz];rfl)
   have ea:(⟨g,0,none⟩:Addr).add i=⟨g,0+i,none⟩:=by unfold Addr.add;split <;> simp_all
   rw[ea]at this
   exact .int (t:= .ty _) (k:= .i64) hti hw.1 hw.2 (by rw[hc1];simpa using this)
theorem FI.map_rd {w w':World} {M:Nat→Prop} {l:List Cell} {A:Option Addr} {c:Nat} (h:FI w l A c l.length w') (hM : ∀ b,M b→b<w.heap.size):RdC Tryz.prog md w' M (.ty 173) (.mp (g0 l)) (fun j=>w'.cell? ⟨w.heap.size+1+1,0+j,none⟩):=by
 obtain ⟨⟨D,hg,hD⟩,_,_,mbox,hsz⟩:=h
 obtain ⟨es,clk,hb,F,_,rfl,_,_,_⟩:=hg
 have hks : ∀ x∈es.toList,∃ n:Int,x.key = .int .u64 n∧0≤n∧n≤18446744073709551615:=fun x hx=>by
   obtain ⟨y,hy⟩:=F.reads x hx
   obtain ⟨n,hn,h0,h1,_⟩:=PZ (Go.WideElems.rd_key hy)
   exact ⟨n,hn,h0,h1⟩
 have rdx : ∀ x∈es.toList,∀ n,x.key = .int .u64 n→RdC Tryz.prog md w' M (.ty 23) (.sl ((G0 (g0 l) n).map .int)) (fun j=>x.val.cells[j]?)∧C9 x.val=false:=by
   intro x hx n hn
   obtain ⟨n',hn',h0,h1⟩:=hks x hx
   rw[hn]at hn'
   injection hn' with _ hn'
   subst hn'
   have hkey:=EW h0 h1
   rcases Maps.fit_look false Qq Pc (BI w') hb F hkey with ⟨_,hne,_⟩ | ⟨e0,y,hm0,h3,_,hR,hat,_⟩
   · exact absurd hn (hne x hx)
   · have hxe:x=e0:=by
       refine TF (fit_apart Qq F) hx hm0 ?_
       obtain ⟨y1,hy1⟩:=F.reads x hx
       obtain ⟨y2,hy2⟩:=F.reads e0 hm0
       rw[Go.WideElems.rg_of hy1,Go.WideElems.rg_of hy2]
       have k1:=Go.WideElems.rd_key hy1
       have k2:=Go.WideElems.rd_key hy2
       rw[hn]at k1
       rw[h3]at k2
       rw[k1]at k2
       injection k2
     subst hxe
     obtain ⟨zs,ho,rfl⟩:=rowElem_inv hR
     have hz:=hD n h0 (by omega)
     rw[hat,List.take_length,EU ho]at hz
     rw[EJ,← FH hz]
     exact Ah_ ho (fun b hb=>by have:=hM b hb;omega)
 refine .mp (t:= .ty _) (b:=w.heap.size+1) Pc Jt AU ?_ (fun hm=>by have:=hM _ hm;omega) (by omega) hb (fun x hx=> ?_) (fun x hx n hn=>(rdx x hx n hn).1) (fun x hx=> ?_) (fun n hne=> ?_)
 · have:w'.heap[w.heap.size+1+1]? = some (.cells #[.map (some (w.heap.size+1))] 173 (0,0)):=mbox
   unfold World.cell?
   simp[this]
 · obtain ⟨n,hn,_⟩:=hks x hx;exact ⟨n,hn⟩
 · obtain ⟨n,hn,_⟩:=hks x hx;exact (rdx x hx n hn).2
 · rw[EJ]
   by_cases hr:0≤n∧n≤18446744073709551615
   · have hkey:=EW hr.1 hr.2
     rcases Maps.fit_look false Qq Pc (BI w') hb F hkey with ⟨_,_,hat⟩ | ⟨e0,y,hm0,h3,_⟩
     · have hz:=hD n hr.1 (by omega)
       rw[hat,List.take_length]at hz
       exact (FH (q:= .i64) (a:=[]) hz).symm
     · exact absurd h3 (hne e0 hm0)
   · exact EO l n 0 (fun c _ he=>hr (he▸Ae2 c 0))
theorem Nq:Lk:=by
 intro d l hl hlen
 refine ⟨g0 l,EJ l,AJ Kk Tryz.func152 (by kernel_rfl) (by kernel_rfl) (by kernel_rfl) (fun w M vs hM _ hlv hrd=> ?_)⟩
 have hps:Tryz.f152.params.toList = [24]:=by kernel_rfl
 have hlen1:vs.length=1:=by rw[hlv];rfl
 match vs,hlen1 with
 | [v],_ =>
  rw[hps]at hrd
  have hr:=hrd 0 _ _ _ rfl rfl rfl
  obtain ⟨A,n,c,hv,hn⟩ : ∃ A n c,v = .slice A n c∧n=l.length:=by
   obtain ⟨h1,h2,h3⟩:=hr
   cases h1 with
   | @sl _ e _ _ A' cap bk off ht hc h4 h5 hA hh =>
     have ha:C9 v=false:=by rw[h3];kernel_rfl
     rw[Hj ha]at hc
     exact ⟨A',_,cap,by simpa using hc,by simp⟩
  subst hv
  subst hn
  refine (Adp l (fun x hx=>⟨d,hl x hx⟩) hlen A c w hr).mono ?_
  rintro e w' ⟨rfl,hfi⟩
  have hx:Ext w w':=by
   have:=hfi.below
   exact ⟨this.os,this.tape,this.output,by have:=hfi.size;omega,fun b hb=>this.block b hb⟩
  refine ⟨[_],rfl,rfl,fun i t u ht hu=> ?_,hx⟩
  rw[show Tryz.f152.resultTypes.toList = [128] by kernel_rfl]at ht
  match i with
  | 0 =>
   cases ht;cases hu
   have hsz:=hfi.size
   refine ⟨.fn (fn:=Tryz.f216) (ps:= #[67]) (rs:= #[3]) (va:=false) (by kernel_rfl) Tryz.func216 (by kernel_rfl) (by kernel_rfl) (by kernel_rfl) rfl rfl rfl (fun i ct d' v' hct hd hv=> ?_) (fun i ct v' hct hv=> ?_),by kernel_rfl,by kernel_rfl⟩
   · match i with
     | 0 =>
      cases hct;cases hd;cases hv
      exact .ref (t:= .ref _) (bk:=w.heap.size+1+1) (off:=0) rfl rfl (fun hm=>by have:=hM _ hm;omega) (by omega) (hfi.map_rd hM)
     | 1 =>
      cases hct;cases hd;cases hv
      refine .ref (t:= .ref _) (bk:=w.heap.size) (off:=0) rfl rfl (fun hm=>by have:=hM _ hm;omega) (by omega) ?_
      have h1:=hr.rd.mono (w':=w') (M':=M) hx.size (fun b _ hb=>hx.block b hb) (fun b hb _=>hb)
      refine h1.congr (fun j hj=> ?_) (by have:(CT.ty 24).size Tryz.prog=1:=(by kernel_rfl);omega)
      have hj:j<1:=by have:(CT.ty 24).size Tryz.prog=1:=(by kernel_rfl);omega
      obtain rfl:j=0:=by omega
      unfold World.cell?
      simp[hfi.lbox,Value.cells]
     | i+2=>cases hct
   · match i with
     | 0=>cases hct;cases hv;exact ⟨rfl,rfl⟩
     | 1=>cases hct;cases hv;exact ⟨rfl,rfl⟩
     | i+2=>cases hct
  | i+1=>simp at ht
end Go.Proofs.YtokkbgpgaheakaaGreat
namespace Go.Proofs.YtokkbgpgaheakaaGreat
def Yt:List (Nat×Orc):=[(6,⟨[(2,none),(3,none),(4,none),(7,none)],[(3,true),(4,true)],[]⟩)]
noncomputable def Ys(n m6:Nat)(o2 i7:Int)(a3 b4:D):Tree :=
 lA (eA Yt n 14 [1,1,1,0,1,0,0]) (Ak Yt 6) m6 ⟨(.undef:: .undef:: .i .u64 o2:: .ptr 3 []:: .ptr 4 []:: .undef:: .undef:: .i .i64 i7::uA 63),[(3,.var 26 (.d 26 a3) true),(4,.var 26 (.d 26 b4) true)],[3,4],[],[]⟩
  (Ai 0 (Am (jA Yt n 14 [1,1,1,1]) (rA 14 [26,26,22] [.tmp 6] [4])))
theorem XA(n m6:Nat)(o2 i7:Int)(a3 b4:D):Ys n (m6+1) o2 i7 a3 b4 =
 bK (i7<(((a3.fld 2).els).length:Int)) (kK (0≤i7) (kK (i7<(((a3.fld 2).els).length:Int)) (kK (0≤i7) (kK (i7<(((b4.fld 2).els).length:Int)) (cK 55 [((a3.fld 2).els).getD (Ama i7) D.nil,((b4.fld 2).els).getD (Ama i7) D.nil,D.int o2] fun Y8 =>
 .br (!((qA Y8).toBool)) (.ret [D.bool false])
 (Ys n m6 o2 (Al6 .i64 (i7+1)) a3 b4))))))
 (.ret [D.bool true]):=by kernel_rfl
theorem AiP(n:Nat)(a0 b1 o2:D):fA Yt n 14 [] [a0,b1,o2] =
 cK 16 [D.int ((a0.fld 0).toInt),D.int o2.toInt] fun Y1 =>
 .br (!((qA Y1).toBool)) (cK 16 [D.int ((a0.fld 0).toInt),D.int o2.toInt] fun Y2 =>
 cK 16 [D.int ((b1.fld 0).toInt),D.int o2.toInt] fun Y3 =>
 .ret [D.bool (((qA Y2).toBool)==((qA Y3).toBool))])
 (cK 16 [D.int ((b1.fld 0).toInt),D.int o2.toInt] fun Y4 =>
 .br (!((qA Y4).toBool)) (cK 16 [D.int ((a0.fld 0).toInt),D.int o2.toInt] fun Y5 =>
 cK 16 [D.int ((b1.fld 0).toInt),D.int o2.toInt] fun Y6 =>
 .ret [D.bool (((qA Y5).toBool)==((qA Y6).toBool))])
 (.br (((a0.fld 0).toInt)!=((b1.fld 0).toInt)) (.ret [D.bool false])
 (cK 54 [a0.fld 1,b1.fld 1] fun Y7 =>
 .br (!((qA Y7).toBool)) (.ret [D.bool false])
 (.br ((((a0.fld 2).els).length:Int)!=(((b1.fld 2).els).length:Int)) (.ret [D.bool false])
 (Ys n n o2.toInt 0 a0 b1))))):=by kernel_rfl
def Yv:List (Nat×Orc):=[(6,⟨[(2,none),(3,none),(4,none),(7,none)],[(3,true),(4,true)],[]⟩)]
noncomputable def Yu(n m6:Nat)(o2 i7:Int)(a3 b4:D):Tree :=
 lA (eA Yv n 55 [1,1,1,0,1,0,0]) (Ak Yv 6) m6 ⟨(.undef:: .undef:: .i .u64 o2:: .ptr 3 []:: .ptr 4 []:: .undef:: .undef:: .i .i64 i7::uA 77),[(3,.var 67 (.d 67 a3) true),(4,.var 67 (.d 67 b4) true)],[3,4],[],[]⟩
  (Ai 0 (Am (jA Yv n 55 [1,1,1,1]) (rA 55 [67,67,22] [.tmp 6] [4])))
theorem XB(n m6:Nat)(o2 i7:Int)(a3 b4:D):Yu n (m6+1) o2 i7 a3 b4 =
 bK (i7<(((a3.fld 4).els).length:Int)) (kK (0≤i7) (kK (i7<(((a3.fld 4).els).length:Int)) (kK (0≤i7) (kK (i7<(((b4.fld 4).els).length:Int)) (cK 14 [((a3.fld 4).els).getD (Ama i7) D.nil,((b4.fld 4).els).getD (Ama i7) D.nil,D.int o2] fun Y8 =>
 .br (!((qA Y8).toBool)) (.ret [D.bool false])
 (Yu n m6 o2 (Al6 .i64 (i7+1)) a3 b4))))))
 (.ret [D.bool true]):=by kernel_rfl
theorem AiQ(n:Nat)(a0 b1 o2:D):fA Yv n 55 [] [a0,b1,o2] =
 cK 16 [D.int ((a0.fld 0).toInt),D.int o2.toInt] fun Y1 =>
 .br (!((qA Y1).toBool)) (cK 16 [D.int ((a0.fld 0).toInt),D.int o2.toInt] fun Y2 =>
 cK 16 [D.int ((b1.fld 0).toInt),D.int o2.toInt] fun Y3 =>
 .ret [D.bool (((qA Y2).toBool)==((qA Y3).toBool))])
 (cK 16 [D.int ((b1.fld 0).toInt),D.int o2.toInt] fun Y4 =>
 .br (!((qA Y4).toBool)) (cK 16 [D.int ((a0.fld 0).toInt),D.int o2.toInt] fun Y5 =>
 cK 16 [D.int ((b1.fld 0).toInt),D.int o2.toInt] fun Y6 =>
 .ret [D.bool (((qA Y5).toBool)==((qA Y6).toBool))])
 (.br (((a0.fld 0).toInt)!=((b1.fld 0).toInt)) (.ret [D.bool false])
 (.br (((a0.fld 1).toInt)!=((b1.fld 1).toInt)) (.ret [D.bool false])
 (.br (((a0.fld 3).toInt)!=((b1.fld 3).toInt)) (.ret [D.bool false])
 (cK 137 [a0.fld 2,b1.fld 2] fun Y7 =>
 .br (!((qA Y7).toBool)) (.ret [D.bool false])
 (.br ((((a0.fld 4).els).length:Int)!=(((b1.fld 4).els).length:Int)) (.ret [D.bool false])
 (Yu n n o2.toInt 0 a0 b1))))))):=by kernel_rfl
def Kr:Ap:=BitVec.allOnes 64
def JA:Arr:= .mk Kr [] []
def JB:Cell:=⟨Kr,0,.zero,0,[]⟩
mutual
def Ci(o:Ap):Arr→Arr
 | .mk s sh cs=>if A7 s o then .mk s sh (Qm o cs) else JA
def Qm(o:Ap):List (CellF Arr)→List (CellF Arr)
 | []=>[]
 | c::cs=>Cv o c::Qm o cs
def Cv(o:Ap):CellF Arr→CellF Arr
 | ⟨l,k,n,c,inn⟩=>if A7 l o then ⟨l,k,n,c,Qk o inn⟩ else JB
def Qk(o:Ap):List Arr→List Arr
 | []=>[]
 | a::as_=>Ci o a::Qk o as_
end
theorem PB(o:Ap) : ∀ cs,Qm o cs=cs.map (Cv o)
 | []=>by simp[Qm]
 | c::cs=>by simp[Qm,PB o cs]
theorem PA(o:Ap) : ∀ as_,Qk o as_=as_.map (Ci o)
 | []=>by simp[Qk]
 | a::as_=>by simp[Qk,PA o as_]
theorem Vh(o:Ap)(a:Arr):Ci o a=if A7 a.s o then .mk a.s a.shape (a.cells.map (Cv o)) else JA:=by cases a;rw[Ci,PB];rfl
theorem Vi(o:Ap)(c:Cell):Cv o c=if A7 c.l o then ⟨c.l,c.kind,c.n,c.c,c.inn.map (Ci o)⟩ else JB:=by cases c;simp[Cv,PA]
theorem EB{a b o:Ap} : A7 (a|||b) o=(A7 a o&&A7 b o):=by
 rw[Bool.eq_iff_iff,Ami,U5,U5,U5]
 constructor
 · exact fun h=>⟨fun t ht=>h t (by simp[ht]),fun t ht=>h t (by simp[ht])⟩
 · rintro ⟨h1,h2⟩ t ht
   simp only[BitVec.getLsbD_or,Bool.or_eq_true]at ht
   exact ht.elim (h1 t) (h2 t)
theorem Ns{o:Ap}(h:A7 Kr o=true)(a:Ap):A7 a o=true:=by
 rw[EA]at h ⊢
 intro t ht _
 exact h t ht (by unfold Kr;rw[BitVec.getLsbD_allOnes];exact decide_eq_true ht)
theorem Nx{o:Ap}{a:Arr}(h:A7 a.s o=true):Ci o a = .mk a.s a.shape (a.cells.map (Cv o)):=by rw[Vh,if_pos h]
theorem Qn{o:Ap}{a:Arr}(h:A7 a.s o=false):Ci o a=JA:=by rw[Vh,if_neg (by simp[h])]
theorem Nw{o:Ap}{c:Cell}(h:A7 c.l o=true):Cv o c=⟨c.l,c.kind,c.n,c.c,c.inn.map (Ci o)⟩:=by rw[Vi,if_pos h]
theorem Ql{o:Ap}{c:Cell}(h:A7 c.l o=false):Cv o c=JB:=by rw[Vi,if_neg (by simp[h])]
theorem KY{o:Ap}{a b:Arr}(h:Ci o a=Ci o b):(A7 a.s o=false∧A7 b.s o=false)∨(A7 a.s o=true∧A7 b.s o=true∧a.s=b.s∧a.shape=b.shape∧a.cells.map (Cv o)=b.cells.map (Cv o)):=by
 cases ha:A7 a.s o <;> cases hb:A7 b.s o
 · exact .inl ⟨rfl,rfl⟩
 · rw[Qn ha,Nx hb]at h
   have:Kr=b.s:=congrArg Arr.s h
   rw[← this]at hb
   rw[Ns hb]at ha;cases ha
 · rw[Nx ha,Qn hb]at h
   have:a.s=Kr:=congrArg Arr.s h
   rw[this]at ha
   rw[Ns ha]at hb;cases hb
 · rw[Nx ha,Nx hb,S4]at h
   exact .inr ⟨rfl,rfl,h.1,h.2.1,h.2.2⟩
theorem KX{o:Ap}{a b:Cell}(h:Cv o a=Cv o b):(A7 a.l o=false∧A7 b.l o=false)∨(A7 a.l o=true∧A7 b.l o=true∧a.l=b.l∧a.kind=b.kind∧a.c=b.c∧a.n=b.n∧a.inn.map (Ci o)=b.inn.map (Ci o)):=by
 cases ha:A7 a.l o <;> cases hb:A7 b.l o
 · exact .inl ⟨rfl,rfl⟩
 · rw[Ql ha,Nw hb]at h
   have:Kr=b.l:=congrArg CellF.l h
   rw[← this]at hb
   rw[Ns hb]at ha;cases ha
 · rw[Nw ha,Ql hb]at h
   have:a.l=Kr:=congrArg CellF.l h
   rw[this]at ha
   rw[Ns ha]at hb;cases hb
 · rw[Nw ha,Nw hb,CL]at h
   exact .inr ⟨rfl,rfl,h⟩
theorem Abj{o:Ap}{a b:Arr}(ha:A7 a.s o=false)(hb:A7 b.s o=false):Ci o a=Ci o b:=by rw[Qn ha,Qn hb]
theorem Abk{o:Ap}{a b:Arr}(h1:a.s=b.s)(h2:a.shape=b.shape)(h3:a.cells.map (Cv o)=b.cells.map (Cv o)):Ci o a=Ci o b:=by rw[Vh,Vh,h1,h2,h3]
theorem Abh{o:Ap}{a b:Cell}(ha:A7 a.l o=false)(hb:A7 b.l o=false):Cv o a=Cv o b:=by rw[Ql ha,Ql hb]
theorem Abi{o:Ap}{a b:Cell}(h1:a.l=b.l)(h2:a.kind=b.kind)(h3:a.c=b.c)(h4:a.n=b.n)(h5:a.inn.map (Ci o)=b.inn.map (Ci o)):Cv o a=Cv o b:=by rw[Vi,Vi,h1,h2,h3,h4,h5]
noncomputable def Jz(o:Ap)(a b:Arr):Bool:=Hm (Ci o a) (Ci o b)
noncomputable def H5(o:Ap)(a b:Cell):Bool:=Ic (Cv o a) (Cv o b)
theorem Pm{o:Ap}{a b:Arr} : Jz o a b=true↔Ci o a=Ci o b:=Kw
theorem BS{o:Ap}{a b:Cell} : H5 o a b=true↔Cv o a=Cv o b:=Lv
theorem LB{o:Ap}{a b:Arr}(h : ¬ (A7 a.s o=true∧A7 b.s o=true)):Jz o a b=(A7 a.s o == A7 b.s o):=by
 rw[Bool.eq_iff_iff,Pm,beq_iff_eq]
 constructor
 · intro hh
   rcases KY hh with ⟨h1,h2⟩ | ⟨h1,h2,_⟩
   · rw[h1,h2]
   · exact absurd ⟨h1,h2⟩ h
 · intro hh
   cases ha:A7 a.s o with
   | true=>exact absurd ⟨ha,hh.symm.trans ha⟩ h
   | false=>exact Abj ha (hh.symm.trans ha)
theorem LA{o:Ap}{a b:Cell}(h : ¬ (A7 a.l o=true∧A7 b.l o=true)):H5 o a b=(A7 a.l o == A7 b.l o):=by
 rw[Bool.eq_iff_iff,BS,beq_iff_eq]
 constructor
 · intro hh
   rcases KX hh with ⟨h1,h2⟩ | ⟨h1,h2,_⟩
   · rw[h1,h2]
   · exact absurd ⟨h1,h2⟩ h
 · intro hh
   cases ha:A7 a.l o with
   | true=>exact absurd ⟨ha,hh.symm.trans ha⟩ h
   | false=>exact Abh ha (hh.symm.trans ha)
theorem Abm{o:Ap}{a b:Arr}(ha:A7 a.s o=true):Jz o a b=true↔(a.s=b.s∧a.shape=b.shape∧a.cells.map (Cv o)=b.cells.map (Cv o)):=by
 rw[Pm]
 constructor
 · intro hh
   rcases KY hh with ⟨h1,h2⟩ | ⟨_,_,h⟩
   · rw[ha]at h1;cases h1
   · exact h
 · exact fun h=>Abk h.1 h.2.1 h.2.2
theorem Abl{o:Ap}{a b:Cell}(ha:A7 a.l o=true):H5 o a b=true↔(a.l=b.l∧a.kind=b.kind∧a.c=b.c∧a.n=b.n∧a.inn.map (Ci o)=b.inn.map (Ci o)):=by
 rw[BS]
 constructor
 · intro hh
   rcases KX hh with ⟨h1,h2⟩ | ⟨_,_,h⟩
   · rw[ha]at h1;cases h1
   · exact h
 · exact fun h=>Abi h.1 h.2.1 h.2.2.1 h.2.2.2.1 h.2.2.2.2
theorem IM(o:Ap) : ∀ (d:Nat) (a b:Arr),Sml d a→Sp 14 [dA a,dA b,dB o] [.bool (Jz o a b)]
 | 0,_,_,h=>h.elim
 | d+1,a,b,h=>by
  have hcell : ∀ (x y:Cell),SmlC d x→Sp 55 [dC x,dC y,dB o] [.bool (H5 o x y)]:=fun x y hx=>by
    have hlx:=hx.2.2.1
    refine Af (x.inn.length+1) (AiQ _ _ _ _) ?_
    simp only[Ah]
    refine Aa (Gg x.l o) (Bu (fun h1=> ?_) (fun h1=>Aa (Gg y.l o) (Bu (fun h2=> ?_) (fun h2=> ?_))))
    · have h1':A7 x.l o=false:=by simpa using h1
      refine Aa (Gg x.l o) (Aa (Gg y.l o) (Ac ?_))
      rw[LA (by rw[h1'];simp)];rfl
    · have h2':A7 y.l o=false:=by simpa using h2
      refine Aa (Gg x.l o) (Aa (Gg y.l o) (Ac ?_))
      rw[LA (by rw[h2'];simp)];rfl
    have h1':A7 x.l o=true:=by simpa using h1
    have hb:=Abl (b:=y) h1'
    refine Ae (fun h=>Ac ?_) (fun h3=>Ae (fun h=>Ac ?_) (fun h4=>Ae (fun h=>Ac ?_) (fun h5=>Aa (IL x.n y.n hx.fits.1 hx.fits.2.1) ?_)))
    · rw[F4 (b:=H5 o x y) (fun hh=>h (by rw[(hb.1 hh).1]))]
    · rw[F4 (b:=H5 o x y) (fun hh=>h (hb.1 hh).2.1)]
    · rw[F4 (b:=H5 o x y) (fun hh=>h (hb.1 hh).2.2.1)]
    simp only[Ag,Az,Ed]
    refine Ae (fun h=>Ac ?_) (fun h6=>Ae (fun h=>Ac ?_) (fun h7=> ?_))
    · rw[F4 (b:=H5 o x y) (fun hh=>h (hb.1 hh).2.2.2.1)]
    · rw[F4 (b:=H5 o x y) (fun hh=>h (by have:=congrArg List.length (hb.1 hh).2.2.2.2;simp at this;omega))]
    refine Zj (P:=Tryz.prog) (md:=md) (Ci o) x.inn y.inn (Jz o) (fun p _ q=>Pm) (by omega) (H5 o x y) ?_ (fun m k=>Yu (x.inn.length+1) m (o.toNat:Int) (k:Int) (dC x) (dC y)) ?_ ?_ (x.inn.length+1) (by omega)
    · rw[hb]
      exact ⟨fun hh=>hh.2.2.2.2,fun hh=>⟨BitVec.eq_of_toNat_eq (by omega),Amn.1 h4,Amn.1 h5,Amn.1 h6,hh⟩⟩
    · intro m Q hQ
      simp only[XB,Ah]
      exact Aq (Ac hQ)
    · intro m k p q Q hp hq hF hT
      have hk:k<x.inn.length:=(Ame.1 hp).1
      simp only[XB,Ah,As hp,As hq,Bb k]
      repeat (refine Ad ?_)
      refine Aa (IM o d p q (hx.2.2.2 p (Amh hp))) ?_
      simp only[Ag,Az]
      exact Bu (fun h=>Ac (hF (by simpa using h))) (fun h=>hT (by simpa using h))
  have hla:=h.2.1
  refine Af (a.cells.length+1) (AiP _ _ _ _) ?_
  simp only[Ah]
  refine Aa (Gg a.s o) (Bu (fun h1=> ?_) (fun h1=>Aa (Gg b.s o) (Bu (fun h2=> ?_) (fun h2=> ?_))))
  · have h1':A7 a.s o=false:=by simpa using h1
    refine Aa (Gg a.s o) (Aa (Gg b.s o) (Ac ?_))
    rw[LB (by rw[h1'];simp)];rfl
  · have h2':A7 b.s o=false:=by simpa using h2
    refine Aa (Gg a.s o) (Aa (Gg b.s o) (Ac ?_))
    rw[LB (by rw[h2'];simp)];rfl
  have h1':A7 a.s o=true:=by simpa using h1
  have hb:=Abm (b:=b) h1'
  refine Ae (fun h=>Ac ?_) (fun h3=>Aa (WH a.shape b.shape (by have:=h.1;omega)) ?_)
  · rw[F4 (b:=Jz o a b) (fun hh=>h (by rw[(hb.1 hh).1]))]
  simp only[Ag,Az,Ed]
  refine Ae (fun h=>Ac ?_) (fun h4=>Ae (fun h=>Ac ?_) (fun h5=> ?_))
  · rw[F4 (b:=Jz o a b) (fun hh=>h (hb.1 hh).2.1)]
  · rw[F4 (b:=Jz o a b) (fun hh=>h (by have:=congrArg List.length (hb.1 hh).2.2;simp at this;omega))]
  refine Zj (P:=Tryz.prog) (md:=md) (Cv o) a.cells b.cells (H5 o) (fun p _ q=>BS) (by omega) (Jz o a b) ?_ (fun m k=>Ys (a.cells.length+1) m (o.toNat:Int) (k:Int) (dA a) (dA b)) ?_ ?_ (a.cells.length+1) (by omega)
  · rw[hb]
    exact ⟨fun hh=>hh.2.2,fun hh=>⟨BitVec.eq_of_toNat_eq (by omega),Amn.1 h4,hh⟩⟩
  · intro m Q hQ
    simp only[XA,Ah]
    exact Aq (Ac hQ)
  · intro m k p q Q hp hq hF hT
    have hk:k<a.cells.length:=(Ame.1 hp).1
    simp only[XA,Ah,As hp,As hq,Bb k]
    repeat (refine Ad ?_)
    refine Aa (hcell p q (h.cell p (Amh hp))) ?_
    simp only[Ag,Az]
    exact Bu (fun h=>Ac (hF (by simpa using h))) (fun h=>hT (by simpa using h))
theorem OH{o:Ap} : ∀ {as_:List Arr} {x:Ap},A7 (as_.foldl (fun l a=>l|||Av a) x) o=true↔(A7 x o=true∧∀ a∈as_,A7 (Av a) o=true)
 | [],x=>by simp
 | a::as_,x=>by
  simp only[List.foldl_cons]
  rw[OH,EB,Ami]
  simp only[Amw,forall_eq_or_imp]
  exact and_assoc
theorem Ads{o x:Ap}{c:Cell} : A7 (Iq x c) o=true↔(A7 x o=true∧A7 c.l o=true∧∀ a∈c.inn,A7 (Av a) o=true):=by
 rw[AO,OH,EB,Ami];exact and_assoc
theorem OI{o:Ap} : ∀ {cs:List Cell} {x:Ap},A7 (cs.foldl Iq x) o=true↔(A7 x o=true∧∀ c∈cs,A7 c.l o=true∧∀ a∈c.inn,A7 (Av a) o=true)
 | [],x=>by simp
 | c::cs,x=>by
  simp only[List.foldl_cons]
  rw[OI,Ads]
  simp only[Amw,forall_eq_or_imp]
  exact ⟨fun h=>⟨h.1.1,h.1.2,h.2⟩,fun h=>⟨⟨h.1,h.2.1⟩,h.2.2⟩⟩
theorem EC{o:Ap}{a:Arr} : A7 (Av a) o=true↔(A7 a.s o=true∧∀ c∈a.cells,A7 c.l o=true∧∀ x∈c.inn,A7 (Av x) o=true):=by rw[AN,OI]
theorem Ad7{o:Ap}{a:Arr} : A7 (Av a) o=true→Ci o a=a:=by
 induction a using Arr.ind with
 | h s sh cs IH =>
  intro h
  obtain ⟨h1,h2⟩:=EC.1 h
  rw[Nx h1]
  have:cs.map (Cv o)=cs:=by
   conv=>rhs;rw[← List.map_id cs]
   refine List.map_congr_left (fun c hc=> ?_)
   obtain ⟨g1,g2⟩:=h2 c hc
   rw[Nw g1]
   have:c.inn.map (Ci o)=c.inn:=by
    conv=>rhs;rw[← List.map_id c.inn]
    exact List.map_congr_left (fun x hx=>IH c hc x hx (g2 x hx))
   rw[this];rfl
  show Arr.mk s sh (cs.map (Cv o))=_
  rw[this]
theorem AkW{o:Ap}{a:Arr} : A7 (Av (Ci o a)) o=true→Ci o a=a:=by
 induction a using Arr.ind with
 | h s sh cs IH =>
  intro h
  cases hs:A7 (Arr.mk s sh cs).s o with
  | false =>
   rw[Qn hs]at h
   have:=Ns (EC.1 h).1 (Arr.mk s sh cs).s
   rw[hs]at this;cases this
  | true =>
   rw[Nx hs]at h ⊢
   obtain ⟨_,h2⟩:=EC.1 h
   have:cs.map (Cv o)=cs:=by
    conv=>rhs;rw[← List.map_id cs]
    refine List.map_congr_left (fun c hc=> ?_)
    obtain ⟨g1,g2⟩:=h2 (Cv o c) (List.mem_map.2 ⟨c,hc,rfl⟩)
    cases hl:A7 c.l o with
    | false =>
     rw[Ql hl]at g1
     have:=Ns g1 c.l
     rw[hl]at this;cases this
    | true =>
     rw[Nw hl]at g2 ⊢
     have:c.inn.map (Ci o)=c.inn:=by
      conv=>rhs;rw[← List.map_id c.inn]
      exact List.map_congr_left (fun x hx=>IH c hc x hx (g2 (Ci o x) (List.mem_map.2 ⟨x,hx,rfl⟩)))
     rw[this];rfl
   show Arr.mk s sh (cs.map (Cv o))=_
   rw[this]
theorem KZ{o:Ap}{a b:Arr}(h:Ci o a=Ci o b)(ht:A7 (Av a) o=true):a=b:=by
 have h1:=Ad7 ht
 rw[h1]at h
 rw[h]at ht
 rw[h];exact AkW ht
theorem PO : ∀ {l:List Int},(∀ x∈l,Bc x)→F_ (l.map Be)=some l
 | [],_=>rfl
 | x::xs,h=>by
  simp only[Ani,F_]
  rw[if_pos (show (Be x).kind=0 from rfl),show (Be x).n=Cn x from rfl,Ak6 (h x (by simp)),PO (fun y hy=>h y (by simp[hy]))]
  rfl
theorem AkU(l:List Int)(s:Ap):Av (Dk l s)=s:=by
 rw[AN]
 unfold Dk
 simp only[Arr.cells_mk,Arr.s_mk]
 induction l with
 | nil=>rfl
 | cons x xs ih =>
  rw[Ani,List.foldl_cons,AO]
  have e0:s|||(0:Ap)=s:=by simp
  rw[show (Be x).inn = [] from rfl,show (Be x).l=0 from rfl,e0,List.foldl_nil]
  exact ih
section
variable {o:Ap} {a b n m:Arr}
end
theorem inr(z:Int)(h1 : -100000≤z:=by decide)(h2:z≤100000:=by decide):Bc z:=by unfold Bc;omega
theorem Qu{z:Int}{k:Nat}(h:z.natAbs<B ^ k):Bs z≤k:=A0.2 h
theorem FD(z:Int):z.natAbs<B ^ Bs z:=A0.1 (Amo _)
theorem Aem(x y:Int):Bs (x+y)≤max (Bs x) (Bs y)+1:=by
 refine Qu ?_
 have h1:x.natAbs<B ^ max (Bs x) (Bs y):=Am_ (FD x) (Nat.pow_le_pow_right Bw (Nat.le_max_left _ _))
 have h2:y.natAbs<B ^ max (Bs x) (Bs y):=Am_ (FD y) (Nat.pow_le_pow_right Bw (Nat.le_max_right _ _))
 have h3:=Int.natAbs_add_le x y
 rw[Anc]
 generalize B ^ max (Bs x) (Bs y)=q at *
 rw[Ay];omega
theorem Aen(x:Int):Bs (-x)=Bs x:=by unfold Bs;rw[Int.natAbs_neg]
theorem Fh(z:Int):(wz z).mag.length=Bs z:=rfl
theorem UF : ∀ (k n:Nat) (out base:Int),Bs out≤100→Bs (Jg k n out base).1≤100
 | 0,_,out,base,h=>h
 | k+1,n,out,base,h=>by
  have z0:Bs 0≤100:=by unfold Bs;rw[show Int.natAbs 0=0 from rfl,Ct];simp
  rw[Jg]
  generalize (if n % 2=1 then out*base else out)=o
  split
  · exact h
  split
  · exact z0
  split
  · exact z0
  rename_i h3
  split
  · show Bs o≤100;omega
  · exact UF k _ o _ (by omega)
theorem AcB(x y:Int)(hy:y≠0):(D3 x y).1*y+(D3 x y).2=x∧(D3 x y).1.natAbs≤x.natAbs+1∧(D3 x y).2.natAbs<y.natAbs∧(0<y→0≤(D3 x y).2)∧(y<0→(D3 x y).2≤0):=by
 have hdm:=Nat.div_add_mod x.natAbs y.natAbs
 have hml:=Am5 x.natAbs (show 0<y.natAbs by omega)
 have hdl:=Nat.div_le_self x.natAbs y.natAbs
 unfold D3
 generalize x.natAbs / y.natAbs=q at *
 generalize x.natAbs % y.natAbs=r at *
 generalize hX:x.natAbs=X at *
 generalize hY:y.natAbs=Y at *
 have hdm':(Y:Int)*(q:Int)+(r:Int)=(X:Int):=by rw[← hdm];simp
 by_cases hx0:x<0 <;> by_cases hy0:y<0
 · obtain rfl:x = -(X:Int):=by omega
   obtain rfl:y = -(Y:Int):=by omega
   simp only[hx0,hy0,if_true]
   refine ⟨by rw[Int.mul_neg,Int.mul_comm];omega,by omega,by omega,fun h=>by first | omega | exact False.elim h,fun h=>by first | omega | exact False.elim h⟩
 · obtain rfl:x = -(X:Int):=by omega
   obtain rfl:y=(Y:Int):=by omega
   simp only[hx0,hy0,if_true]
   rw[if_neg (by simp)]
   split
   · rename_i h0
     subst h0
     refine ⟨by rw[Int.neg_mul,Int.mul_comm];omega,by omega,by omega,fun h=>by first | omega | exact False.elim h,fun h=>by first | omega | exact False.elim h⟩
   · refine ⟨by rw[Int.sub_mul,Int.neg_mul,Int.mul_comm (q:Int)];omega,by omega,by omega,fun h=>by first | omega | exact False.elim h,fun h=>by first | omega | exact False.elim h⟩
 · obtain rfl:x=(X:Int):=by omega
   obtain rfl:y = -(Y:Int):=by omega
   simp only[hx0,hy0,if_false]
   rw[if_neg (by simp)]
   split
   · rename_i h0
     subst h0
     refine ⟨by rw[Int.neg_mul_neg,Int.mul_comm];omega,by omega,by omega,fun h=>by first | omega | exact False.elim h,fun h=>by first | omega | exact False.elim h⟩
   · refine ⟨by rw[Int.sub_mul,Int.neg_mul_neg,Int.mul_comm (q:Int)];omega,by omega,by omega,fun h=>by first | omega | exact False.elim h,fun h=>by first | omega | exact False.elim h⟩
 · obtain rfl:x=(X:Int):=by omega
   obtain rfl:y=(Y:Int):=by omega
   simp only[hx0,hy0,if_false,if_true]
   refine ⟨by rw[Int.mul_comm];omega,by omega,by omega,fun h=>by first | omega | exact False.elim h,fun h=>by first | omega | exact False.elim h⟩
def Qt:ByteArray:=Jq
def E_(i:Nat):Nat:=(Qt.data.toList.getD i 0).toNat
theorem Ael:((Am9 256).all fun i=>decide (i<2 ^ E_ i)&&(i == 0||decide (2 ^ E_ i≤2*i))&&decide (E_ i≤8))=true:=by kernel_rfl
theorem N7{i:Nat}(h:i<256):i<2 ^ E_ i∧(0<i→2 ^ E_ i≤2*i)∧E_ i≤8:=by
 have:=Ank.1 Ael i (List.mem_range.2 h)
 simp only[Ami,decide_eq_true_eq,Bool.or_eq_true,beq_iff_eq]at this
 exact ⟨this.1.1,fun h0=>by rcases this.1.2 with h | h <;> omega,this.2⟩
theorem Km{x:Int}(h1:0≤x)(h2:x<256):Al6 .u8 x=x:=by rw[IntKind.wrap_u8];omega
theorem NQ(x y:Nat):Am3 (x:Int) (y:Int)=((x / y:Nat):Int):=by
 rw[Int.fdiv_eq_ediv_of_nonneg _ (Int.natCast_nonneg _)];rfl
theorem AbL(x:Nat)(hx:x<B) : ∃ k:Nat,Sp 341 [.int (x:Int)] [.int (k:Int)]∧k≤32∧x<2 ^ k∧(0<x→2 ^ k≤2*x):=by
 have e16:(2:Int) ^ (min (Ama 16) (Aml .u32))=((65536:Nat):Int):=by decide
 have e8:(2:Int) ^ (min (Ama 8) (Aml .u32))=((256:Nat):Int):=by decide
 have hsz:(Qt.size:Int)=256:=by
       have:Qt.size=256:=by kernel_rfl
       omega
 rw[Ay]at hx
 have tr:=AbM 0 (.int (x:Int))
 rw[show Jq=Qt from rfl]at tr
 simp only[Al,e16,e8,NQ,hsz]at tr
 have fin : ∀ i c:Nat,i<256→c≤24→Al6 .i64 ((c:Int)+Al6 .i64 (((Qt.data.toList.getD (Ama (Al6 .u8 (i:Int))) 0).toNat:Nat):Int))=((c+E_ i:Nat):Int):=by
   intro i c hi hc
   have h8:=(N7 hi).2.2
   rw[Km (by omega) (by omega),Amj]
   show Al6 .i64 ((c:Int)+Al6 .i64 ((E_ i:Nat):Int))=_
   rw[At (x:=((E_ i:Nat):Int)) (by omega) (by omega),At (by omega) (by omega)];omega
 have up : ∀ i c:Nat,i<256→0<i→i=x / 2 ^ c→x<2 ^ (c+E_ i)∧2 ^ (c+E_ i)≤2*x:=by
   intro i c hi h0 he
   obtain ⟨h1,h2,_⟩:=N7 hi
   have h3:=h2 h0
   rw[Nat.pow_add]
   have hp:0<2 ^ c:=Nat.pow_pos (by decide)
   constructor
   · have:x / 2 ^ c<2 ^ E_ i:=by omega
     rw[Anj hp]at this
     rwa[Anb]
   · have h4:i*2 ^ c≤x:=by rw[he];exact Nat.div_mul_le_self _ _
     calc 2 ^ c*2 ^ E_ i≤2 ^ c*(2*i):=Nat.mul_le_mul_left _ h3
      _=2*(i*2 ^ c):=by rw[Nat.mul_left_comm,Anb (2 ^ c) i]
      _≤2*x:=Nat.mul_le_mul_left _ h4
 by_cases h1:65536≤x
 · by_cases h2:256≤x / 65536
   · have hi:x / 65536 / 256<256:=by omega
     obtain ⟨u1,u2⟩:=up _ 24 hi (by omega) (by rw[Ane])
     have f1:=fin _ 24 hi (by omega)
     refine ⟨24+E_ (x / 65536 / 256),Af 0 tr ?_,by have:=(N7 hi).2.2;omega,u1,fun _=>u2⟩
     refine Ad (Bi (by decide) (Ad (Bi (by decide) (Ax (by rw[Km (by omega) (by omega)];omega) (Ax (by rw[Km (by omega) (by omega)];omega) (Ac ?_))))))
     rw[show Al6 .i64 (16+8)=((24:Nat):Int) by decide,f1]
   · have hi:x / 65536<256:=by omega
     obtain ⟨u1,u2⟩:=up _ 16 hi (by omega) (by rfl)
     have f1:=fin _ 16 hi (by omega)
     refine ⟨16+E_ (x / 65536),Af 0 tr ?_,by have:=(N7 hi).2.2;omega,u1,fun _=>u2⟩
     refine Ad (Bi (by decide) (Aq (Ax (by rw[Km (by omega) (by omega)];omega) (Ax (by rw[Km (by omega) (by omega)];omega) (Ac ?_)))))
     rw[show (16:Int)=((16:Nat):Int) from rfl,f1]
 · by_cases h2:256≤x
   · have hi:x / 256<256:=by omega
     obtain ⟨u1,u2⟩:=up _ 8 hi (by omega) (by rfl)
     have f1:=fin _ 8 hi (by omega)
     refine ⟨8+E_ (x / 256),Af 0 tr ?_,by have:=(N7 hi).2.2;omega,u1,fun _=>u2⟩
     refine Aq (Ad (Bi (by decide) (Ax (by rw[Km (by omega) (by omega)];omega) (Ax (by rw[Km (by omega) (by omega)];omega) (Ac ?_)))))
     rw[show Al6 .i64 (0+8)=((8:Nat):Int) by decide,f1]
   · have hi:x<256:=by omega
     have f1:=fin _ 0 hi (by omega)
     have h8:=N7 hi
     refine ⟨0+E_ x,Af 0 tr ?_,by omega,by rw[Anl];exact h8.1,fun h0=>by rw[Anl];exact h8.2.1 h0⟩
     refine Aq (Aq (Ax (by rw[Km (by omega) (by omega)];omega) (Ax (by rw[Km (by omega) (by omega)];omega) (Ac ?_))))
     rw[show (0:Int)=((0:Nat):Int) from rfl,f1]
theorem AbN(x:Nat)(hx:x<B)(h0:0<x) : ∃ s:Nat,Sp 335 [.int (x:Int)] [.int (s:Int)]∧s<32∧x*2 ^ s<B∧B≤2*(x*2 ^ s):=by
 obtain ⟨k,h1,h2,h3,h4⟩:=AbL x hx
 have h5:=h4 h0
 have hk:0<k:=by
   rcases Nat.eq_zero_or_pos k with e | e
   · subst e;simp at h3;omega
   · exact e
 have hb:B=2 ^ k*2 ^ (32-k):=by rw[← Nat.pow_add,show k+(32-k)=32 by omega];rfl
 have hp:0<2 ^ (32-k):=Nat.pow_pos (by decide)
 refine ⟨32-k,Af 0 (AbK _ _) (Aa h1 (Ac ?_)),by omega,?_,?_⟩
 · simp only[Ag,Al]
   rw[At (by omega) (by omega)];congr 2;omega
 · rw[hb];exact Nat.mul_lt_mul_of_pos_right h3 hp
 · rw[hb,← Nat.mul_assoc];exact Amv _ h5
theorem AfJ{l m:List Ao}(hl:l.length=m.length)(h:nv l=nv m):l=m:=by
 apply List.ext_getElem hl
 intro i g1 g2
 apply BitVec.eq_of_toNat_eq
 rw[Dv l i g1,Dv m i g2,h]
theorem AfK{v k:Nat}(h:v<B ^ k) : ∃ q:List Ao,q.length=k∧nv q=v:=by
 have h2:=A0.2 h
 refine ⟨lb v++Amc (k-(lb v).length) 0,by simp;omega,?_⟩
 rw[G8,W3,Bq];simp
theorem SY{X Y:Nat}(hX:X<18446744073709551616)(hY:Y<18446744073709551616):Bm .or .u64 (X:Int) (Y:Int)=((X|||Y:Nat):Int):=by
 have h:Bm .or .u64 (X:Int) (Y:Int)=bits .or .u64 (X:Int) (Y:Int):=by unfold Bm bits;simp
 rw[h,u64_or_nat X Y hX hY]
theorem Agy{x c s:Nat}(hx:x<B)(hs:s<32)(hc:c<2 ^ s):Bm .or .u64 ((x*2 ^ s:Nat):Int) (c:Int)=((x*2 ^ s+c:Nat):Int)∧x*2 ^ s+c<9223372036854775808:=by
 have h2:2 ^ s≤2 ^ 31:=Nat.pow_le_pow_right (by decide) (by omega)
 have h3:x*2 ^ s≤(B-1)*2 ^ 31:=Nat.mul_le_mul (by omega) h2
 rw[Ay]at *
 refine ⟨?_,by omega⟩
 rw[SY (by omega) (by omega)]
 congr 1
 have:=Nat.shiftLeft_add_eq_or_of_lt (i:=s) (b:=c) hc x
 rw[Nat.shiftLeft_eq]at this
 exact this.symm
theorem UU{s:Nat}(hs:s<32):(2:Int) ^ (min (Ama (Al6 .u64 (s:Int))) (Aml .u64))=((2 ^ s:Nat):Int):=by
 rw[Bn (by omega) (by omega),Amj,show Aml .u64=64 from rfl,Nat.min_eq_left (by omega)];simp
theorem SB(l:List Ao)(s:Nat)(hs:s<32)(hl:l.length≤1000000) : ∃ q:List Ao,q.length=l.length+1∧nv q=nv l*2 ^ s∧Sp 336 [dL l,.int (s:Int)] [dL q]:=by
 have hps:2 ^ s≤2 ^ 31:=Nat.pow_le_pow_right (by decide) (by omega)
 have hs0:0<2 ^ s:=Nat.pow_pos (by decide)
 have hv:nv l*2 ^ s<B ^ (l.length+1):=by
  rw[Anc]
  exact Nat.mul_lt_mul'' (B7 l) (by rw[Ay];omega)
 obtain ⟨q,hq1,hq2⟩:=AfK hv
 refine ⟨q,hq1,hq2,Af (l.length+2) (Afv _ _ _) ?_⟩
 simp only[Ah]
 rw[At (by omega) (by omega)]
 refine Ad (Ad (Ax (by simp only[Aj];omega) ?_))
 rw[show (l.length:Int)+1=((l.length+1:Nat):Int) by omega,Amj]
 have key:=Cw l.length (fun m i (t:List Ao×Nat)=>Wy (l.length+2) m (dL l) (s:Int) ((t.1++Amc (l.length+1-i) 0).map dB) (t.2:Int) (dL l) (l.length:Int) (i:Int)) (fun _ _=>[dL q])
  (fun i t=>t.1.length=i∧t.2<2 ^ s∧nv t.1+B ^ i*t.2=(nv l % B ^ i)*2 ^ s)
  (fun m t ⟨h1,h2,h3⟩=>by
   have hlen:(t.1++Amc (l.length+1-l.length) (0:Ao)).length=l.length+1:=by simp[h1]
   have hc:t.2<B:=by rw[Ay];omega
   rw[Am4 (B7 l)]at h3
   simp only[SC,Ah,hlen]
   rw[Ay]at hc
   rw[E6 (x:=(t.2:Int)) (by omega) (by omega)]
   rw[← Ay]at hc
   refine Aq (Ad (Ad (Ac ?_)))
   rw[Ea hc,map_set,List.set_append_right _ _ (by omega),h1,Nat.sub_self,show l.length+1-l.length=1 by omega]
   have:t.1++[Amt 32 t.2]=q:=AfJ (by simp[h1,hq1]) (by rw[Il,h1,ofNat_lt hc,h3,hq2])
   rw[← this];rfl)
  (fun m i t hi ⟨h1,h2,h3⟩ ih=>by
   have gx:=Dv l i hi
   have xl:nv l / B ^ i % B<B:=Am5 _ Bw
   have hms:nv l % B ^ (i+1)=nv l % B ^ i+B ^ i*(nv l / B ^ i % B):=Nat.mod_pow_succ
   have hlen:(t.1++Amc (l.length+1-i) (0:Ao)).length=l.length+1:=by simp[h1];omega
   have gX:(l.map dB).getD i D.nil=D.int ((nv l / B ^ i % B:Nat):Int):=by rw[As (Amb hi),← gx];rfl
   simp only[SC,Ah,gX,hlen,UU hs,Bb i]
   generalize nv l / B ^ i % B=x at *
   obtain ⟨ho,hT⟩:=Agy xl hs h2
   have hxB:=xl
   rw[Ay]at hxB
   rw[Bn (x:=(x:Int)) (by omega) (by omega),← Int.natCast_mul,Bn (x:=((x*2 ^ s:Nat):Int)) (by omega) (by omega),ho]
   generalize hTT:x*2 ^ s+t.2=T at *
   have hTl:=Am5 T Bw
   have t4:Al6 .u32 (T:Int)=((T % B:Nat):Int):=by rw[IntKind.wrap_u32,Ay];omega
   have Cg:((t.1++Amc (l.length+1-i) 0).map dB).set i (D.int ((T % B:Nat):Int))=((t.1++[Amt 32 (T % B)])++Amc (l.length+1-(i+1)) 0).map dB:=by
     rw[Ea hTl,map_set,List.set_append_right _ _ (by omega),h1,Nat.sub_self,show l.length+1-i=(l.length+1-(i+1))+1 by omega,List.replicate_succ,List.set_cons_zero];simp
   rw[t4,Cg,Nm]
   refine Ad (Ad (Ad (Ax (by rw[Bn (by omega) (by omega)];omega) (Ad (Ad (Bi (by decide) ?_))))))
   refine ih (t.1++[Amt 32 (T % B)],T / 4294967296) ⟨by simp[h1],?_,?_⟩
   · show T / B<2 ^ s
     rw[Anj Bw,← hTT]
     have:x*2 ^ s+2 ^ s≤B*2 ^ s:=by rw[← Nat.succ_mul];exact Amv _ xl
     rw[Anb (2 ^ s) B];omega
   · show nv (t.1++[Amt 32 (T % B)])+B ^ (i+1)*(T / B)=_
     rw[Il,h1,ofNat_lt hTl,hms,Nat.add_mul,← h3,Anc,Nat.mul_assoc,Nat.mul_assoc (B ^ i) x,Nat.add_assoc,← Nat.mul_add,Nat.mod_add_div,← hTT,Nat.mul_add]
     omega)
  (l.length+2) 0 ([],0) (by omega) (by omega) ⟨rfl,hs0,by simp[Nat.mod_one,nv]⟩
 have e0:(([]:List Ao)++Amc (l.length+1-0) 0).map dB=Amc (l.length+1) (D.int 0):=by simp[List.map_replicate];rfl
 rw[e0]at key
 exact key
theorem AcC(V s k:Nat)(hs:s<32):V / 2 ^ s / B ^ k % B=((V / B ^ (k+1) % B)*B+V / B ^ k % B) / 2 ^ s % B:=by
 have hs0:0<2 ^ s:=Nat.pow_pos (by decide)
 have hB:B=2 ^ s*2 ^ (32-s):=by rw[← Nat.pow_add,show s+(32-s)=32 by omega];rfl
 rw[Ane,Anb (2 ^ s),← Ane,Anc,← Ane]
 generalize V / B ^ k=W
 have h1:W=(W / B % B*B+W % B)+2 ^ s*(B*(2 ^ (32-s)*(W / B / B))):=by
  have e1:=Nat.div_add_mod W B
  have e2:=Nat.div_add_mod (W / B) B
  have e3:2 ^ s*(B*(2 ^ (32-s)*(W / B / B)))=B*(B*(W / B / B)):=by
   rw[Nat.mul_left_comm,← Nat.mul_assoc (2 ^ s),← hB]
  rw[e3,Anb (W / B % B) B]
  have e4:B*(W / B)=B*(B*(W / B / B))+B*(W / B % B):=by rw[← Nat.mul_add,e2]
  omega
 have h2:W / 2 ^ s=(W / B % B*B+W % B) / 2 ^ s+B*(2 ^ (32-s)*(W / B / B)):=by
  have:W / 2 ^ s=((W / B % B*B+W % B)+2 ^ s*(B*(2 ^ (32-s)*(W / B / B)))) / 2 ^ s:=by rw[← h1]
  rw[this,Nat.add_mul_div_left _ _ hs0]
 rw[h2,Nat.add_mul_mod_self_left]
theorem Afj(l:List Ao)(s:Nat)(hs:s<32)(hl:l.length≤1000000):Sp 340 [dL l,.int (s:Int)] [dL (lb (nv l / 2 ^ s))]:=by
 refine Af (l.length+1) (Afk _ _ _) ?_
 simp only[Ah]
 refine Ad (Ad (Ax (by simp only[Aj];omega) ?_))
 have key:=Ii (P:=Tryz.prog) (md:=md) (fun m k (hi:List Ao)=>Wp (l.length+1) m (dL l) (s:Int) ((Amc k 0++hi).map dB) ((nv l / B ^ k % B:Nat):Int) ((k:Int)-1)) (fun _ _=>[dL (lb (nv l / 2 ^ s))])
  (fun k hi=>k≤l.length∧hi.length=l.length-k∧nv hi=nv l / 2 ^ s / B ^ k)
  (fun m hi ⟨h0,h1,h2⟩=>by
   simp only[RY,List.replicate_zero,Anm,Ah]
   refine Aq (Aa (Fd hi (by omega)) (Ac ?_))
   rw[h2,Nat.pow_zero,Nat.div_one];rfl)
  (fun m k hi ⟨h0,h1,h2⟩ ih=>by
   have hk:k<l.length:=by omega
   have gx:=Dv l k hk
   have xl:nv l / B ^ k % B<B:=Am5 _ Bw
   have yl:nv l / B ^ (k+1) % B<B:=Am5 _ Bw
   have hd:=AcC (nv l) s k hs
   have hlen:(Amc (k+1) (0:Ao)++hi).length=l.length:=by simp[h1];omega
   have gX:(l.map dB).getD k D.nil=D.int ((nv l / B ^ k % B:Nat):Int):=by rw[As (Amb hk),← gx];rfl
   have b64:(2:Int) ^ (min (Ama 32) (Aml .u64))=4294967296:=by decide
   have rc:=ih (Amt 32 (((nv l / B ^ (k+1) % B)*B+nv l / B ^ k % B) / 2 ^ s % B)::hi) ⟨by omega,by simp[h1];omega,by
    rw[nv,ofNat_lt (Am5 _ Bw),h2,← hd,Anc,← Ane]
    exact Nat.mod_add_div _ _⟩
   simp only[RY,show ((k+1:Nat):Int)-1=(k:Int) by omega,Ah,gX,hlen,UU hs,b64]
   generalize nv l / B ^ k % B=x at *
   generalize nv l / B ^ (k+1) % B=y at *
   have hxB:=xl
   have hyB:=yl
   rw[Ay]at hxB hyB
   have t1:Al6 .u64 ((y:Int)*4294967296)=((y*4294967296:Nat):Int):=by rw[Bn (by omega) (by omega)];omega
   rw[t1,Bn (x:=(x:Int)) (by omega) (by omega),W9 hyB hxB,NQ]
   have t4:Al6 .u32 (((y*4294967296+x) / 2 ^ s:Nat):Int)=(((y*B+x) / 2 ^ s % B:Nat):Int):=by
    rw[show y*4294967296+x=y*B+x from rfl]
    generalize (y*B+x) / 2 ^ s=T
    rw[IntKind.wrap_u32,Ay];omega
   have hTl:=Am5 ((y*B+x) / 2 ^ s) Bw
   have Cg:((Amc (k+1) 0++hi).map dB).set k (D.int (((y*B+x) / 2 ^ s % B:Nat):Int))=(Amc k 0++(Amt 32 ((y*B+x) / 2 ^ s % B)::hi)).map dB:=by
    rw[Ea hTl,map_set,List.replicate_succ',Amz,List.set_append_right _ _ (by simp)];simp
   rw[t4,Cg,At (by omega) (by omega)]
   refine Ad (Bi (by decide) (Ad (Ad (Ax (by rw[Bn (by omega) (by omega)];omega) (Ad (Ad (Ad (Ad ?_))))))))
   exact rc)
  (l.length+1) l.length [] (by omega) ⟨by omega,by simp,by
   rw[Nat.div_eq_of_lt (Nat.lt_of_le_of_lt (Nat.div_le_self _ _) (B7 l))];rfl⟩
 rw[Amx,Nat.div_eq_of_lt (B7 l),Nat.zero_mod]at key
 have e0:(Amc l.length (0:Ao)).map dB=Amc l.length (D.int 0):=by rw[List.map_replicate];rfl
 rw[e0]at key
 rw[At (by omega) (by omega)]
 exact key
theorem AcO{U D D2 U3 p g:Nat}(hD:D<(D2+1)*p)(hU:U3*p≤U)(hg:g*D2≤U3)(hg1:g≤D2+1)(hD0:0<D):g≤U / D+1:=by
 rcases Nat.eq_zero_or_pos g with h0 | h0
 · rw[h0];exact Nat.zero_le _
 obtain ⟨h,rfl⟩ : ∃ h,g=h+1:=⟨g-1,by omega⟩
 refine Nat.succ_le_succ ((Nat.le_div_iff_mul_le hD0).2 ?_)
 have h1:h*D≤h*((D2+1)*p):=Nat.mul_le_mul_left _ (Nat.le_of_lt hD)
 have h2:h*(D2+1)≤(h+1)*D2:=by rw[Nat.mul_add,Nat.add_mul];omega
 calc h*D≤h*((D2+1)*p):=h1
  _=h*(D2+1)*p:=by rw[Nat.mul_assoc]
  _≤(h+1)*D2*p:=Amv _ h2
  _≤U3*p:=Amv _ hg
  _≤U:=hU
theorem AcN{U D D2 U3 p g:Nat}(hD:D2*p≤D)(hU:U<(U3+1)*p)(hgt:U3<g*D2)(hD0:0<D):U / D<g:=by
 rw[Anj hD0]
 calc U<(U3+1)*p:=hU
  _≤g*D2*p:=Amv _ hgt
  _=g*(D2*p):=Nat.mul_assoc _ _ _
  _≤g*D:=Nat.mul_le_mul_left _ hD
theorem Afl(xs ds:List Ao)(n:Nat)(hd:ds.length=n+2)(hx:xs.length=n+3)(hn:n≤1000000)(htop:B ^ (n+2)≤2*nv ds)(hU:nv xs<B*nv ds) :
  ∃ g:Nat,Sp 337 [dL xs,dL ds] [.int (g:Int)]∧nv xs / nv ds≤g∧g≤nv xs / nv ds+1∧g<B:=by
 have xl:=B7 xs
 have dl:=B7 ds
 rw[hx]at xl
 rw[hd]at dl
 have hp:=Bp n
 have a0:=Dv xs n (by omega)
 have a1:=Dv xs (n+1) (by omega)
 have a2:=Dv xs (n+2) (by omega)
 have d0:=Dv ds n (by omega)
 have d1:=Dv ds (n+1) (by omega)
 have gx0:(xs.map dB).getD n D.nil=D.int ((nv xs / B ^ n % B:Nat):Int):=by rw[As (Amb (show n<xs.length by omega)),← a0];rfl
 have gx1:(xs.map dB).getD (n+1) D.nil=D.int ((nv xs / B ^ (n+1) % B:Nat):Int):=by rw[As (Amb (show n+1<xs.length by omega)),← a1];rfl
 have gx2:(xs.map dB).getD (n+2) D.nil=D.int ((nv xs / B ^ (n+2) % B:Nat):Int):=by rw[As (Amb (show n+2<xs.length by omega)),← a2];rfl
 have gd0:(ds.map dB).getD n D.nil=D.int ((nv ds / B ^ n % B:Nat):Int):=by rw[As (Amb (show n<ds.length by omega)),← d0];rfl
 have gd1:(ds.map dB).getD (n+1) D.nil=D.int ((nv ds / B ^ (n+1) % B:Nat):Int):=by rw[As (Amb (show n+1<ds.length by omega)),← d1];rfl
 clear a0 a1 a2 d0 d1
 generalize nv xs=U at *
 generalize nv ds=D at *
 have eB2:B ^ (n+2)=B ^ n*(B*B):=by rw[Nat.pow_add];rfl
 have eB3:B ^ (n+3)=B ^ n*(B*B*B):=by rw[Nat.pow_add];rfl
 have e1U:U / B ^ (n+1)=U / B ^ n / B:=by rw[Anc,Ane]
 have e2U:U / B ^ (n+2)=U / B ^ n / B / B:=by rw[eB2,Ane,Ane]
 have e1D:D / B ^ (n+1)=D / B ^ n / B:=by rw[Anc,Ane]
 rw[e1U]at gx1
 rw[e2U]at gx2
 rw[e1D]at gd1
 have hD1:D / B ^ n*B ^ n≤D:=Nat.div_mul_le_self _ _
 have hD2:D<(D / B ^ n+1)*B ^ n:=by have:=Nat.lt_mul_div_succ D hp;rwa[Anb]at this
 have hU1:U / B ^ n*B ^ n≤U:=Nat.div_mul_le_self _ _
 have hU2:U<(U / B ^ n+1)*B ^ n:=by have:=Nat.lt_mul_div_succ U hp;rwa[Anb]at this
 have hU3:U / B ^ n<B*B*B:=by rw[Anj hp,Anb];rwa[eB3]at xl
 have hDs:D / B ^ n<B*B:=by rw[Anj hp,Anb];rwa[eB2]at dl
 have hDt:B*B≤2*(D / B ^ n)+1:=by
  have h1:B ^ n*(B*B)<B ^ n*(2*(D / B ^ n)+2):=by
   rw[← eB2,Nat.mul_add]
   have:B ^ n*(2*(D / B ^ n))=2*(D / B ^ n*B ^ n):=by rw[Nat.mul_left_comm,Anb (B ^ n)]
   rw[this]
   have h3:D<D / B ^ n*B ^ n+B ^ n:=by rwa[Nat.add_mul,Nat.one_mul]at hD2
   omega
  have:=Nat.lt_of_mul_lt_mul_left h1
  omega
 have hD0:0<D:=by
  rcases Nat.eq_zero_or_pos D with h | h
  · rw[h]at hU;omega
  · exact h
 have hUD:U / B ^ n<B*(D / B ^ n+1):=by
  rw[Anj hp,Nat.mul_assoc]
  exact Nat.lt_trans hU (Nat.mul_lt_mul_of_pos_left hD2 Bw)
 have hqB:U / D<B:=by rw[Anj hD0];exact hU
 generalize hU3e:U / B ^ n=U3 at *
 generalize hD2e:D / B ^ n=D2 at *
 have x0l:=Am5 U3 Bw
 have x1l:=Am5 (U3 / B) Bw
 have x2l:U3 / B / B<B:=by rw[Ane,Anj (by decide)];rwa[← Nat.mul_assoc]
 have y0l:=Am5 D2 Bw
 have y1l:D2 / B<B:=by rw[Anj Bw];exact hDs
 rw[Am4 x2l]at gx2
 rw[Am4 y1l]at gd1
 have eU:U3=U3 % B+B*(U3 / B % B+B*(U3 / B / B)):=by
  rw[Nat.mod_add_div,Nat.mod_add_div]
 have eD:D2=D2 % B+B*(D2 / B):=(Nat.mod_add_div _ _).symm
 generalize U3 % B=x0 at *
 generalize U3 / B % B=x1 at *
 generalize U3 / B / B=x2 at *
 generalize D2 % B=y0 at *
 generalize D2 / B=y1 at *
 have y1g:2147483648≤y1:=by rw[Ay]at *; omega
 have x2y:x2≤y1:=by rw[Ay]at *; omega
 have fin : ∀ g:Nat,g<B→U / D≤g→g*D2≤U3→U / D≤g∧g≤U / D+1∧g<B:=fun g h1 h2 h3 =>
  ⟨h2,AcO hD2 hU1 h3 (by rw[Ay]at *; omega) hD0,h1⟩
 have eH:U3=(x2*B+x1)*B+x0:=by rw[eU,Nat.add_mul,Nat.mul_add,Anb B (B*x2),Anb B x2,Anb B x1];omega
 have b64:(2:Int) ^ (min (Ama 32) (Aml .u64))=4294967296:=by decide
 have wy1:Al6 .u64 (y1:Int)=(y1:Int):=by rw[Ay]at *; exact Bn (by omega) (by omega)
 have wy0:Al6 .u64 (y0:Int)=(y0:Int):=by rw[Ay]at *; exact Bn (by omega) (by omega)
 have wx0:Al6 .u64 (x0:Int)=(x0:Int):=by rw[Ay]at *; exact Bn (by omega) (by omega)
 have wx1:Al6 .u64 (x1:Int)=(x1:Int):=by rw[Ay]at *; exact Bn (by omega) (by omega)
 have wx2:Al6 .u64 (x2:Int)=(x2:Int):=by rw[Ay]at *; exact Bn (by omega) (by omega)
 have i1:Al6 .i64 (((n+2:Nat):Int)-1)=((n+1:Nat):Int):=by rw[At (by omega) (by omega)];omega
 have i2:Al6 .i64 (((n+2:Nat):Int)-2)=((n:Nat):Int):=by rw[At (by omega) (by omega)];omega
 have loop : ∀ (m N g r:Nat),g<m→g*y1+r=x2*B+x1→U / D≤g→r<B →
   ∃ y:Nat,Tw (Oe N m (dL xs) (dL ds) ((n+2:Nat):Int) (g:Int) (r:Int)) [.int (y:Int)]∧U / D≤y∧y≤U / D+1∧y<B:=by
  intro m
  induction m with
  | zero=>intro N g r h;omega
  | succ m ih =>
   intro N g r hm he hq hr
   have gl:g<18446744073709551616:=by
     have:g*1≤g*y1:=Nat.mul_le_mul_left _ (by omega)
     rw[Ay]at *; omega
   have e1:Al6 .u64 ((r:Int)+(y1:Int))=((r+y1:Nat):Int):=by rw[Ay]at *; rw[Bn (by omega) (by omega)];omega
   have stp:0<g→U / D≤g-1→∃ y:Nat,Tw (.br (decide (0≤((n+1:Nat):Int))) (.br (decide (((n+1:Nat):Int)<((n+2:Nat):Int))) (.br (decide ((0:Int)≤32)) (.br (decide (¬ (((r+y1) / 4294967296:Nat):Int)=0)) (.ret [.int (Al6 .u64 ((g:Int)-1))]) (Oe N m (dL xs) (dL ds) ((n+2:Nat):Int) (Al6 .u64 ((g:Int)-1)) ((r+y1:Nat):Int))) .fail) .fail) .fail) [.int (y:Int)]∧U / D≤y∧y≤U / D+1∧y<B:=by
     intro h0 hq'
     obtain ⟨h,rfl⟩ : ∃ h,g=h+1:=⟨g-1,by omega⟩
     simp only[Nat.add_sub_cancel]at hq'
     have ew:Al6 .u64 (((h+1:Nat):Int)-1)=(h:Int):=by rw[Bn (by omega) (by omega)];omega
     rw[ew]
     have he':h*y1+(r+y1)=x2*B+x1:=by rw[← he,Nat.add_mul];omega
     by_cases hb:r+y1<B
     · obtain ⟨y,t1,t2⟩:=ih N h (r+y1) (by omega) he' hq' hb
       refine ⟨y,Ad (Ad (Bi (by decide) (M4 ?_ t1))),t2⟩
       rw[Ay]at hb;omega
     · have hlt:h<B:=by
         have h3:x2*B≤y1*B:=Amv _ x2y
         have h4:h*y1<B*y1:=by rw[Anb B y1];omega
         exact Nat.lt_of_mul_lt_mul_right h4
       refine ⟨h,Ad (Ad (Bi (by decide) (Ax ?_ (Ac rfl)))),fin h hlt hq' ?_⟩
       · rw[Ay]at hb;omega
       · have h5:h*y0≤B*B:=Nat.mul_le_mul (by omega) (by omega)
         have h6:B*B≤(r+y1)*B:=Amv _ (by omega)
         rw[eH,← he',eD,Nat.mul_add,Nat.add_mul,Nat.mul_left_comm h B y1,Anb B (h*y1)]
         omega
   simp only[Afm,Ah,hd,hx,i1,i2,gx0,gd0,gd1,wy1,wy0,wx0,e1,Nm]
   by_cases hgB:g<B
   · have c0:((g / 4294967296:Nat):Int)=0:=by rw[Ay]at hgB;omega
     have hrB:=hr
     have x0B:=x0l
     rw[Ay]at hrB x0B
     have t1:Al6 .u64 ((r:Int)*4294967296)=((r*4294967296:Nat):Int):=by rw[Bn (by omega) (by omega)];omega
     have gy:g*y0≤(B-1)*(B-1):=Nat.mul_le_mul (by omega) (by omega)
     have t2:Al6 .u64 ((g:Int)*(y0:Int))=((g*y0:Nat):Int):=by rw[← Int.natCast_mul];rw[Ay]at gy;exact Bn (by omega) (by omega)
     rw[b64,t1,W9 hrB x0B,t2,c0]
     by_cases ht:r*B+x0<g*y0
     · have hlow:U / D<g:=AcN hD1 hU2 (by
         rw[eH,← he,eD,Nat.mul_add,Nat.add_mul,Nat.mul_left_comm g B y1,Anb B (g*y1)];omega) hD0
       obtain ⟨y,s1,s2⟩:=stp (Nat.lt_of_le_of_lt (Nat.zero_le _) hlow) (Nat.le_sub_one_of_lt hlow)
       refine ⟨y,Bi (by decide) (Aq (Ad (Ad (Bi (by decide) (Ad (Ad (Ax ?_ s1))))))),s2⟩
       rw[Ay]at ht;omega
     · refine ⟨g,Bi (by decide) (Aq (Ad (Ad (Bi (by decide) (Ad (Ad (M4 ?_ (Ac rfl)))))))),fin g hgB hq ?_⟩
       · rw[Ay]at ht;omega
       · rw[eH,← he,eD,Nat.mul_add,Nat.add_mul,Nat.mul_left_comm g B y1,Anb B (g*y1)];omega
   · obtain ⟨y,s1,s2⟩:=stp (by rw[Ay]at hgB;omega) (by omega)
     refine ⟨y,Bi (by decide) (Ax ?_ s1),s2⟩
     rw[Ay]at hgB;omega
 have hH:(x2*B+x1) / y1*y1+(x2*B+x1) % y1=x2*B+x1:=by rw[Anb];exact Nat.div_add_mod _ _
 have hr0:(x2*B+x1) % y1<B:=Nat.lt_trans (Am5 _ (by omega)) y1l
 have hq0:U / D≤(x2*B+x1) / y1:=by
  rw[Nat.le_div_iff_mul_le (by omega)]
  have h1:U / D*D≤U:=Nat.div_mul_le_self _ _
  have h2:U / D*(D2*B ^ n)<(U3+1)*B ^ n:=Nat.lt_of_le_of_lt (Nat.le_trans (Nat.mul_le_mul_left _ hD1) h1) hU2
  rw[← Nat.mul_assoc]at h2
  have h3:=Nat.lt_of_mul_lt_mul_right h2
  have h4:U / D*(B*y1)≤U / D*D2:=Nat.mul_le_mul_left _ (by omega)
  have h5:U / D*y1*B<(x2*B+x1+1)*B:=by
   have:U / D*(B*y1)=U / D*y1*B:=by rw[Anb B y1,Nat.mul_assoc]
   rw[← this,Nat.add_mul,Nat.one_mul]
   omega
  have:=Nat.lt_of_mul_lt_mul_right h5
  omega
 obtain ⟨g,l1,l2⟩:=loop ((x2*B+x1) / y1+1) ((x2*B+x1) / y1+1) ((x2*B+x1) / y1) ((x2*B+x1) % y1) (by omega) hH hq0 hr0
 refine ⟨g,Af ((x2*B+x1) / y1+1) (Afn _ _ _) ?_,l2⟩
 have x1B:=x1l
 have x2B:=x2l
 rw[Ay]at x1B x2B
 have t1:Al6 .u64 ((x2:Int)*4294967296)=((x2*4294967296:Nat):Int):=by rw[Bn (by omega) (by omega)];omega
 have hne:decide ¬ (y1:Int)=0=true:=by simp;omega
 have eq1:Al6 .u64 (Int.tdiv ((x2*4294967296+x1:Nat):Int) (y1:Int))=(((x2*B+x1) / y1:Nat):Int):=by
  rw[show Int.tdiv ((x2*4294967296+x1:Nat):Int) (y1:Int)=(((x2*B+x1) / y1:Nat):Int) from rfl]
  have h1:(x2*B+x1) / y1≤x2*B+x1:=Nat.div_le_self _ _
  generalize (x2*B+x1) / y1=Q at h1 ⊢
  rw[Ay]at h1
  exact Bn (by omega) (by omega)
 have eq2:Int.tmod ((x2*4294967296+x1:Nat):Int) (y1:Int)=(((x2*B+x1) % y1:Nat):Int):=rfl
 simp only[Ah,hd,hx,i1,gx1,gx2,gd1,wy1,wx1,wx2,b64,t1,W9 x2B x1B,eq1,eq2]
 exact Ad (Ad (Bi (by decide) (Ad (Ad (Ad (Ad (Ad (Ad (Ad (Ad l1))))))))))
open Go.RowKit
def Nc(x y c:Int):Int:=if x<y+c then 1 else 0
theorem AkI(x y c:Int)(hx1:0≤x)(hx2:x<4294967296)(hy1:0≤y)(hy2:y<4294967296)(hc1:0≤c)(hc2:c≤1) :
  bits BinOp.or IntKind.u32 (bits BinOp.and IntKind.u32 (bits BinOp.xor IntKind.u32 IntKind.u32.max x) y) (bits BinOp.and IntKind.u32 (bits BinOp.xor IntKind.u32 IntKind.u32.max (bits BinOp.xor IntKind.u32 x y)) ((x-y-c) % 4294967296)) / 2147483648=Nc x y c:=by
 obtain ⟨X,rfl⟩:=Int.eq_ofNat_of_zero_le hx1
 obtain ⟨Y,rfl⟩:=Int.eq_ofNat_of_zero_le hy1
 obtain ⟨C,rfl⟩:=Int.eq_ofNat_of_zero_le hc1
 have hD0:0≤((X:Int)-Y-C) % 4294967296:=by omega
 obtain ⟨D,hD⟩:=Int.eq_ofNat_of_zero_le hD0
 have hm:IntKind.u32.max=((4294967295:Nat):Int):=by decide
 have e1:(4294967295^^^X)<2 ^ 32:=Nat.xor_lt_two_pow (by omega) (by omega)
 have e2:(X^^^Y)<2 ^ 32:=Nat.xor_lt_two_pow (by omega) (by omega)
 have e3:(4294967295^^^(X^^^Y))<2 ^ 32:=Nat.xor_lt_two_pow (by omega) e2
 have e4:((4294967295^^^X)&&&Y)<2 ^ 32:=Nat.and_lt_two_pow _ (by omega)
 have e5:((4294967295^^^(X^^^Y))&&&D)<2 ^ 32:=Nat.and_lt_two_pow _ (by omega)
 rw[hD,hm,u32_xor_nat 4294967295 X (by omega) (by omega),u32_xor_nat X Y (by omega) (by omega),u32_xor_nat 4294967295 _ (by omega) (by omega),u32_and_nat _ Y (by omega) (by omega),u32_and_nat _ D (by omega) (by omega),u32_or_nat _ _ (by omega) (by omega)]
 have:=Aal X Y D C (by omega) (by omega) (by omega) (by rw[← hD])
 rw[this];unfold Nc
 by_cases h:X<Y+C
 · rw[if_pos h,if_pos (by omega)]
 · rw[if_neg h,if_neg (by omega)]
set_option maxHeartbeats 400000 in
theorem Abc(x y c:Int)(w:World)(hx:0≤x∧x<4294967296)(hy:0≤y∧y<4294967296)(hc:0≤c∧c≤1) :
  Calls Tryz.prog 333 #[.int .u32 x,.int .u32 y,.int .u32 c] w fun e w'=>e = .returned (.tuple #[.int .u32 ((x+y+c) % 4294967296),.int .u32 ((x+y+c) / 4294967296)])∧w=w':=by
 obtain ⟨hx1,hx2⟩:=hx
 obtain ⟨hy1,hy2⟩:=hy
 obtain ⟨hc1,hc2⟩:=hc
 go_enter Tryz.func333,Tryz.ntmps333
 go_wp2
 go_ret2
 exact ⟨rfl,rfl⟩
set_option maxHeartbeats 400000 in
theorem Aaj(x y c:Int)(w:World)(hx:0≤x∧x<4294967296)(hy:0≤y∧y<4294967296)(hc:0≤c∧c≤1) :
  Calls Tryz.prog 334 #[.int .u32 x,.int .u32 y,.int .u32 c] w fun e w'=>e = .returned (.tuple #[.int .u32 ((x-y-c) % 4294967296),.int .u32 (Nc x y c)])∧w=w':=by
 obtain ⟨hx1,hx2⟩:=hx
 obtain ⟨hy1,hy2⟩:=hy
 obtain ⟨hc1,hc2⟩:=hc
 go_enter Tryz.func334,Tryz.ntmps334
 go_wp2
 go_ret2
 exact ⟨by rw[← AkI x y c hx1 hx2 hy1 hy2 hc1 hc2];rfl,rfl⟩
def iB(b:Ao):Int:=(b.toNat:Int)
def M7(w:World)(v:Value)(l:List Ao):Prop:=SlI w v .u32 (l.map iB)
def OwL(w0 w:World)(G cap:Nat)(l:List Ao):Prop:=Own w0 w 180 1 l.length (.slice (some ⟨G,0,none⟩) l.length cap) ((l.map iB).map (.int .u32))
theorem OwL.cell {w0 w:World} {G cap:Nat} {l:List Ao} (h:OwL w0 w G cap l) (i:Nat) (hi:i<l.length):w.cell? ⟨G,i,none⟩=some (.int .u32 ((l[i]).toNat:Int))∧w.frozen? ⟨G,i,none⟩=false∧w0.heap.size≤G∧G<w.heap.size:=by
 obtain ⟨g,cap',hv,h1,h2,h3,h4,h5,h6⟩:=h.at_ (by omega)
 injection hv with hA _ hc
 cases hA
 exact ⟨h4 i _ (by simp[hi,iB]),h5 i,h1,h2⟩
theorem OwL.set {w0 w:World} {G cap:Nat} {l:List Ao} (h:OwL w0 w G cap l) (i:Nat) (hi:i<l.length) (x:Ao):OwL w0 (w.setCell ⟨G,i,none⟩ (.int .u32 (x.toNat:Int))) G cap (l.set i x):=by
 obtain ⟨g,cap',hv,h1,h2,h3,h4,h5,h6⟩:=h.at_ (by omega)
 injection hv with hA _ hc
 cases hA
 have:=h6 i (.int .u32 (x.toNat:Int))
 unfold OwL
 rw[List.length_set,List.map_set,List.map_set]
 exact this
theorem Qi(w:World)(G:Nat):w.grownBy w (some G):=World.grownBy.refl w _
def KP(w0 w:World)(lo xs hi ds:List Ao)(G cap g:Nat)(e:Ending)(w':World):Prop :=
 ∃ (out:List Ao) (b:Nat),b≤1∧e = .returned (.bool (!(b == 0)))∧out.length=xs.length∧nv out+g*nv ds=nv xs+B ^ xs.length*b∧OwL w0 w' G cap (lo++out++hi)∧w.grownBy w' (some G)
theorem BH{lo out xs hi:List Ao}{i:Nat}(h:out.length=i)(hi':i<xs.length)(x:Ao):(lo++(out++xs.drop i)++hi).set (lo.length+i) x=lo++((out++[x])++xs.drop (i+1))++hi:=by
 rw[Amz,List.set_append_right _ _ (by omega),Nat.add_sub_cancel_left,List.set_append_left _ _ (by simp;omega),List.set_append_right _ _ (by omega),h,Nat.sub_self,Am2 hi',List.set_cons_zero]
 simp
theorem BF{lo out xs hi:List Ao}{i:Nat}(h:out.length=i)(hi':i<xs.length)(hk:lo.length+i<(lo++(out++xs.drop i)++hi).length):(lo++(out++xs.drop i)++hi)[lo.length+i]=xs[i]:=by
 have:(lo++(out++xs.drop i)++hi)[lo.length+i]? = some xs[i]:=by
  rw[Amz,List.getElem?_append_right (by omega),Nat.add_sub_cancel_left,Am0 (by simp;omega),List.getElem?_append_right (by omega),h,Nat.sub_self]
  simp[hi']
 rw[Amb hk]at this
 exact Option.some.inj this
theorem Oh(l:List Ao)(i:Nat)(hi:i<l.length):nv (l.take (i+1))=nv (l.take i)+B ^ i*(l[i]).toNat:=by
 rw[List.take_succ_eq_append_getElem hi,Il,Amr,Nat.min_eq_left (by omega)]
theorem Aau{O g D U P c b x t X z b':Nat}(h:O+g*D=U+P*(c+b))(ht:t=g*x+c)(hz:X+B*b'=z+t % B+b):(O+P*z)+g*(D+P*x)=(U+P*X)+P*B*(t / B+b'):=by
 have e1:P*(X+B*b')=P*(z+t % B+b):=by rw[hz]
 have e2:t % B+B*(t / B)=t:=Nat.mod_add_div _ _
 have e3:P*(t % B+B*(t / B))=P*(g*x+c):=by rw[e2,ht]
 have e4:g*(P*x)=P*(g*x):=Nat.mul_left_comm _ _ _
 simp only[Nat.mul_add,Nat.mul_assoc]at *
 omega
theorem ME{X t b:Nat}(hX:X<B)(hb:b≤1) : ∃ z b':Nat,z<B∧b'≤1∧X+B*b'=z+t % B+b∧(((X:Int)-((t % B:Nat):Int)-(b:Int)) % 4294967296=(z:Int))∧Nc (X:Int) ((t % B:Nat):Int) (b:Int)=(b':Int):=by
 have:=Am5 t Bw
 generalize t % B=s at *
 rw[Ay]at *
 by_cases h:X<s+b
 · exact ⟨X+4294967296-s-b,1,by omega,by omega,by omega,by omega,by unfold Nc;rw[if_pos (by omega)];rfl⟩
 · exact ⟨X-s-b,0,by omega,by omega,by omega,by omega,by unfold Nc;rw[if_neg (by omega)];rfl⟩
set_option maxHeartbeats 2000000 in
theorem AkM(w0 w:World)(lo xs hi ds:List Ao)(G cap c' g:Nat)(v:Value)(hxs:xs.length=ds.length+1)(hlen:(lo++xs++hi).length≤1000000000)(hc':xs.length≤c')(hown:OwL w0 w G cap (lo++xs++hi))(hds : ∀ w',w.grownBy w' (some G)→M7 w' v ds)(hg:g<B) :
  Calls Tryz.prog 338 #[.slice (some ⟨G,lo.length,none⟩) xs.length c',v,.int .u64 g] w (KP w0 w lo xs hi ds G cap g):=by
 obtain ⟨A,cd,rfl,hcd,_⟩:=(hds w (Qi w G)).form
 have hll:lo.length+xs.length+hi.length≤1000000000:=by have:=hlen;simp at this;omega
 rw[Amd]at hds hcd ⊢
 have HO:=Lib.hid hown
 have HD:=Lib.hid hds
 have HG:=Lib.hid hg
 rw[Ay]at hg
 clear hown hds hlen
 generalize hn:ds.length=n at *
 rw[hxs]
 go_enter Tryz.func338,Tryz.ntmps338
 go_wp2_with fail
 go_loopw [7,8,15] (fun cv bv iv wr=>∃ (k c b:Nat) (out:List Ao),k≤n∧iv = .int .i64 k∧cv = .int .u64 c∧bv = .int .u32 b∧out.length=k∧c<B∧b≤1∧nv out+g*nv (ds.take k)=nv (xs.take k)+B ^ k*(c+b)∧OwL w0 wr G cap (lo++(out++xs.drop k)++hi)∧w.grownBy wr (some G)) (fun _ _ iv _=>n-(intOf iv).toNat)
 case atStart=>exact ⟨0,0,0,[],Nat.zero_le _,rfl,rfl,rfl,rfl,Bw,by omega,by simp[nv],by simpa using HO.out,Qi w G⟩
 case round =>
  obtain ⟨k,c,b,out,hk,rfl,rfl,rfl,ho,hc,hb,heq,hown,hgr⟩:=hrel
  have HQ:=Lib.hid heq
  have HOW:=Lib.hid hown
  have HGR:=Lib.hid hgr
  have HC:=Lib.hid hc
  rw[Ay]at hc
  clear heq hown hgr
  by_cases hlt:k<n
  · have hkx:k<xs.length:=by omega
    have hkl:lo.length+k<(lo++(out++xs.drop k)++hi).length:=by simp;omega
    obtain ⟨hcell,hfk,hG1,hG2⟩:=HOW.out.cell (lo.length+k) hkl
    rw[BF ho hkx hkl]at hcell
    obtain ⟨_,_,hvq,_,hclq⟩:=(HD.out wr HGR.out).form
    injection hvq with hvq1 hvq2 hvq3
    subst hvq1
    subst hvq3
    clear hvq2
    obtain ⟨ad,rfl,hb1,hce⟩:=hclq k (by simp;omega)
    have hkd:k<ds.length:=by omega
    have hdk:((ds.map iB)[k]'(by simp;omega))=((ds[k]).toNat:Int):=by simp[iB]
    rw[hdk]at hce
    have xB:=Ej xs[k]
    have dB_:=Ej ds[k]
    have st:=fun (z:Ao)=>HOW.out.set (lo.length+k) hkl z
    have ws:=fun (z:Ao)=>BH (lo:=lo) (hi:=hi) ho hkx z
    have ht1:=Oh ds k hkd
    have ht2:=Oh xs k hkx
    generalize (xs[k]).toNat=X at *
    generalize (ds[k]).toNat=Y at *
    have hgy:g*Y≤(B-1)*(B-1):=Nat.mul_le_mul (by rw[Ay];omega) (by omega)
    obtain ⟨z,b',hz,hb',hzz,hm,hbr⟩:=ME (t:=g*Y+c) xB hb
    have HST:=Lib.hid (Aau HQ.out rfl hzz)
    have HS:=Lib.hid (st (Amt 32 z))
    have HW:=Lib.hid (ws (Amt 32 z))
    have HT1:=Lib.hid ht1
    have HT2:=Lib.hid ht2
    have HZ:=Lib.hid hz
    have htB:(g*Y+c) / B<B:=by rw[Anj Bw,Ay]at *; omega
    have HTB:=Lib.hid htB
    rw[Ay]at hgy xB dB_ hz htB
    have hp1:0≤(g:Int)*(Y:Int):=by rw[← Int.natCast_mul];exact Int.natCast_nonneg _
    have hp2:(g:Int)*(Y:Int)≤18446744065119617025:=by rw[← Int.natCast_mul];omega
    have ec:(((g*Y+c) % B:Nat):Int)=((g:Int)*(Y:Int)+(c:Int)) % 4294967296:=by rw[Int.natCast_emod,Int.natCast_add,Int.natCast_mul];rfl
    rw[ec]at hm hbr
    have HM:=Lib.hid hm
    have HB:=Lib.hid hbr
    clear hclq hdk st ws ht1 ht2 hzz htB hgy ec hm hbr
    go_wp2_with (go_at_call 334;refine (Aaj (X:Int) (((g:Int)*(Y:Int)+(c:Int)) % 4294967296) (b:Int) _ ⟨by omega,by omega⟩ ⟨by omega,by omega⟩ ⟨by omega,by omega⟩).mono ?_;rw[HM.out,HB.out];rintro e w' ⟨rfl,rfl⟩)
    go_roundw
    case rel =>
      have hs:=HS.out
      rw[HW.out,ofNat_lt HZ.out]at hs
      refine ⟨k+1,(g*Y+c) / B,b',out++[Amt 32 z],by omega,by go_num,?_,rfl,by simp[ho],HTB.out,hb',?_,hs,Qj HGR.out _ _ _⟩
      · congr 1
      · rw[Il,ho,ofNat_lt HZ.out,HT1.out,HT2.out,Anc];exact HST.out
    case measure=>(simp[intOf] <;> omega)
  · have hkn:k=n:=by omega
    subst hkn
    have hkx:k<xs.length:=by omega
    have hkl:lo.length+k<(lo++(out++xs.drop k)++hi).length:=by simp;omega
    obtain ⟨hcell,hfk,hG1,hG2⟩:=HOW.out.cell (lo.length+k) hkl
    rw[BF ho hkx hkl]at hcell
    have xB:=Ej xs[k]
    have st:=fun (z:Ao)=>HOW.out.set (lo.length+k) hkl z
    have ws:=fun (z:Ao)=>BH (lo:=lo) (hi:=hi) ho hkx z
    have ht2:=Oh xs k hkx
    generalize (xs[k]).toNat=X at *
    obtain ⟨z,b',hz,hb',hzz,hm,hbr⟩:=ME (t:=c) xB hb
    have HST:=Lib.hid (Aau (x:=0) (t:=c) HQ.out (by simp) hzz)
    have HS:=Lib.hid (st (Amt 32 z))
    have HW:=Lib.hid (ws (Amt 32 z))
    have HT2:=Lib.hid ht2
    have HZ:=Lib.hid hz
    have ec:c % B=c:=Am4 HC.out
    rw[ec]at hm hbr
    rw[Ay]at xB hz
    have HM:=Lib.hid hm
    have HB:=Lib.hid hbr
    clear st ws ht2 hzz ec hm hbr
    go_wp2_with (go_at_call 334;refine (Aaj (X:Int) (c:Int) (b:Int) _ ⟨by omega,by omega⟩ ⟨by omega,by omega⟩ ⟨by omega,by omega⟩).mono ?_;rw[HM.out,HB.out];rintro e w' ⟨rfl,rfl⟩)
    go_ret
    have hs:=HS.out
    rw[HW.out,ofNat_lt HZ.out,List.drop_of_length_le (by omega),Amx]at hs
    refine ⟨out++[Amt 32 z],b',hb',?_,by simp[ho,hxs],?_,hs,Qj HGR.out _ _ _⟩
    · rcases Nat.le_one_iff_eq_zero_or_eq_one.1 hb' with h | h <;> subst h <;> rfl
    · have h1:=HST.out
      rw[Nat.div_eq_of_lt HC.out,Nat.mul_zero,Nat.add_zero,Anl,← HT2.out,← Anc,Am7 (by omega),Am7 (by omega)]at h1
      rw[Il,ho,ofNat_lt HZ.out,hxs];exact h1
def KO(w0 w:World)(lo xs hi ds:List Ao)(G cap:Nat)(e:Ending)(w':World):Prop :=
 ∃ (out:List Ao) (b:Nat) (v:Value),e = .returned v∧out.length=xs.length∧nv out+B ^ xs.length*b=nv xs+nv ds∧OwL w0 w' G cap (lo++out++hi)∧w.grownBy w' (some G)
theorem TG{O D U P c X Y:Nat}(h:O+P*c=U+D):(O+P*((X+Y+c) % B))+P*B*((X+Y+c) / B)=(U+P*X)+(D+P*Y):=by
 have e2:(X+Y+c) % B+B*((X+Y+c) / B)=X+Y+c:=Nat.mod_add_div _ _
 have e3:P*((X+Y+c) % B+B*((X+Y+c) / B))=P*(X+Y+c):=by rw[e2]
 simp only[Nat.mul_add,Nat.mul_assoc]at *
 omega
set_option maxHeartbeats 2000000 in
theorem AgX(w0 w:World)(lo xs hi ds:List Ao)(G cap c':Nat)(v:Value)(hxs:xs.length=ds.length+1)(hlen:(lo++xs++hi).length≤1000000000)(hc':xs.length≤c')(hown:OwL w0 w G cap (lo++xs++hi))(hds : ∀ w',w.grownBy w' (some G)→M7 w' v ds) :
  Calls Tryz.prog 339 #[.slice (some ⟨G,lo.length,none⟩) xs.length c',v] w (KO w0 w lo xs hi ds G cap):=by
 obtain ⟨A,cd,rfl,hcd,_⟩:=(hds w (Qi w G)).form
 have hll:lo.length+xs.length+hi.length≤1000000000:=by have:=hlen;simp at this;omega
 rw[Amd]at hds hcd ⊢
 have HO:=Lib.hid hown
 have HD:=Lib.hid hds
 clear hown hds hlen
 generalize hn:ds.length=n at *
 rw[hxs]
 go_enter Tryz.func339,Tryz.ntmps339
 go_wp2_with fail
 go_loopw [4,9] (fun cv iv wr=>∃ (k c:Nat) (out:List Ao),k≤n∧iv = .int .i64 k∧cv = .int .u32 c∧out.length=k∧c≤1∧nv out+B ^ k*c=nv (xs.take k)+nv (ds.take k)∧OwL w0 wr G cap (lo++(out++xs.drop k)++hi)∧w.grownBy wr (some G)) (fun _ iv _=>n-(intOf iv).toNat)
 case atStart=>exact ⟨0,0,[],Nat.zero_le _,rfl,rfl,rfl,by omega,by simp[nv],by simpa using HO.out,Qi w G⟩
 case round =>
  obtain ⟨k,c,out,hk,rfl,rfl,ho,hc,heq,hown,hgr⟩:=hrel
  have HQ:=Lib.hid heq
  have HOW:=Lib.hid hown
  have HGR:=Lib.hid hgr
  clear heq hown hgr
  by_cases hlt:k<n
  · have hkx:k<xs.length:=by omega
    have hkl:lo.length+k<(lo++(out++xs.drop k)++hi).length:=by simp;omega
    obtain ⟨hcell,hfk,hG1,hG2⟩:=HOW.out.cell (lo.length+k) hkl
    rw[BF ho hkx hkl]at hcell
    obtain ⟨_,_,hvq,_,hclq⟩:=(HD.out wr HGR.out).form
    injection hvq with hvq1 hvq2 hvq3
    subst hvq1
    subst hvq3
    clear hvq2
    obtain ⟨ad,rfl,hb1,hce⟩:=hclq k (by simp;omega)
    have hkd:k<ds.length:=by omega
    have hdk:((ds.map iB)[k]'(by simp;omega))=((ds[k]).toNat:Int):=by simp[iB]
    rw[hdk]at hce
    have xB:=Ej xs[k]
    have dB_:=Ej ds[k]
    have st:=fun (z:Ao)=>HOW.out.set (lo.length+k) hkl z
    have ws:=fun (z:Ao)=>BH (lo:=lo) (hi:=hi) ho hkx z
    have ht1:=Oh ds k hkd
    have ht2:=Oh xs k hkx
    generalize (xs[k]).toNat=X at *
    generalize (ds[k]).toNat=Y at *
    have HZ:=Lib.hid (Am5 (X+Y+c) Bw)
    have HST:=Lib.hid (TG (X:=X) (Y:=Y) HQ.out)
    have HS:=Lib.hid (st (Amt 32 ((X+Y+c) % B)))
    have HW:=Lib.hid (ws (Amt 32 ((X+Y+c) % B)))
    have HT1:=Lib.hid ht1
    have HT2:=Lib.hid ht2
    rw[Ay]at xB dB_
    clear hclq hdk st ws ht1 ht2
    go_wp2_with (go_at_call 333;refine (Abc (X:Int) (Y:Int) (c:Int) _ ⟨by omega,by omega⟩ ⟨by omega,by omega⟩ ⟨by omega,by omega⟩).mono ?_;rintro e w' ⟨rfl,rfl⟩)
    go_roundw
    case rel =>
      have hs:=HS.out
      rw[HW.out,ofNat_lt HZ.out]at hs
      refine ⟨k+1,(X+Y+c) / B,out++[Amt 32 ((X+Y+c) % B)],by omega,by go_num,?_,by simp[ho],by rw[Ay];omega,?_,?_,Qj HGR.out _ _ _⟩
      · congr 1
      · rw[Il,ho,ofNat_lt HZ.out,HT1.out,HT2.out,Anc];exact HST.out
      · exact hs
    case measure=>(simp[intOf] <;> omega)
  · have hkn:k=n:=by omega
    subst hkn
    have hkx:k<xs.length:=by omega
    have hkl:lo.length+k<(lo++(out++xs.drop k)++hi).length:=by simp;omega
    obtain ⟨hcell,hfk,hG1,hG2⟩:=HOW.out.cell (lo.length+k) hkl
    rw[BF ho hkx hkl]at hcell
    have xB:=Ej xs[k]
    have st:=fun (z:Ao)=>HOW.out.set (lo.length+k) hkl z
    have ws:=fun (z:Ao)=>BH (lo:=lo) (hi:=hi) ho hkx z
    have ht2:=Oh xs k hkx
    generalize (xs[k]).toNat=X at *
    have HZ:=Lib.hid (Am5 (X+0+c) Bw)
    have HST:=Lib.hid (TG (X:=X) (Y:=0) HQ.out)
    have HS:=Lib.hid (st (Amt 32 ((X+0+c) % B)))
    have HW:=Lib.hid (ws (Amt 32 ((X+0+c) % B)))
    have HT2:=Lib.hid ht2
    rw[Ay]at xB
    clear st ws ht2
    go_wp2
    go_end0
    have hs:=HS.out
    rw[HW.out,ofNat_lt HZ.out,List.drop_of_length_le (by omega),Amx]at hs
    refine ⟨out++[Amt 32 ((X+0+c) % B)],(X+0+c) / B,_,rfl,by simp[ho,hxs],?_,?_,Qj HGR.out _ _ _⟩
    · have h1:=HST.out
      rw[Nat.mul_zero,Nat.add_zero,← HT2.out,← Anc,Am7 (by omega),Am7 (by omega)]at h1
      rw[Il,ho,ofNat_lt HZ.out,hxs];exact h1
    · exact hs
end Go.Proofs.YtokkbgpgaheakaaGreat
namespace Go.Proofs.YtokkbgpgaheakaaGreat
open Go.RowKit
theorem AkT{U Y g P o b:Nat}(hY:0<Y)(hYP:Y≤P)(h1:U / Y≤g)(h2:g≤U / Y+1)(ho:o<P)(hb:b≤1)(h:o+g*Y=U+P*b) :
   (b=0→g=U / Y∧o=U % Y)∧(b≠0→g=U / Y+1∧∀ o2 b2,o2<P→o2+P*b2=o+Y→o2=U % Y):=by
 have hdm:=Nat.div_add_mod U Y
 have hm:=Am5 U hY
 rw[Anb]at hdm
 generalize U / Y=q at *
 generalize U % Y=r at *
 refine ⟨fun h0=> ?_,fun h0=> ?_⟩
 · subst h0
   rcases Ann q g with h3 | h3
   · obtain rfl:g=q+1:=by omega
     rw[Nat.add_mul]at h;omega
   · obtain rfl:g=q:=by omega
     exact ⟨rfl,by omega⟩
 · obtain rfl:b=1:=by omega
   rcases Ann q g with h3 | h3
   · obtain rfl:g=q+1:=by omega
     refine ⟨rfl,fun o2 b2 h4 h5=> ?_⟩
     rw[Nat.add_mul]at h
     match b2 with
     | 0=>omega
     | 1=>omega
     | b2+2=>rw[Nat.mul_add]at h5;omega
   · obtain rfl:g=q:=by omega
     omega
theorem Aer{R:List Ao}{n j Y:Nat}(hj:j+(n+1)≤R.length)(hY:Y<B ^ n)(h:nv R<Y*B ^ (j+1)) :
   R=R.take j++(R.drop j).take (n+1)++R.drop (j+(n+1))∧(R.take j).length=j∧((R.drop j).take (n+1)).length=n+1∧nv ((R.drop j).take (n+1))<B*Y ∧
   ∀ out:List Ao,out.length=n+1→nv out=nv ((R.drop j).take (n+1)) % Y→(R.take j++out++R.drop (j+(n+1))).length=R.length∧nv (R.take j++out++R.drop (j+(n+1)))<Y*B ^ j ∧
     nv (R.take j++out++R.drop (j+(n+1)))+Y*(B ^ j*(nv ((R.drop j).take (n+1)) / Y))=nv R:=by
 have e1:R=R.take j++(R.drop j).take (n+1)++R.drop (j+(n+1)):=by
   rw[Amz,← List.drop_drop,Am6,Am6]
 have l1:(R.take j).length=j:=by rw[Amr];omega
 have l2:((R.drop j).take (n+1)).length=n+1:=by rw[Amr,Amp];omega
 have hlo:=B7 (R.take j)
 rw[l1]at hlo
 have hv:nv R=nv (R.take j)+B ^ j*nv ((R.drop j).take (n+1))+B ^ (j+(n+1))*nv (R.drop (j+(n+1))):=by
   have:nv R=nv (R.take j++(R.drop j).take (n+1)++R.drop (j+(n+1))):=by rw[← e1]
   rw[this,G8,G8,Amm,l1,l2]
 have hY0:0<Y:=by
   rcases Nat.eq_zero_or_pos Y with h0 | h0
   · rw[h0]at h;omega
   · exact h0
 have hp:=Bp j
 have hi0:nv (R.drop (j+(n+1)))=0:=by
   rcases Nat.eq_zero_or_pos (nv (R.drop (j+(n+1)))) with h0 | h0
   · exact h0
   · exfalso
     have h3:B ^ (j+(n+1))*1≤B ^ (j+(n+1))*nv (R.drop (j+(n+1))):=Nat.mul_le_mul_left _ h0
     have h4:Y*B ^ (j+1)≤B ^ n*B ^ (j+1):=Amv _ (Nat.le_of_lt hY)
     rw[← Nat.pow_add,show n+(j+1)=j+(n+1) by omega]at h4
     omega
 generalize R.take j=lo at *
 generalize (R.drop j).take (n+1)=xs at *
 generalize R.drop (j+(n+1))=hi at *
 rw[hi0,Nat.mul_zero,Nat.add_zero]at hv
 refine ⟨e1,l1,l2,?_,fun out ho hn=>⟨?_,?_,?_⟩⟩
 · have h5:B ^ j*nv xs<B ^ j*(B*Y):=by
     have:Y*B ^ (j+1)=B ^ j*(B*Y):=by rw[Anc,Anb Y,Nat.mul_assoc]
     omega
   exact Nat.lt_of_mul_lt_mul_left h5
 · rw[e1];simp[ho,l2]
 · rw[G8,G8,hi0,l1,hn,Nat.mul_zero,Nat.add_zero]
   have h6:B ^ j*(nv xs % Y)+B ^ j≤B ^ j*Y:=by
     rw[← Nat.mul_succ];exact Nat.mul_le_mul_left _ (Am5 _ hY0)
   rw[Anb Y];omega
 · rw[G8,G8,hi0,l1,hn,Nat.mul_zero,Nat.add_zero,hv,Nat.mul_left_comm Y,Nat.add_assoc,← Nat.mul_add,Nat.mod_add_div]
theorem VH{w:World}{M:Nat→Prop}{v:Value}{l:List Ao}(h:Rd Tryz.prog md w M (.ty 62) (dL l) v):M7 w v l:=by
 obtain ⟨h1,h2,h3⟩:=h
 have hc1:Tryz.prog.cellsOf 180=1:=by kernel_rfl
 unfold dL at h1
 cases h1 with
 | @sl _ e _ _ A cap bk off ht hc h4 h5 hA hh =>
  have he:e=180:=by
   have:Tryz.prog.underlying 62=some (.slice e):=ht
   rw[show Tryz.prog.underlying 62=some (.slice 180) by kernel_rfl]at this
   injection this with this;injection this with this;exact this.symm
  subst he
  have hv:v = .slice A (l.map dB).length cap:=by
   have ha:C9 v=false:=by rw[h3];kernel_rfl
   rw[Hj ha]at hc
   simpa using hc
  refine ⟨A,cap,by rw[hv];simp,by simpa using h4,by simp,fun i x hx=> ?_⟩
  rw[List.map_map,Ams,Amq]at hx
  obtain ⟨b,hb,rfl⟩:=hx
  have hne:l.map dB≠[]:=fun e=>by rw[List.map_eq_nil_iff.1 e]at hb;simp at hb
  obtain ⟨a1,a2,a3⟩:=hA hne
  have:=hh i (dB b) (by rw[Ams,hb];rfl)
  rw[hc1]at this
  refine ⟨_,a1,a3,?_⟩
  unfold dB at this
  cases this with
  | @int _ k _ _ ht' h1' h2' hc' =>
   have hk:k = .u32:=by
    have:Tryz.prog.underlying 180=some (.int k):=ht'
    rw[show Tryz.prog.underlying 180=some (.int .u32) by kernel_rfl]at this
    injection this with this;injection this with this;exact this.symm
   subst hk
   simp only[Nat.mul_one,Nat.add_zero]at hc'
   have ea:(⟨bk,off,none⟩:Addr).add i=⟨bk,off+i,none⟩:=by unfold Addr.add;split <;> simp_all
   rw[ea];exact hc'
theorem BG{w:World}{M:Nat→Prop}{G off n c:Nat}{l:List Ao}(h:M7 w (.slice (some ⟨G,off,none⟩) n c) l)(hc:c≤maxLen)(hG : ¬ M G):Rd Tryz.prog md w M (.ty 62) (dL l) (.slice (some ⟨G,off,none⟩) n c):=by
 obtain ⟨h1,h2⟩:=h.len
 have hc1:Tryz.prog.cellsOf 180=1:=by kernel_rfl
 rw[Amd]at h1
 refine ⟨.sl (e:=180) (A:=some ⟨G,off,none⟩) (cap:=c) (bk:=G) (off:=off) (by kernel_rfl) (by rw[h1,Amd];rfl) (by rw[Amd];omega) hc (fun hne=> ?_) (fun i x hx=> ?_),by kernel_rfl,by kernel_rfl⟩
 · have:0<(l.map iB).length:=by
    rw[Amd];exact List.length_pos_iff.2 (fun e=>hne (by rw[e];rfl))
   obtain ⟨ad,ha,hb,_⟩:=h.cellAt 0 this
   cases ha
   exact ⟨rfl,hG,hb⟩
 · rw[Ams,Amq]at hx
   obtain ⟨b,hb,rfl⟩:=hx
   have hi:i<(l.map iB).length:=by rw[Amd];exact (Ame.1 hb).1
   obtain ⟨ad,ha,_,hcell⟩:=h.cellAt i hi
   cases ha
   have ea:(⟨G,off,none⟩:Addr).add i=⟨G,off+i,none⟩:=by unfold Addr.add;split <;> simp_all
   rw[ea]at hcell
   have hx:(l.map iB)[i]=(b.toNat:Int):=by simp[iB,(Ame.1 hb).2]
   rw[hx]at hcell
   have:=b.isLt
   unfold dB
   exact .int (k:= .u32) (by kernel_rfl) (by show (0:Int)≤_;omega) (by show _≤(4294967295:Int);omega) (by rw[hc1];simpa using hcell)
theorem OwL.win {w0 w:World} {G cap:Nat} {l:List Ao} (h:OwL w0 w G cap l) {j n c:Nat} (hj:j+n≤l.length) (hc:n≤c):M7 w (.slice (some ⟨G,j,none⟩) n c) ((l.drop j).take n):=by
 have hl:(((l.drop j).take n).map iB).length=n:=by simp;omega
 refine ⟨some ⟨G,j,none⟩,c,by rw[hl],by rw[hl];exact hc,by simp,fun i x hx=> ?_⟩
 rw[Ams,Amq]at hx
 obtain ⟨z,hz,rfl⟩:=hx
 have hi:i<n:=by rw[← hl];exact (Ame.1 hz).1
 obtain ⟨h1,h2,h3,h4⟩:=h.cell (j+i) (by omega)
 refine ⟨_,rfl,h4,?_⟩
 have ea:(⟨G,j,none⟩:Addr).add i=⟨G,j+i,none⟩:=by unfold Addr.add;split <;> simp_all
 rw[ea,h1]
 rw[Ams,List.getElem?_take,if_pos hi,List.getElem?_drop,Amb (by omega)]at hz
 simp only[Option.map_some,Amk]at hz
 rw[← hz];rfl
end Go.Proofs.YtokkbgpgaheakaaGreat
namespace Go.Proofs.YtokkbgpgaheakaaGreat
open Go.RowKit
theorem AcJ:Elt Tryz.prog 62 180 1 4 :=
 ⟨Tryz.underlying62,by
  obtain ⟨i,hi,h1,h2,h3⟩:=info_parts (P:=Tryz.prog) (e:=180) (z:= .int .u32 0) (size:=1) (bytes:=4) (by kernel_rfl)
  exact ⟨i,_,hi,h1,h2,h3,rfl⟩,by decide⟩
theorem AlQ{z:Value}(h : ∃ i,Tryz.prog.info? 180=some i∧i.zero=some z):z = .int .u32 0:=by
 obtain ⟨i,hi,hz⟩:=h
 obtain ⟨j,hj,h1,_⟩:=info_parts (P:=Tryz.prog) (e:=180) (z:= .int .u32 0) (size:=1) (bytes:=4) (by kernel_rfl)
 rw[hi]at hj
 cases hj
 rw[hz]at h1
 exact Option.some.inj h1
theorem Aew{z:Value}(h : ∃ i,Tryz.prog.info? 180=some i∧i.zero=some z)(n:Nat):(madeCells z.cells (n*1)).toList=(Amc n (0:Int)).map (.int .u32):=by
 rw[AlQ h,Aeu _ rfl];simp
theorem TE{w w':World}{G cap:Nat}{cur:Array Value}{q:List Ao}(hG:w.heap.size≤G)(hB:w'.heap[G]? = some (.cells cur 180 (0,0)))(hle:q.length≤cap)(hcap:cap≤maxLen)(hsz:cur.size=cap*Tryz.prog.cellsOf 180)
  (h : ∀ (i:Nat) (x:D),(q.map dB)[i]? = some x→∃ M',RdC Tryz.prog md w' M' (.ty 180) x (fun j=>cur[i*Tryz.prog.cellsOf 180+j]?)) (hx:Ext w w'):OwL w w' G cap q:=by
 have hc1:Tryz.prog.cellsOf 180=1:=by kernel_rfl
 rw[hc1]at hsz h
 refine ⟨⟨by simp,.inr ⟨G,cap,cur,rfl,hG,hB,hle,hcap,hsz,?_⟩⟩,hx⟩
 apply List.ext_getElem
 · simp;omega
 intro i h1 h2
 simp only[Amd]at h2
 obtain ⟨M',hr⟩:=h i (dB q[i]) (by simp[h2])
 simp only[Nat.mul_one,Nat.add_zero]at hr
 unfold dB at hr
 cases hr with
 | @int _ k _ _ ht' h1' h2' hc' =>
  have hk:k = .u32:=by
   have:Tryz.prog.underlying 180=some (.int k):=ht'
   rw[show Tryz.prog.underlying 180=some (.int .u32) by kernel_rfl]at this
   injection this with this;injection this with this;exact this.symm
  subst hk
  simp only[Nat.add_zero]at hc'
  have hi:i<cur.size:=by omega
  rw[Amy hi]at hc'
  simp only[List.getElem_take,Array.getElem_toList,List.getElem_map,iB]
  exact Option.some.inj hc'
theorem OwL.far {w0 w w':World} {G G' cap:Nat} {l:List Ao} (h:OwL w0 w G cap l) (hg:w.grownBy w' (some G')) (hne:G≠G') (hG:w0.heap.size≤G'):OwL w0 w' G cap l :=
 ⟨h.own.kept hg (.inr (by simp only[Value.ownBlock];intro e;injection e with e;exact hne e)),h.ext.grown hg (fun k hk=>by injection hk with hk;omega)⟩
theorem AkS{w w5:World}{lo xs hi q1:List Ao}{G1 G2 c1 c2 n j g c':Nat}(hn:n≤q1.length)(hc1:n≤c1)(l1:lo.length=j)(l2:xs.length=n+1)(hlen:(lo++xs++hi).length≤1000000000)(hc':n+1≤c')(hg2:w.heap.size≤G2)(h12:G1≠G2)
  (ow2:OwL w w5 G2 c2 (lo++xs++hi)) (ow1:OwL w w5 G1 c1 q1) (hg:g<B):Calls Tryz.prog 338 #[.slice (some ⟨G2,j,none⟩) (n+1) c',.slice (some ⟨G1,0,none⟩) n c1,.int .u64 g] w5 (KP w w5 lo xs hi (q1.take n) G2 c2 g):=by
 have ld:(q1.take n).length=n:=by rw[Amr];omega
 have:=AkM w w5 lo xs hi (q1.take n) G2 c2 c' g (.slice (some ⟨G1,0,none⟩) n c1) (by omega) hlen (by omega) ow2 (fun w' hg=>by
  have:=(ow1.far hg h12 hg2).win (j:=0) (n:=n) (c:=c1) (by omega) hc1
  rwa[List.drop_zero]at this) hg
 rwa[l1,l2]at this
theorem Ag2{w w5:World}{lo xs hi q1:List Ao}{G1 G2 c1 c2 n j c':Nat}(hn:n≤q1.length)(hc1:n≤c1)(l1:lo.length=j)(l2:xs.length=n+1)(hlen:(lo++xs++hi).length≤1000000000)(hc':n+1≤c')(hg2:w.heap.size≤G2)(h12:G1≠G2)
  (ow2:OwL w w5 G2 c2 (lo++xs++hi)) (ow1:OwL w w5 G1 c1 q1):Calls Tryz.prog 339 #[.slice (some ⟨G2,j,none⟩) (n+1) c',.slice (some ⟨G1,0,none⟩) n c1] w5 (KO w w5 lo xs hi (q1.take n) G2 c2):=by
 have ld:(q1.take n).length=n:=by rw[Amr];omega
 have:=AgX w w5 lo xs hi (q1.take n) G2 c2 c' (.slice (some ⟨G1,0,none⟩) n c1) (by omega) hlen (by omega) ow2 (fun w' hg=>by
  have:=(ow1.far hg h12 hg2).win (j:=0) (n:=n) (c:=c1) (by omega) hc1
  rwa[List.drop_zero]at this)
 rwa[l1,l2]at this
theorem AgZ{qh:List Ao}{j:Nat}(x:Ao):(Amc (j+1) (0:Ao)++qh).set j x=Amc j 0++(x::qh):=by
 rw[List.replicate_succ',Amz,List.set_append_right _ _ (by simp),Anf,Nat.sub_self];rfl
def Aba(x y:Nat)(w:World)(e:Ending)(w':World):Prop:=∃ u1 u2,e = .returned (.tuple #[u1,u2])∧Rd Tryz.prog md w' (fun b=>b<w.heap.size) (.ty 62) (dL (lb (x / y))) u1∧Rd Tryz.prog md w' (fun b=>b<w.heap.size) (.ty 62) (dL (lb (x % y))) u2∧Ext w w'
theorem AfE{y n s t:Nat}(hn:(lb y).length=n+1)(ht:t=y / B ^ n)(h1:t*2 ^ s<B)(h2:B≤2*(t*2 ^ s))(hs:s<32):y*2 ^ s<B ^ (n+1)∧B ^ (n+1)≤2*(y*2 ^ s):=by
 have hp:=Bp n
 have hs0:0<2 ^ s:=Nat.pow_pos (by decide)
 have hB:B=2 ^ (32-s)*2 ^ s:=by rw[← Nat.pow_add,show 32-s+s=32 by omega];rfl
 have h3:t<2 ^ (32-s):=by rw[hB]at h1;exact Nat.lt_of_mul_lt_mul_right h1
 have h4:(t+1)*2 ^ s≤B:=by rw[hB];exact Amv _ h3
 have h5:y<(t+1)*B ^ n:=by rw[ht,Anb];exact Nat.lt_mul_div_succ y hp
 have h6:t*B ^ n≤y:=by rw[ht];exact Nat.div_mul_le_self _ _
 rw[Anc]
 constructor
 · calc y*2 ^ s<(t+1)*B ^ n*2 ^ s:=Nat.mul_lt_mul_of_pos_right h5 hs0
  _=B ^ n*((t+1)*2 ^ s):=by rw[Anb (t+1),Nat.mul_assoc]
  _≤B ^ n*B:=Nat.mul_le_mul_left _ h4
 · calc B ^ n*B≤B ^ n*(2*(t*2 ^ s)):=Nat.mul_le_mul_left _ h2
  _=2*(t*B ^ n*2 ^ s):=by rw[Nat.mul_left_comm,Anb t (B ^ n),Nat.mul_assoc]
  _≤2*(y*2 ^ s):=Nat.mul_le_mul_left _ (Amv _ h6)
theorem SO{q:List Ao}{n v:Nat}(h:nv q=v)(hv:v<B ^ n)(hn:n≤q.length):nv (q.take n)=v:=by
 have:=G8 (q.take n) (q.drop n)
 rw[Am6,Amr,Nat.min_eq_left hn,h]at this
 rcases Nat.eq_zero_or_pos (nv (q.drop n)) with h0 | h0
 · rw[h0]at this;omega
 · have:B ^ n*1≤B ^ n*nv (q.drop n):=Nat.mul_le_mul_left _ h0
   omega
def LInv(X Y m n:Nat)(w wr:World)(G1 c1 G2 c2 G3 c3:Nat)(q1:List Ao)(k:Nat)(R qh:List Ao):Prop :=
 k≤m-n+1∧R.length=m+1∧qh.length=m-n+1-k∧nv R<Y*B ^ k∧nv R+Y*(B ^ k*nv qh)=X∧OwL w wr G2 c2 R∧OwL w wr G3 c3 (Amc k 0++qh)∧OwL w wr G1 c1 q1
theorem LInv.start {X Y m n:Nat} {w wr:World} {G1 c1 G2 c2 G3 c3:Nat} {q1 q2:List Ao} (h2:q2.length=m+1) (hv:nv q2=X) (hX:X<Y*B ^ (m-n+1)) (o1:OwL w wr G1 c1 q1) (o2:OwL w wr G2 c2 q2) (o3:OwL w wr G3 c3 (Amc (m-n+1) 0)):LInv X Y m n w wr G1 c1 G2 c2 G3 c3 q1 (m-n+1) q2 [] :=
 ⟨Amo _,h2,by rw[Nat.sub_self];rfl,by rw[hv];exact hX,by rw[nv,Nat.mul_zero,Nat.mul_zero];exact hv,o2,by rw[Amx];exact o3,o1⟩
set_option maxHeartbeats 4000000 in
theorem Aeq(x y:Nat)(va vb:Value)(w:World)(M:Nat→Prop)(ha:Rd Tryz.prog md w M (.ty 62) (dL (lb x)) va)(hb:Rd Tryz.prog md w M (.ty 62) (dL (lb y)) vb)(hM : ∀ b,M b→b<w.heap.size)
  (h1:1<(lb y).length) (hxy:y≤x) (hl:(lb x).length≤100000):Calls Tryz.prog 332 #[va,vb] w (Aba x y w):=by
 have hyx:(lb y).length≤(lb x).length:=A0.2 (Nat.lt_of_le_of_lt hxy (A0.1 (Amo _)))
 obtain ⟨n,hn⟩ : ∃ n,(lb y).length=n:=⟨_,rfl⟩
 obtain ⟨m,hm⟩ : ∃ m,(lb x).length=m:=⟨_,rfl⟩
 rw[hn,hm]at hyx
 rw[hm]at hl
 rw[hn]at h1
 obtain ⟨A,ca,rfl,hca,_⟩:=(VH ha).form
 obtain ⟨Ab,cb,rfl,hcb,hcel⟩:=(VH hb).form
 rw[Amd,hm]at ha hca
 rw[Amd,hn]at hb hcb
 have HA:=Lib.hid ha
 have HB:=Lib.hid hb
 clear ha hb
 obtain ⟨ad,rfl,hb1,hce⟩:=hcel (n-1) (by simp;omega)
 have hk:((lb y).map iB)[n-1]'(by simp;omega)=(((lb y)[n-1]'(by omega)).toNat:Int):=by simp[iB]
 rw[hk,Dv (lb y) (n-1) (by omega),Bq]at hce
 have hyl:=(A0 (n:=y) (k:=n)).1 (by omega)
 have hyg:=CG (x:=y) (k:=n-1) (by omega)
 have htB:y / B ^ (n-1)<B:=by rw[Anj (Bp _),Anb,← Anc,show (n-1).succ=n by omega];exact hyl
 rw[Am4 htB]at hce
 have ht0:0<y / B ^ (n-1):=Nat.div_pos hyg (Bp _)
 obtain ⟨s,hLZ,hs32,hs1,hs2⟩:=AbN _ htB ht0
 obtain ⟨hY1,hY2⟩:=AfE (n:=n-1) (by omega) rfl hs1 hs2 hs32
 rw[show n-1+1=n by omega]at hY1 hY2
 obtain ⟨q1,hq1,hq1v,sp1⟩:=SB (lb y) s hs32 (by omega)
 obtain ⟨q2,hq2,hq2v,sp2⟩:=SB (lb x) s hs32 (by omega)
 rw[Bq]at hq1v hq2v
 rw[hn]at hq1
 rw[hm]at hq2
 have hdv:=SO hq1v hY1 (by omega)
 have hX1:x*2 ^ s<(y*2 ^ s)*B ^ (m-n+1):=by
  have h2:x<B ^ m:=A0.1 (by omega)
  have h3:B ^ n*B ^ (m-n+1)≤2*(y*2 ^ s)*B ^ (m-n+1):=Amv _ hY2
  rw[← Nat.pow_add,show n+(m-n+1)=m+1 by omega]at h3
  have h4:2 ^ s≤2 ^ 31:=Nat.pow_le_pow_right (by decide) (by omega)
  have h5:x*2 ^ s≤x*2 ^ 31:=Nat.mul_le_mul_left _ h4
  rw[Nat.mul_assoc]at h3
  rw[Anc,Ay]at h3
  rw[Ay]at h2 ⊢
  omega
 generalize y / B ^ (n-1)=top at *
 have HLZ:=Lib.hid hLZ
 have SP1:=Lib.hid sp1
 have SP2:=Lib.hid sp2
 have HM:=Lib.hid hM
 have X1:=Lib.hid hX1
 have Y1:=Lib.hid hY1
 have Y2:=Lib.hid hY2
 clear hcel hk hLZ sp1 sp2 hM hX1 hY1 hY2 hyg hyl
 simp only[Amd,hn,hm]
 go_enter Tryz.func332,Tryz.ntmps332
 go_wp2_with (first
  | (go_at_call 335;refine (JR (t:=3) (vs:=[_]) (M:=fun _=>False) HLZ.out Tryz.func335 (by kernel_rfl) (fun _ h=>h.elim) (by kernel_rfl) rfl (VB (by kernel_rfl) (Ou (t:=180) (k:= .u32) (by kernel_rfl) (by kernel_rfl) (by kernel_rfl) (by show (0:Int)≤_;omega) (by show _≤(4294967295:Int);rw[Ay]at htB;omega))) (by kernel_rfl) (k:= .i64) (by kernel_rfl)).mono ?_;rintro e w1 ⟨rfl,_,hx1⟩)
  | (go_at_call_of 336 (Value.slice (some ad) n cb);refine (TD (t:=62) (e:=180) (vs:=[_,_]) (M:=M) SP1.out Tryz.func336 (by kernel_rfl) (fun b h=>Am_ (HM.out b h) hx1.size) (by kernel_rfl) rfl (Oq (by kernel_rfl) (Jh (t:= .ty 62) HB.out hx1 (fun _ h _=>h)) (Ou (t:=3) (k:= .i64) (by kernel_rfl) (by kernel_rfl) (by kernel_rfl) (by show (-9223372036854775808:Int)≤_;omega) (by show _≤(9223372036854775807:Int);omega))) (by kernel_rfl) (by kernel_rfl) (by kernel_rfl) (fun e=>by have:=congrArg List.length e;simp[hq1]at this)).mono ?_;rintro e w2 ⟨G1,c1,cur1,rfl,hG1,hG1l,hB1,hle1,hc1,hsz1,hr1,hx2⟩;rw[Amd,hq1]at hle1 ⊢)
  | (go_at_call_of 336 (Value.slice A m ca);refine (TD (t:=62) (e:=180) (vs:=[_,_]) (M:=M) SP2.out Tryz.func336 (by kernel_rfl) (fun b h=>Am_ (HM.out b h) (hx1.trans hx2).size) (by kernel_rfl) rfl (Oq (by kernel_rfl) (Jh (t:= .ty 62) HA.out (hx1.trans hx2) (fun _ h _=>h)) (Ou (t:=3) (k:= .i64) (by kernel_rfl) (by kernel_rfl) (by kernel_rfl) (by show (-9223372036854775808:Int)≤_;omega) (by show _≤(9223372036854775807:Int);omega))) (by kernel_rfl) (by kernel_rfl) (by kernel_rfl) (fun e=>by have:=congrArg List.length e;simp[hq2]at this)).mono ?_;rintro e w3 ⟨G2,c2,cur2,rfl,hG2,hG2l,hB2,hle2,hc2,hsz2,hr2,hx3⟩;rw[Amd,hq2]at hle2 ⊢)
  | (at_make;refine AlN (w0:=w3) AcJ rfl _ _ rfl (Ext.refl w3) (m-n+1) (m-n+1) rfl rfl (by omega) (by omega) (by omega) (by omega) (by unfold maxLen;omega) ?_;intro v4 w4 z hz hown4 hx4;rw[Aew hz]at hown4;have HO4:=Lib.hid hown4;rcases hown4.own.2 with ⟨_,hh⟩ | ⟨G3,c3,cur3,rfl,hG3,_,hnc3,c3m,_,_⟩;(exact absurd hh (by omega));clear hown4 hz))
 have ow1:OwL w w4 G1 c1 q1:=((TE hG1 hB1 (by omega) hc1 hsz1 hr1 hx2).base hx1).step (hx3.trans hx4)
 have ow2:OwL w w4 G2 c2 q2:=((TE hG2 hB2 (by omega) hc2 hsz2 hr2 hx3).base (hx1.trans hx2)).step hx4
 have ow3:OwL w w4 G3 c3 (Amc (m-n+1) 0):=by
  have:=HO4.out.base (hx1.trans (hx2.trans hx3))
  unfold OwL
  rw[Anf,List.map_replicate,show iB 0=0 from rfl]
  exact this
 have h12:G1≠G2:=by omega
 have h13:G1≠G3:=by have:=hx3.size;omega
 have h23:G2≠G3:=by omega
 have hg1:w.heap.size≤G1:=Nat.le_trans hx1.size hG1
 have hg2:w.heap.size≤G2:=Nat.le_trans (hx1.trans hx2).size hG2
 have hg3:w.heap.size≤G3:=Nat.le_trans (hx1.trans (hx2.trans hx3)).size hG3
 have O1:=Lib.hid ow1
 have O2:=Lib.hid ow2
 have O3:=Lib.hid ow3
 have DV:=Lib.hid hdv
 have Q1:=Lib.hid hq1
 have Q2:=Lib.hid hq2
 have Q2v:=Lib.hid hq2v
 clear ow1 ow2 ow3 HO4 hB1 hB2 hsz1 hsz2 hr1 hr2 hG1l hG2l hdv hq1 hq2 hq1v hq2v hce
 go_loopw [11] (fun jv wr=>∃ (k:Nat) (R qh:List Ao),jv = .int .i64 ((k:Int)-1)∧LInv (x*2 ^ s) (y*2 ^ s) m n w wr G1 c1 G2 c2 G3 c3 q1 k R qh) (fun jv _=>(intOf jv+1).toNat)
 case atStart=>exact ⟨m-n+1,q2,[],by congr 1;omega,LInv.start Q2.out Q2v.out X1.out O1.out O2.out O3.out⟩
 case round =>
  obtain ⟨k,R,qh,rfl,hk,hR,hql,hlt,heq,ow2,ow3,ow1⟩:=hrel
  by_cases hk0:k=0
  · subst hk0
    rw[Nat.pow_zero,Nat.mul_one]at hlt
    rw[Nat.pow_zero,Nat.one_mul]at heq
    rw[List.replicate_zero,Anm]at ow3
    have Y0:0<y*2 ^ s:=Nat.lt_of_le_of_lt (Nat.zero_le _) hlt
    have s0:0<2 ^ s:=Nat.pow_pos (by decide)
    have q1e:nv qh=x / y:=by
      have h1:(x*2 ^ s) / (y*2 ^ s)=x / y:=Nat.mul_div_mul_right _ _ s0
      rw[← h1,← heq,Nat.add_mul_div_left _ _ Y0,Nat.div_eq_of_lt hlt,Anl]
    have q2e:nv (R.take n) / 2 ^ s=x % y:=by
      rw[SO rfl (Nat.lt_trans hlt Y1.out) (by omega)]
      have h1:(x*2 ^ s) % (y*2 ^ s)=x % y*2 ^ s:=Nat.mul_mod_mul_right _ _ _
      have h2:nv R=x % y*2 ^ s:=by rw[← h1,← heq,Nat.add_mul_mod_self_left,Am4 hlt]
      rw[h2,Nat.mul_div_cancel _ s0]
    have TR:=Fd qh (by omega)
    have DN:=Afj (R.take n) s hs32 (by rw[Amr];omega)
    rw[q1e]at TR
    rw[q2e]at DN
    have hqw:=ow3.win (j:=0) (n:=m-n+1) (c:=c3) (by omega) hnc3
    rw[List.drop_zero,Am7 (by omega)]at hqw
    have hrw:=ow2.win (j:=0) (n:=n) (c:=c2) (by omega) (by omega)
    rw[List.drop_zero]at hrw
    have HTR:=Lib.hid TR
    have HDN:=Lib.hid DN
    have QWN:=Lib.hid hqw
    have RWN:=Lib.hid hrw
    have XT:=Lib.hid ow3.ext
    clear TR DN hqw hrw ow1 ow2 ow3 q1e q2e hlt heq
    go_wp2_with fail
    refine AiW 9 [[],[(0,77)],[],[],[(2,79),(3,80)],[],[(4,81),(5,82)],[(1,78)],[(6,83)]] [(0,77),(1,78),(2,79),(3,80),(4,81),(5,82),(6,83),(7,4),(8,5)] (by kernel_rfl) (by kernel_rfl) (by kernel_rfl) (by kernel_rfl) ?_
    apply Grow.step
    · intro w2 hw2
      intro K hK
      go_wp2_with fail
      first | exact hK _ _ (Ext.refl _) EqV.rfl_ | trace "op 0"
    · first | exact Sb _ | (intro v w w1 h hx;exact SlI.keep h hx) | (intro v w w1 h hx;exact IntV.keep h hx) | (intro v w w1 h hx;exact SlN.keep h hx) | (intro v w w1 h hx;exact h)
    apply Grow.step
    · intro w2 hw2
      intro n1 h1
      simp only[upd,reduceIte,Nat.reduceEqDiff,Nat.reduceAdd]at h1
      first | (unfold EqV at h1;subst h1) | skip
      intro K hK
      go_wp2_with fail
      (refine (Aaf (t:=62) (vs:=[_]) (M:=fun b ↦ b<w.heap.size) HTR.out Tryz.func321 (by kernel_rfl) (fun b h ↦ Am_ h (XT.out.trans (((Ext.refl _).drew).trans hw2)).size) (by kernel_rfl) rfl (VB (t:=62) (by kernel_rfl) (BG (SlI.keep QWN.out (((Ext.refl _).drew).trans hw2)) c3m (by omega))) (by kernel_rfl) (by kernel_rfl)).mono ?_;rintro e w' ⟨u5,rfl,hu5,hx5⟩;(go_wp2_with fail);exact hK _ _ hx5 hu5)
    · (intro v w1 w2 h hx;exact Jh h hx (fun _ h _=>h))
    apply Grow.step
    · intro w2 hw2
      intro K hK
      go_wp2_with fail
      first | exact hK _ _ (Ext.refl _) EqV.rfl_ | trace "op 2"
    · first | exact Sb _ | (intro v w w1 h hx;exact SlI.keep h hx) | (intro v w w1 h hx;exact IntV.keep h hx) | (intro v w w1 h hx;exact SlN.keep h hx) | (intro v w w1 h hx;exact h)
    apply Grow.step
    · intro w2 hw2
      intro K hK
      go_wp2_with fail
      first | exact hK _ _ (Ext.refl _) EqV.rfl_ | trace "op 3"
    · first | exact Sb _ | (intro v w w1 h hx;exact SlI.keep h hx) | (intro v w w1 h hx;exact IntV.keep h hx) | (intro v w w1 h hx;exact SlN.keep h hx) | (intro v w w1 h hx;exact h)
    apply Grow.step
    · intro w2 hw2
      intro n1 h1
      simp only[upd,reduceIte,Nat.reduceEqDiff,Nat.reduceAdd]at h1
      first | (unfold EqV at h1;subst h1) | skip
      intro n2 h2
      simp only[upd,reduceIte,Nat.reduceEqDiff,Nat.reduceAdd]at h2
      first | (unfold EqV at h2;subst h2) | skip
      intro K hK
      go_wp2_with fail
      first | exact hK _ _ (Ext.refl _) EqV.rfl_ | exact hK _ _ (Ext.refl _) h1 | exact hK _ _ (Ext.refl _) h2 | trace "op 4"
    · first | exact Sb _ | (intro v w w1 h hx;exact SlI.keep h hx) | (intro v w w1 h hx;exact IntV.keep h hx) | (intro v w w1 h hx;exact SlN.keep h hx) | (intro v w w1 h hx;exact h)
    apply Grow.step
    · intro w2 hw2
      intro K hK
      go_wp2_with fail
      first | exact hK _ _ (Ext.refl _) EqV.rfl_ | trace "op 5"
    · first | exact Sb _ | (intro v w w1 h hx;exact SlI.keep h hx) | (intro v w w1 h hx;exact IntV.keep h hx) | (intro v w w1 h hx;exact SlN.keep h hx) | (intro v w w1 h hx;exact h)
    apply Grow.step
    · intro w2 hw2
      intro n1 h1
      simp only[upd,reduceIte,Nat.reduceEqDiff,Nat.reduceAdd]at h1
      first | (unfold EqV at h1;subst h1) | skip
      intro n2 h2
      simp only[upd,reduceIte,Nat.reduceEqDiff,Nat.reduceAdd]at h2
      first | (unfold EqV at h2;subst h2) | skip
      intro K hK
      go_wp2_with fail
      (refine (Aaf (t:=62) (vs:=[_,_]) (M:=fun b ↦ b<w.heap.size) HDN.out Tryz.func340 (by kernel_rfl) (fun b h ↦ Am_ h (XT.out.trans (((Ext.refl _).drew).trans hw2)).size) (by kernel_rfl) rfl (Oq (t:=62) (by kernel_rfl) (BG (SlI.keep RWN.out (((Ext.refl _).drew).trans hw2)) hc2 (by omega)) (Ou (t:=3) (k:= .i64) (by kernel_rfl) (by kernel_rfl) (by kernel_rfl) (by show (-9223372036854775808:Int)≤_;omega) (by show _≤(9223372036854775807:Int);omega))) (by kernel_rfl) (by kernel_rfl)).mono ?_;rintro e w' ⟨u5,rfl,hu5,hx5⟩;(go_wp2_with fail);exact hK _ _ hx5 hu5)
    · (intro v w1 w2 h hx;exact Jh h hx (fun _ h _=>h))
    apply Grow.step
    · intro w2 hw2
      intro n1 h1
      simp only[upd,reduceIte,Nat.reduceEqDiff,Nat.reduceAdd]at h1
      first | (unfold EqV at h1;subst h1) | skip
      intro K hK
      go_wp2_with fail
      ((first | exact hK _ _ (Ext.refl _) h1 | exact hK _ _ (Ext.refl _) h2))
    · (intro v w1 w2 h hx;exact Jh h hx (fun _ h _=>h))
    apply Grow.step
    · intro w2 hw2
      intro n1 h1
      simp only[upd,reduceIte,Nat.reduceEqDiff,Nat.reduceAdd]at h1
      first | (unfold EqV at h1;subst h1) | skip
      intro K hK
      go_wp2_with fail
      ((first | exact hK _ _ (Ext.refl _) h1 | exact hK _ _ (Ext.refl _) h2))
    · (intro v w1 w2 h hx;exact Jh h hx (fun _ h _=>h))
    refine Grow.last (fun w2 hw2=> ?_)
    intro n77 h77;simp only[upd,reduceIte,Nat.reduceEqDiff,Nat.reduceAdd]at h77;(first | (unfold EqV at h77;subst h77) | skip)
    intro n78 h78;simp only[upd,reduceIte,Nat.reduceEqDiff,Nat.reduceAdd]at h78;(first | (unfold EqV at h78;subst h78) | skip)
    intro n79 h79;simp only[upd,reduceIte,Nat.reduceEqDiff,Nat.reduceAdd]at h79;(first | (unfold EqV at h79;subst h79) | skip)
    intro n80 h80;simp only[upd,reduceIte,Nat.reduceEqDiff,Nat.reduceAdd]at h80;(first | (unfold EqV at h80;subst h80) | skip)
    intro n81 h81;simp only[upd,reduceIte,Nat.reduceEqDiff,Nat.reduceAdd]at h81;(first | (unfold EqV at h81;subst h81) | skip)
    intro n82 h82;simp only[upd,reduceIte,Nat.reduceEqDiff,Nat.reduceAdd]at h82;(first | (unfold EqV at h82;subst h82) | skip)
    intro n83 h83;simp only[upd,reduceIte,Nat.reduceEqDiff,Nat.reduceAdd]at h83;(first | (unfold EqV at h83;subst h83) | skip)
    intro n4 h4;simp only[upd,reduceIte,Nat.reduceEqDiff,Nat.reduceAdd]at h4;(first | (unfold EqV at h4;subst h4) | skip)
    intro n5 h5;simp only[upd,reduceIte,Nat.reduceEqDiff,Nat.reduceAdd]at h5;(first | (unfold EqV at h5;subst h5) | skip)
    refine Need.done ?_
    simp only[List.drop_succ_cons,List.drop_zero]
    go_simp
    go_wp2_with fail
    go_ret2
    exact ⟨_,_,rfl,h4,h5,XT.out.trans (((Ext.refl _).drew).trans hw2)⟩
  · obtain ⟨j,rfl⟩ : ∃ j,k=j+1:=⟨k-1,by omega⟩
    obtain ⟨e1,l1,l2,l3,l4⟩:=Aer (R:=R) (n:=n) (j:=j) (by omega) Y1.out hlt
    have RW:=Lib.hid ow2
    have QW:=Lib.hid ow3
    have DW:=Lib.hid ow1
    have L4:=Lib.hid l4
    have L3:=Lib.hid l3
    have L2:=Lib.hid l2
    have L1:=Lib.hid l1
    have E1:=Lib.hid e1
    have LT:=Lib.hid hlt
    have EQ:=Lib.hid heq
    clear ow1 ow2 ow3 l1 l2 l3 l4 e1 hlt heq
    have DS:Hid (M7 wr (.slice (some ⟨G1,0,none⟩) n c1) (q1.take n)):=by
      have:=DW.out.win (j:=0) (n:=n) (c:=c1) (by have:=Q1.out;omega) (by omega)
      rwa[List.drop_zero]at this
    have WIN:=Lib.hid (RW.out.win (j:=j) (n:=n+1) (c:=c2-j) (by omega) (by omega))
    obtain ⟨g,spE,hgl,hgu,hgB⟩:=Afl ((R.drop j).take (n+1)) (q1.take n) (n-2) (by have:=Q1.out;rw[Amr];omega) (by rw[L2.out];omega) (by omega) (by rw[DV.out,show n-2+2=n by omega];exact Y2.out) (by rw[DV.out];exact L3.out)
    rw[DV.out]at hgl hgu
    have SPE:=Lib.hid spE
    have GL:=Lib.hid hgl
    have GU:=Lib.hid hgu
    have GB:=Lib.hid hgB
    clear spE hgl hgu
    rw[Ay]at hgB
    have en:j+n+1-j=n+1:=by omega
    go_wp2_with (go_at_call 337;rw[en];refine (JR (t:=22) (vs:=[_,_]) (M:=fun _=>False) SPE.out Tryz.func337 (by kernel_rfl) (fun _ h=>h.elim) (by kernel_rfl) rfl (Oq (t:=62) (u:=62) (by kernel_rfl) (BG WIN.out (by omega) id) (BG DS.out (by omega) id)) (by kernel_rfl) (k:= .u64) (by kernel_rfl)).mono ?_;rintro e w5 ⟨rfl,_,hx5⟩)
    have LEN:Hid ((R.take j++(R.drop j).take (n+1)++R.drop (j+(n+1))).length≤1000000000):=by show _≤_;rw[← E1.out];omega
    have hq1n:n≤q1.length:=by have:=Q1.out;omega
    have RW5:Hid (OwL w w5 G2 c2 (R.take j++(R.drop j).take (n+1)++R.drop (j+(n+1)))):=by show OwL _ _ _ _ _;rw[← E1.out];exact RW.out.step hx5
    have QW5:Hid (OwL w w5 G3 c3 (Amc (j+1) 0++qh)):=QW.out.step hx5
    have DW5:Hid (OwL w w5 G1 c1 q1):=DW.out.step hx5
    refine (AkS hq1n (by omega) L1.out L2.out LEN.out (by omega) hg2 h12 RW5.out DW5.out GB.out).mono ?_
    rintro e w6 ⟨out,b,hb01,rfl,hol,hov,how,hgr⟩
    rw[L2.out]at hol hov
    rw[DV.out]at hov
    have Y0:Hid (0<y*2 ^ s):=by
      rcases Nat.eq_zero_or_pos (y*2 ^ s) with h0 | h0
      · have:=LT.out;rw[h0]at this;omega
      · exact h0
    have YP:Hid (y*2 ^ s≤B ^ (n+1)):=Nat.le_trans (Nat.le_of_lt Y1.out) (Nat.pow_le_pow_right Bw (by omega))
    have EX:=Lib.hid (AkT Y0.out YP.out GL.out GU.out (by have:=B7 out;rwa[hol]at this) hb01 hov)
    have QW6:Hid (OwL w w6 G3 c3 (Amc (j+1) 0++qh)):=QW5.out.far hgr h23.symm hg2
    have DW6:Hid (OwL w w6 G1 c1 q1):=DW5.out.far hgr h12 hg2
    have HOW:=Lib.hid how
    have HOL:=Lib.hid hol
    clear hov how hgr hol
    have fin:Hid (∀ (w7:World) (o2:List Ao) (g2:Nat),o2.length=n+1→nv o2=nv ((R.drop j).take (n+1)) % (y*2 ^ s)→g2=nv ((R.drop j).take (n+1)) / (y*2 ^ s)→OwL w w7 G2 c2 (R.take j++o2++R.drop (j+(n+1)))→OwL w w7 G3 c3 (Amc (j+1) 0++qh)→OwL w w7 G1 c1 q1→g2<B →
        ∃ (k:Nat) (R' qh':List Ao),Value.int IntKind.i64 ((j:Int)-1) = .int .i64 ((k:Int)-1)∧LInv (x*2 ^ s) (y*2 ^ s) m n w (w7.setCell ⟨G3,j,none⟩ (.int .u32 (g2:Int))) G1 c1 G2 c2 G3 c3 q1 k R' qh'):=by
      intro w7 o2 g2 t1 t2 t3 t4 t5 t6 t7
      obtain ⟨u1,u2,u3⟩:=L4.out o2 t1 t2
      have gs:w7.grownBy (w7.setCell ⟨G3,j,none⟩ (.int .u32 (g2:Int))) (some G3):=Qj (Qi _ _) _ _ _
      refine ⟨j,_,Amt 32 g2::qh,rfl,by omega,u1.trans hR,by simp;omega,u2,?_,t4.far gs h23 hg3,?_,t6.far gs h13 hg3⟩
      · rw[← EQ.out,← u3,nv,ofNat_lt t7,← t3,Nat.mul_add,Nat.mul_add,Anc,Nat.mul_assoc (B ^ j)];omega
      · have:=t5.set j (by simp;omega) (Amt 32 g2)
        rw[ofNat_lt t7,AgZ]at this
        exact this
    by_cases hb0:b=0
    · subst hb0
      obtain ⟨cl,fz,gb,gl⟩:=QW6.out.cell j (by simp;omega)
      obtain ⟨e2,e3⟩:=EX.out.1 rfl
      have E2:=Lib.hid e2
      have E3:=Lib.hid e3
      clear e2 e3
      go_wp2
      go_roundw
      case rel=>exact fin.out _ out g HOL.out E3.out E2.out HOW.out QW6.out DW6.out GB.out
      case measure=>(simp[intOf] <;> omega)
    · obtain ⟨e2,e3⟩:=EX.out.2 hb0
      obtain ⟨g',rfl⟩ : ∃ g',g=g'+1:=⟨_,e2⟩
      have E2:Hid (g'=nv ((R.drop j).take (n+1)) / (y*2 ^ s)):=Nat.succ.inj e2
      have E3:=Lib.hid e3
      have hbz:(!(b == 0))=true:=by simp[hb0]
      have HGB':Hid (g'<B):=Nat.lt_of_succ_lt GB.out
      have eg:(((g'+1:Nat):Int)-1)=(g':Int):=by omega
      clear e2 e3
      go_wp2_with fail
      have LEN6:Hid ((R.take j++out++R.drop (j+(n+1))).length≤1000000000):=by
        have h1:=LEN.out
        simp only[Amm,L2.out,HOL.out]at h1 ⊢
        exact h1
      refine (Ag2 hq1n (by omega) L1.out HOL.out LEN6.out (by omega) hg2 h12 HOW.out DW6.out).mono ?_
      rintro e w7 ⟨out2,b2,v,rfl,hol2,hov2,how2,hgr2⟩
      rw[HOL.out]at hol2 hov2
      rw[DV.out]at hov2
      have E4:=Lib.hid (E3.out (nv out2) b2 (by have:=B7 out2;rwa[hol2]at this) hov2)
      have QW7:Hid (OwL w w7 G3 c3 (Amc (j+1) 0++qh)):=QW6.out.far hgr2 h23.symm hg2
      have DW7:Hid (OwL w w7 G1 c1 q1):=DW6.out.far hgr2 h12 hg2
      have HOW2:=Lib.hid how2
      have HOL2:=Lib.hid hol2
      obtain ⟨cl,fz,gb,gl⟩:=QW7.out.cell j (by simp;omega)
      have hgB':=HGB'.out
      rw[Ay]at hgB'
      clear hov2 how2 hgr2 hol2 hgB
      go_wp2
      go_roundw
      case rel=>exact fin.out _ out2 g' HOL2.out E4.out E2.out HOW2.out QW7.out DW7.out HGB'.out
      case measure=>(simp[intOf] <;> omega)
theorem Afo(x y:Nat)(h1:1<(lb y).length)(hxy:y≤x)(hl:(lb x).length≤100000):Sp 332 [dL (lb x),dL (lb y)] [dL (lb (x / y)),dL (lb (x % y))]:=by
 refine AJ Kk Tryz.func332 (by kernel_rfl) (by kernel_rfl) (by kernel_rfl) (fun w M vs hM _ hlv hrd=> ?_)
 have hps:Tryz.f332.params.toList = [62,62]:=by kernel_rfl
 have hlen:vs.length=2:=by rw[hlv];rfl
 match vs,hlen with
 | [va,vb],_ =>
  rw[hps]at hrd
  refine (Aeq x y va vb w M (hrd 0 _ _ _ rfl rfl rfl) (hrd 1 _ _ _ rfl rfl rfl) hM h1 hxy hl).mono ?_
  rintro e w' ⟨u1,u2,rfl,r1,r2,hx⟩
  refine ⟨[u1,u2],rfl,rfl,fun i t u ht hu=> ?_,hx⟩
  rw[show Tryz.f332.resultTypes.toList = [62,62] by kernel_rfl]at ht
  match i with
  | 0=>cases ht;cases hu;exact Jh r1 (Ext.refl _) (fun b hb _=>hM b hb)
  | 1=>cases ht;cases hu;exact Jh r2 (Ext.refl _) (fun b hb _=>hM b hb)
  | i+2=>simp at ht
theorem V0(x y:Nat)(hl:(lb x).length≤100000):BK x y:=fun h1 h2=>Afo x y h1 h2 hl
end Go.Proofs.YtokkbgpgaheakaaGreat
namespace Go.Proofs.YtokkbgpgaheakaaGreat
def If(z:Int)(d:Nat):Num:=⟨decide (z<0),lb z.natAbs,lb d⟩
theorem AfH(z:Int)(d:Nat):Bo (If z d)=z:=Cy z
theorem AfF(z:Int)(d:Nat):Bj (If z d)=(d:Int):=by simp[Bj,If,Bq]
theorem Ma:lb 1 = [1]:=by rw[N4 (by decide),show 1 / B=0 from rfl,Ct];rfl
theorem Nt(z:Int):If z 1=Cn z:=by unfold If Cn;rw[Ma]
theorem V8(p q:Int)(hq:q≠0) : ∃ (z:Int) (d:Nat),d≠0∧Nat.Coprime z.natAbs d∧z*q=p*(d:Int)∧z.natAbs≤p.natAbs∧d≤q.natAbs∧C4 p q=if 32<Bs z∨32<(lb d).length then (.zero,7) else (If z d,0):=by
 have hg:0<Nat.gcd p.natAbs q.natAbs:=Nat.gcd_pos_of_pos_right _ (by omega)
 obtain ⟨a,ha⟩:=Nat.gcd_dvd_left p.natAbs q.natAbs
 obtain ⟨b,hb⟩:=Nat.gcd_dvd_right p.natAbs q.natAbs
 have hda:p.natAbs / Nat.gcd p.natAbs q.natAbs=a:=by
   conv=>lhs;lhs;rw[ha]
   exact Nat.mul_div_cancel_left _ hg
 have hdb:q.natAbs / Nat.gcd p.natAbs q.natAbs=b:=by
   conv=>lhs;lhs;rw[hb]
   exact Nat.mul_div_cancel_left _ hg
 have hcop:Nat.Coprime a b:=by
   have:=Nat.coprime_div_gcd_div_gcd hg
   rwa[hda,hdb]at this
 have hb0:b≠0:=fun h=>by rw[h,Nat.mul_zero]at hb;omega
 have ha0:a=0↔p=0:=by
   constructor
   · intro h;rw[h,Nat.mul_zero]at ha;omega
   · intro h
     rw[h]at ha
     simp only[Int.natAbs_zero]at ha
     rcases Nat.mul_eq_zero.1 ha.symm with h1 | h1
     · rw[h]at hg;simp only[Int.natAbs_zero]at hg;omega
     · exact h1
 have hal:a≤p.natAbs:=by rw[ha];exact Nat.le_mul_of_pos_left _ hg
 have hbl:b≤q.natAbs:=by rw[hb];exact Nat.le_mul_of_pos_left _ hg
 have hab:a*q.natAbs=p.natAbs*b:=by
   conv=>lhs;rw[hb]
   conv=>rhs;rw[ha]
   rw[Nat.mul_left_comm,Nat.mul_assoc]
 unfold C4
 rw[if_neg hq,hda,hdb]
 generalize Nat.gcd p.natAbs q.natAbs=g at *
 clear hda hdb ha hb hg
 have habz:(a:Int)*(q.natAbs:Int)=(p.natAbs:Int)*(b:Int):=by rw[← Int.natCast_mul,hab,Int.natCast_mul]
 by_cases hs:decide (p<0)=decide (q<0)
 · refine ⟨(a:Int),b,hb0,by simpa using hcop,?_,by simpa using hal,hbl,?_⟩
   · rw[decide_eq_decide]at hs
     by_cases hp:p<0
     · have e1:(p.natAbs:Int) = -p:=by omega
       have e2:(q.natAbs:Int) = -q:=by omega
       rw[e1,e2]at habz
       grind
     · have e1:(p.natAbs:Int)=p:=by omega
       have e2:(q.natAbs:Int)=q:=by omega
       rw[e1,e2]at habz
       exact habz
   · unfold If Bs
     rw[hs,beq_self_eq_true,Bool.not_true,Bool.and_false]
     simp only[Int.natAbs_natCast]
     rw[decide_eq_false (p:=((a:Int)<0)) (by omega)]
 · have hp:(decide (p<0)==decide (q<0))=false:=by simpa using hs
   refine ⟨-(a:Int),b,hb0,by simpa using hcop,?_,by simpa using hal,hbl,?_⟩
   · rw[decide_eq_decide]at hs
     by_cases hp:p<0
     · have e1:(p.natAbs:Int) = -p:=by omega
       have e2:(q.natAbs:Int)=q:=by omega
       rw[e1,e2]at habz
       grind
     · have e1:(p.natAbs:Int)=p:=by omega
       have e2:(q.natAbs:Int) = -q:=by omega
       rw[e1,e2]at habz
       grind
   · unfold If Bs
     rw[hp,Bool.not_false,Bool.and_true]
     simp only[Int.natAbs_neg,Int.natAbs_natCast]
     have:decide (0<(lb a).length)=decide (-(a:Int)<0):=by
       rw[decide_eq_decide]
       have:=Gc (n:=a)
       omega
     rw[this]
theorem Acj{z z':Int}{d d':Nat}(h:d≠0)(h':d'≠0)(c:Nat.Coprime z.natAbs d)(c':Nat.Coprime z'.natAbs d')(e:z*(d':Int)=z'*(d:Int)):z=z'∧d=d':=by
 have en:z.natAbs*d'=z'.natAbs*d:=by
  have:=congrArg Int.natAbs e
  simpa [Int.natAbs_mul]using this
 have h1:d∣d':=(Nat.Coprime.dvd_of_dvd_mul_left c.symm (by rw[en];exact Nat.dvd_mul_left _ _))
 have h2:d'∣d:=(Nat.Coprime.dvd_of_dvd_mul_left c'.symm (by rw[← en];exact Nat.dvd_mul_left _ _))
 have hd:=Nat.dvd_antisymm h1 h2
 subst hd
 exact ⟨Int.eq_of_mul_eq_mul_right (by omega) e,rfl⟩
structure RNum (n:Num) (z:Int) (d:Nat):Prop where
 eq:n=If z d
 d0:d≠0
 cop:Nat.Coprime z.natAbs d
 lz:Bs z≤32
 ld:(lb d).length≤32
theorem Ae_{z:Int}{d:Nat}(h0:d≠0)(hc:Nat.Coprime z.natAbs d)(h1:Bs z≤32)(h2:(lb d).length≤32):C4 z (d:Int)=(If z d,0):=by
 obtain ⟨z',d',h1',h2',h3',_,_,h4'⟩:=V8 z (d:Int) (by omega)
 obtain ⟨rfl,rfl⟩:=Acj h0 h1' hc h2' h3'.symm
 rw[h4',if_neg (by omega)]
theorem RNum.self {n:Num} {z:Int} {d:Nat} (h:RNum n z d):C4 z (d:Int)=(n,0):=by rw[Ae_ h.d0 h.cop h.lz h.ld,h.eq]
theorem RNum.top {n:Num} {z:Int} {d:Nat} (h:RNum n z d):Bo n=z:=by rw[h.eq,AfH]
theorem RNum.bot {n:Num} {z:Int} {d:Nat} (h:RNum n z d):Bj n=(d:Int):=by rw[h.eq,AfF]
theorem O0{n:Num}(h:Eo n=true) : ∃ z d,RNum n z d:=by
 unfold Eo at h
 obtain ⟨h1,h2,h3⟩:=of_decide_eq_true h
 by_cases hq:Bj n=0
 · rw[hq]at h3
   have:=congrArg Prod.snd h3
   simp[C4]at this
 · obtain ⟨z,d,g1,g2,_,_,_,g4⟩:=V8 (Bo n) (Bj n) hq
   rw[h3]at g4
   split at g4
   · cases g4
   · injection g4 with g4
     exact ⟨z,d,g4,g1,g2,by omega,by omega⟩
theorem RNum.len {n:Num} {z:Int} {d:Nat} (h:RNum n z d):n.top.length≤32∧n.bot.length≤32:=by rw[h.eq];exact ⟨h.lz,h.ld⟩
theorem RE{p q:Int}(hq:q≠0):((C4 p q).2=0→∃ z d,RNum (C4 p q).1 z d∧z*q=p*(d:Int)∧z.natAbs≤p.natAbs∧d≤q.natAbs)∧((C4 p q).2=0∨(C4 p q)=(.zero,7))∧(Bs p≤32→Bs q≤32→(C4 p q).2=0):=by
 obtain ⟨z,d,g1,g2,g3,g5,g6,g4⟩:=V8 p q hq
 rw[g4]
 have mono : ∀ {a b k:Nat},a≤b→(lb b).length≤k→(lb a).length≤k:=fun hab hk=>A0.2 (Nat.lt_of_le_of_lt hab (A0.1 hk))
 refine ⟨fun h=> ?_,?_,fun h1 h2=> ?_⟩
 · split at h
   · cases h
   · rename_i hh
     rw[if_neg hh]
     exact ⟨z,d,⟨rfl,g1,g2,by omega,by omega⟩,g3,g5,g6⟩
 · split
   · exact .inr rfl
   · exact .inl rfl
 · rw[if_neg]
   have a1:=mono g5 h1
   have a2:=mono g6 h2
   unfold Bs;omega
def Db(r:Num×Int):List D:=[dN r.1,.int r.2]
theorem K5(n:Num):Bs (Bo n)≤n.top.length:=He ⟨n.neg,n.top⟩
theorem K4(n:Num):Bs (Bj n)≤n.bot.length:=He ⟨false,n.bot⟩
theorem Kp(n:Num):zv ⟨false,n.bot⟩=Bj n:=rfl
theorem Jv(n:Num):zv ⟨n.neg,n.top⟩=Bo n:=rfl
def BN(a b:Num):Num×Int:=C4 (Bo a*Bj b+Bo b*Bj a) (Bj a*Bj b)
def Od(a b:Num):Num×Int:=C4 (Bo a*Bo b) (Bj a*Bj b)
def Lu(a b:Num):Num×Int:=C4 (Bo a*Bj b) (Bj a*Bo b)
def Gp(a b:Num):Int:=Ch (Bo a*Bj b) (Bo b*Bj a)
def Ik(a:Num):Num:=if a.top = [] then Cn 0 else ⟨!a.neg,a.top,a.bot⟩
def JS(a b:Num):Num×Int:=BN a (Ik b)
def I6(a:Num):Num:=Cn (D3 (Bo a) (Bj a)).1
def Na(r:Num×Int)(f:Num→Num×Int):Num×Int:=if r.2=0 then f r.1 else (.zero,r.2)
def FO(a b:Num):Num×Int:=if a.top = [] then (b,0) else Na (Lu b a) fun q=>Na (Od a (I6 q)) fun p=>JS b p
def Xf(p q:Int×Int):Num×Int:=if p.2=0 then (if q.2=0 then C4 p.1 q.1 else (.zero,q.2)) else (.zero,p.2)
def GV(a:Num)(n:Int):Num×Int :=
 if n<0 then (if a.top = []∨n < -9223372036854775807 then (.zero,3) else Xf (K7 (Bj a) (-n)) (K7 (Bo a) (-n))) else Xf (K7 (Bo a) n) (K7 (Bj a) n)
def L5(a b:Num):Num×Int:=if a.bot = [1]∧b.bot = [1] then (Cn (Nat.gcd (nv a.top) (nv b.top):Nat),0) else (.zero,3)
def FB(a b:Num):Num×Int:=Na (L5 a b) fun g=>if g.top = [] then (g,0) else Na (Lu a g) fun p=>Od p b
theorem FU{n:Num}{z:Int}{d:Nat}(h:RNum n z d):RNum (Ik n) (-z) d:=by
 have h0:n.top = []↔z=0:=by rw[h.eq];show lb z.natAbs = []↔_;rw[EZ];omega
 refine ⟨?_,h.d0,by rw[Int.natAbs_neg];exact h.cop,by rw[Aen];exact h.lz,h.ld⟩
 unfold Ik
 split
 · rename_i h1
   have hz:=h0.1 h1
   have hd:d=1:=by
    have:=h.cop
    rw[hz,Int.natAbs_zero,Nat.coprime_zero_left]at this
    exact this
   rw[hz,hd,Int.neg_zero,Nt]
 · rename_i h1
   have hz:z≠0:=fun hh=>h1 (h0.2 hh)
   rw[h.eq]
   unfold If
   simp only[Int.natAbs_neg]
   rw[show decide (-z<0) = !decide (z<0) by rw[Ed,decide_eq_decide];omega]
theorem Afs(a b:Nat)(ha:a<18446744073709551616)(hb:b<18446744073709551616):Sp 327 [.int (a:Int),.int (b:Int)] [dL (lb (Nat.gcd a b))]:=by
 have key : ∀ (m N x y:Nat),y<m→x<18446744073709551616→y<18446744073709551616→Tw (Wu N m (x:Int) (y:Int)) [dL (lb (Nat.gcd x y))]:=by
  intro m
  induction m with
  | zero=>intro N x y h;omega
  | succ m ih =>
   intro N x y h hx hy
   simp only[Tw,Afr,C0,Cd,Ed]
   refine Ae (fun h0=> ?_) (fun h0=> ?_)
   · have hm:=Am5 x (show 0<y by omega)
     have:=ih N y (x % y) (by omega) hy (by omega)
     rw[Nat.gcd_comm x y,Nat.gcd_rec,Nat.gcd_comm]
     exact Ad this
   · have:y=0:=by omega
     subst this
     rw[Nat.gcd_zero_right,Nm]
     have e1:Al6 .u32 (x:Int)=((x % 4294967296:Nat):Int):=by rw[IntKind.wrap_u32];omega
     have e2:Al6 .u32 ((x / 4294967296:Nat):Int)=((x / 4294967296:Nat):Int):=E6 (by omega) (by omega)
     have nm:=G7 [Amt 32 (x % 4294967296),Amt 32 (x / 4294967296)] (by simp)
     rw[Sh hx]at nm
     rw[e1,e2,Ea (t:=x % 4294967296) (by rw[Ay];omega),Ea (t:=x / 4294967296) (by rw[Ay];omega)]
     exact Bi (by decide) (Aa nm (Ac rfl))
 refine Af (b+1) (Aft _ _ _) ?_
 simp only[Al]
 exact key (b+1) (b+1) a b (by omega) ha hb
theorem SE(l:List Ao)(h:l.length≤2):Sp 328 [dL l] [.int ((nv l:Nat):Int)]:=by
 refine Af 3 (Afw _ _) ?_
 have one : ∀ (m k x:Nat) (d:Ao),k≤1→l[k]? = some d→(k=0→x=0)→x<4294967296→Tw (Of 3 m ((x+d.toNat*4294967296 ^ k:Nat):Int) (dL l) (l.length:Int) ((k+1:Nat):Int)) [.int ((nv l:Nat):Int)]→Tw (Of 3 (m+1) (x:Int) (dL l) (l.length:Int) (k:Int)) [.int ((nv l:Nat):Int)]:=by
  intro m k x d hk hd hx hx2 hw
  have hkl:k<l.length:=(Ame.1 hd).1
  have hdl:=Ej d
  rw[Ay]at hdl
  simp only[Tw,SD,Bz,Amd,Amj,As hd,Dc]
  rw[At (x:=32*(k:Int)) (by omega) (by omega),Bn (x:=32*(k:Int)) (by omega) (by omega),Bn (x:=(d.toNat:Int)) (by omega) (by omega),D0 (by omega)]
  refine Ad (Ad (Ad (Ad ?_)))
  have e:Bm .or .u64 (x:Int) (Al6 .u64 ((d.toNat:Int)*2 ^ (min (Ama (32*(k:Int))) (Aml .u64))))=((x+d.toNat*4294967296 ^ k:Nat):Int):=by
   rcases (by omega:k=0∨k=1) with rfl | rfl
   · rw[hx rfl]
     show Bm .or .u64 ((0:Nat):Int) (Al6 .u64 ((d.toNat:Int)*1))=_
     rw[Int.mul_one,Bn (by omega) (by omega),SY (by omega) (by omega)]
     simp
   · show Bm .or .u64 (x:Int) (Al6 .u64 ((d.toNat:Int)*4294967296))=_
     rw[show (d.toNat:Int)*4294967296=((d.toNat*4294967296:Nat):Int) by omega,Bn (by omega) (by omega),GN hx2 hdl]
     try simp
  rw[e]
  exact hw
 simp only[Bz,Amd]
 have fin : ∀ (m x:Nat),nv l=x→Tw (Of 3 (m+1) (x:Int) (dL l) (l.length:Int) (l.length:Int)) [.int ((nv l:Nat):Int)]:=by
  intro m x hx
  simp only[Tw,SD]
  exact Aq (Ac (by rw[hx]))
 match l,h with
 | [],_=>exact fin 2 0 rfl
 | [d],_ =>
  refine one 2 0 0 d (by omega) rfl (fun _=>rfl) (by omega) ?_
  exact fin 1 _ (by simp[nv])
 | [d,e],_ =>
  have hdl:=Ej d
  rw[Ay]at hdl
  refine one 2 0 0 d (by omega) rfl (fun _=>rfl) (by omega) ?_
  rw[show 0+d.toNat*4294967296 ^ 0=d.toNat by simp]
  refine one 1 1 d.toNat e (by omega) rfl (fun h=>by omega) (by omega) ?_
  refine fin 0 _ ?_
  simp only[nv]
  rw[Ay,Nat.pow_one,Anb e.toNat]
  simp
theorem RR(a b:List Ao)(ha:a.length≤1000)(hb:b.length≤1000):Sp 315 [dL a,dL b] [dL (lb (Nat.gcd (nv a) (nv b)))]:=by
 obtain ⟨K,hK⟩ : ∃ K,K=1000:=⟨_,rfl⟩
 have key : ∀ (m N x y:Nat),y<m→(lb x).length≤K→(lb y).length≤K→Tw (Q5 N m (dL (lb x)) (dL (lb y))) [dL (lb (Nat.gcd x y))]:=by
  intro m
  induction m with
  | zero=>intro N x y h;omega
  | succ m ih =>
   intro N x y h hx hy
   simp only[Tw,Afd,Bz,Amd]
   have ly0:=Gc (n:=y)
   refine Ae (fun h0=> ?_) (fun h0=> ?_)
   · have hy0:y≠0:=fun hh=>by rw[ly0.2 hh]at h0;omega
     have hm:=Am5 x (show 0<y by omega)
     have hml:(lb (x % y)).length≤K:=A0.2 (Nat.lt_of_le_of_lt (Nat.le_of_lt hm) (A0.1 hy))
     have dm:=Wk (lb x) (lb y) (by omega) (by omega) (V0 _ _ (by rw[Bq];omega))
     rw[Bq,Bq,if_neg hy0]at dm
     have nxt:=ih N y (x % y) (by omega) hy hml
     rw[show Nat.gcd y (x % y)=Nat.gcd x y by rw[Nat.gcd_comm x y,Nat.gcd_rec y x,Nat.gcd_comm]]at nxt
     refine Ae (fun h1=>Ae (fun h2=> ?_) (fun h2=>Aa dm nxt)) (fun h1=>Aa dm nxt)
     have w1:=SE (lb x) (by omega)
     have w2:=SE (lb y) (by omega)
     rw[Bq]at w1 w2
     have b1:x<18446744073709551616:=A0.1 (show (lb x).length≤2 by omega)
     have b2:y<18446744073709551616:=A0.1 (show (lb y).length≤2 by omega)
     exact Aa w1 (Aa w2 (Aa (Afs x y b1 b2) (Ac rfl)))
   · have:y=0:=ly0.1 (by omega)
     subst this
     have nm:=G7 (lb x) (by omega)
     rw[Bq]at nm
     rw[Nat.gcd_zero_right]
     exact Aa nm (Ac rfl)
 have la:(lb (nv a)).length≤a.length:=A0.2 (B7 a)
 have lb_:(lb (nv b)).length≤b.length:=A0.2 (B7 b)
 refine Af (nv b+1) (Afe _ _ _) (Aa (Fd a (by omega)) (Aa (Fd b (by omega)) ?_))
 exact key (nv b+1) (nv b+1) (nv a) (nv b) (by omega) (by omega) (by omega)
theorem Gf(n:Num):Sp 255 [dN n] [dW ⟨false,n.bot⟩]:=Af 0 (Ah3 _ _) (Ac rfl)
theorem AaQ{w:Wh}(h:nv w.mag≠0):decide (zv w<0)=w.neg:=by
 rw[show w.neg=decide (w.neg=true) by simp,decide_eq_decide];exact Sw h
theorem Xl(p q:Wh)(hp:p.mag.length≤1000)(hq:q.mag.length≤1000):Sp 305 [dW p,dW q] (Db (C4 (zv p) (zv q))):=by
 refine Af 0 (Ahp _ _ _) (Aa (G7 p.mag (by omega)) (Aa (G7 q.mag (by omega)) ?_))
 have lp:(lb (nv p.mag)).length≤p.mag.length:=A0.2 (B7 _)
 have lq:(lb (nv q.mag)).length≤q.mag.length:=A0.2 (B7 _)
 have ap:=Ko p
 have aq:=Ko q
 have sgn : ∀ t:Nat,(0<(lb t).length→nv p.mag≠0)→nv q.mag≠0→(decide (0<(lb t).length)&& !(decide (zv p<0)==decide (zv q<0)))=if 0<(lb t).length then !(p.neg == q.neg) else false:=by
   intro t h1 h2
   split
   · rename_i h3
     rw[decide_eq_true h3,Bool.true_and,AaQ (h1 h3),AaQ h2]
   · rename_i h3
     rw[decide_eq_false h3,Bool.false_and]
 simp only[Ag,E9,Ev,Bz,Amd,Az,Cd]
 have ly0:=Gc (n:=nv q.mag)
 refine Ae (fun h=>Ac ?_) (fun h=> ?_)
 · have:zv q=0:=Sx.2 (ly0.1 (by omega))
   unfold C4;rw[if_pos this];rfl
 have hq0:nv q.mag≠0:=fun hh=>h (by rw[hh,Ct];rfl)
 have hqz:zv q≠0:=fun hh=>hq0 (Sx.1 hh)
 have fin : ∀ g:Nat,g=Nat.gcd (nv p.mag) (nv q.mag)→∀ (t b:Nat),t=nv p.mag / g→b=nv q.mag / g→Tw (.br (decide (32<((lb t).length:Int))) (.ret [D.agg [D.bool false,D.sl [],D.sl []],D.int 7]) (.br (decide (32<((lb b).length:Int))) (.ret [D.agg [D.bool false,D.sl [],D.sl []],D.int 7]) (.br (decide (0<((lb t).length:Int))) (.ret [D.agg [D.bool (!(p.neg == q.neg)),dL (lb t),dL (lb b)],D.int 0]) (.ret [D.agg [D.bool false,dL (lb t),dL (lb b)],D.int 0])))) (Db (C4 (zv p) (zv q))):=by
   intro g hg t b ht hb
   have sg:=sgn t (fun h3 hh=>by rw[ht,hh,Nat.zero_div,Ct]at h3;simp at h3) hq0
   unfold C4 Db
   rw[if_neg hqz,ap,aq,← hg,← ht,← hb,sg]
   refine Ae (fun h1=>Ac ?_) (fun h1=>Ae (fun h2=>Ac ?_) (fun h2=>Ae (fun h3=>Ac ?_) (fun h3=>Ac ?_)))
   · rw[if_pos (by omega)];rfl
   · rw[if_pos (by omega)];rfl
   · rw[if_neg (by omega),if_pos (by omega)];rfl
   · rw[if_neg (by omega),if_neg (by omega)];rfl
 refine Aa (Kb _) ?_
 simp only[Ag,Az,Ed]
 have one : ∀ l:List Ao,l = [1]→nv l=1:=fun l h=>by rw[h];simp[nv]
 refine Ae (fun h1=> ?_) (fun h1=> ?_)
 · have gc:=RR (lb (nv p.mag)) (lb (nv q.mag)) (by omega) (by omega)
   rw[Bq,Bq]at gc
   refine Aa gc (Aa (Kb _) ?_)
   simp only[Ag,Az,Ed]
   have hg0:Nat.gcd (nv p.mag) (nv q.mag)≠0:=fun hh=>hq0 (Nat.gcd_eq_zero_iff.1 hh).2
   have hgl:(lb (Nat.gcd (nv p.mag) (nv q.mag))).length≤q.mag.length:=A0.2 (Nat.lt_of_le_of_lt (Nat.gcd_le_right _ (by omega)) (B7 _))
   refine Ae (fun h2=> ?_) (fun h2=> ?_)
   · have d1:=Wk (lb (nv p.mag)) (lb (Nat.gcd (nv p.mag) (nv q.mag))) (by omega) (by omega) (V0 _ _ (by rw[Bq];omega))
     have d2:=Wk (lb (nv q.mag)) (lb (Nat.gcd (nv p.mag) (nv q.mag))) (by omega) (by omega) (V0 _ _ (by rw[Bq];omega))
     rw[Bq,Bq]at d1 d2
     refine Aa d1 (Aa d2 ?_)
     simp only[Ag,Bz,Amd]
     exact fin _ rfl _ _ rfl rfl
   · have:Nat.gcd (nv p.mag) (nv q.mag)=1:=by have:=one _ (Amn.1 h2);rwa[Bq]at this
     exact fin 1 this.symm _ _ (Nat.div_one _).symm (Nat.div_one _).symm
 · have hq1:nv q.mag=1:=by have:=one _ (Amn.1 h1);rwa[Bq]at this
   exact fin 1 (by rw[hq1,Nat.gcd_one_right]) _ _ (Nat.div_one _).symm (Nat.div_one _).symm
def Gm(n:Num):Prop:=n.top.length≤200∧n.bot.length≤200
theorem RNum.sm {n:Num} {z:Int} {d:Nat} (h:RNum n z d):Gm n:=by have:=h.len;unfold Gm;omega
section
variable {a b:Num}
theorem UV(ha:Gm a)(hb:Gm b):Sp 277 [dN a,dN b] (Db (BN a b)):=by
 obtain ⟨a1,a2⟩:=ha
 obtain ⟨b1,b2⟩:=hb
 have at_:=K5 a;have ab:=K4 a;have bt:=K5 b;have bb:=K4 b
 have m1:=Ih (Bo a) (Bj b)
 have m2:=Ih (Bo b) (Bj a)
 have m3:=Ih (Bj a) (Bj b)
 have s1:=Aem (Bo a*Bj b) (Bo b*Bj a)
 have x1:=H4 ⟨a.neg,a.top⟩ ⟨false,b.bot⟩ (by show a.top.length≤_;omega) (by show b.bot.length≤_;omega)
 have x2:=H4 ⟨b.neg,b.top⟩ ⟨false,a.bot⟩ (by show b.top.length≤_;omega) (by show a.bot.length≤_;omega)
 have x3:=H4 ⟨false,a.bot⟩ ⟨false,b.bot⟩ (by show a.bot.length≤_;omega) (by show b.bot.length≤_;omega)
 have x4:=KI (wz (Bo a*Bj b)) (wz (Bo b*Bj a)) (by rw[Fh];omega) (by rw[Fh];omega)
 have x5:=Xl (wz (Bo a*Bj b+Bo b*Bj a)) (wz (Bj a*Bj b)) (by rw[Fh];omega) (by rw[Fh];omega)
 rw[Jv,Kp]at x1 x2
 rw[Kp,Kp]at x3
 rw[Cy,Cy]at x4 x5
 exact Af 0 (Ahf _ _ _) (Aa (Fe a) (Aa (Gf b) (Aa x1 (Aa (Fe b) (Aa (Gf a) (Aa x2 (Aa x4 (Aa (Gf a) (Aa (Gf b) (Aa x3 (Aa x5 (Ac rfl))))))))))))
theorem HR(ha:Gm a)(hb:Gm b):Sp 279 [dN a,dN b] (Db (Od a b)):=by
 obtain ⟨a1,a2⟩:=ha
 obtain ⟨b1,b2⟩:=hb
 have at_:=K5 a;have ab:=K4 a;have bt:=K5 b;have bb:=K4 b
 have m1:=Ih (Bo a) (Bo b)
 have m3:=Ih (Bj a) (Bj b)
 have x1:=H4 ⟨a.neg,a.top⟩ ⟨b.neg,b.top⟩ (by show a.top.length≤_;omega) (by show b.top.length≤_;omega)
 have x3:=H4 ⟨false,a.bot⟩ ⟨false,b.bot⟩ (by show a.bot.length≤_;omega) (by show b.bot.length≤_;omega)
 have x5:=Xl (wz (Bo a*Bo b)) (wz (Bj a*Bj b)) (by rw[Fh];omega) (by rw[Fh];omega)
 rw[Jv,Jv]at x1
 rw[Kp,Kp]at x3
 rw[Cy,Cy]at x5
 exact Af 0 (Ahs _ _ _) (Aa (Fe a) (Aa (Fe b) (Aa x1 (Aa (Gf a) (Aa (Gf b) (Aa x3 (Aa x5 (Ac rfl))))))))
theorem Xk(ha:Gm a)(hb:Gm b):Sp 260 [dN a,dN b] (Db (Lu a b)):=by
 obtain ⟨a1,a2⟩:=ha
 obtain ⟨b1,b2⟩:=hb
 have at_:=K5 a;have ab:=K4 a;have bt:=K5 b;have bb:=K4 b
 have m1:=Ih (Bo a) (Bj b)
 have m3:=Ih (Bj a) (Bo b)
 have x1:=H4 ⟨a.neg,a.top⟩ ⟨false,b.bot⟩ (by show a.top.length≤_;omega) (by show b.bot.length≤_;omega)
 have x3:=H4 ⟨false,a.bot⟩ ⟨b.neg,b.top⟩ (by show a.bot.length≤_;omega) (by show b.top.length≤_;omega)
 have x5:=Xl (wz (Bo a*Bj b)) (wz (Bj a*Bo b)) (by rw[Fh];omega) (by rw[Fh];omega)
 rw[Jv,Kp]at x1
 rw[Kp,Jv]at x3
 rw[Cy,Cy]at x5
 exact Af 0 (Ahj _ _ _) (Aa (Fe a) (Aa (Gf b) (Aa x1 (Aa (Gf a) (Aa (Fe b) (Aa x3 (Aa x5 (Ac rfl))))))))
theorem FW(h:a.bot = [1]):Bj a=1:=by unfold Bj;rw[h];simp[nv]
theorem Xj(ha:Gm a)(hb:Gm b):Sp 219 [dN a,dN b] [.int (Gp a b)]:=by
 obtain ⟨a1,a2⟩:=ha
 obtain ⟨b1,b2⟩:=hb
 have at_:=K5 a;have ab:=K4 a;have bt:=K5 b;have bb:=K4 b
 have m1:=Ih (Bo a) (Bj b)
 have m2:=Ih (Bo b) (Bj a)
 have x1:=H4 ⟨a.neg,a.top⟩ ⟨false,b.bot⟩ (by show a.top.length≤_;omega) (by show b.bot.length≤_;omega)
 have x2:=H4 ⟨b.neg,b.top⟩ ⟨false,a.bot⟩ (by show b.top.length≤_;omega) (by show a.bot.length≤_;omega)
 have x4:=AaC (wz (Bo a*Bj b)) (wz (Bo b*Bj a)) (by rw[Fh];omega) (by rw[Fh];omega)
 have x5:=AaC ⟨a.neg,a.top⟩ ⟨b.neg,b.top⟩ (by show a.top.length≤_;omega) (by show b.top.length≤_;omega)
 rw[Jv,Kp]at x1 x2
 rw[Cy,Cy]at x4
 rw[Jv,Jv]at x5
 refine Af 0 (Ahi _ _ _) (Aa (Kb a.bot) ?_)
 simp only[Ag,Az]
 refine Ae (fun h=>Aa (Kb b.bot) ?_) (fun h=>Aa (Fe a) (Aa (Gf b) (Aa x1 (Aa (Fe b) (Aa (Gf a) (Aa x2 (Aa x4 (Ac rfl))))))))
 simp only[Ag,Az]
 refine Ae (fun h'=> ?_) (fun h'=>Aa (Fe a) (Aa (Gf b) (Aa x1 (Aa (Fe b) (Aa (Gf a) (Aa x2 (Aa x4 (Ac rfl))))))))
 refine Aa (Fe a) (Aa (Fe b) (Aa x5 (Ac ?_)))
 unfold Gp
 rw[FW h,FW h',Int.mul_one,Int.mul_one];rfl
theorem Xn(ha:Gm a):Sp 259 [dN a] [.int (Ff (Bo a))]:=by
 obtain ⟨a1,a2⟩:=ha
 exact Af 0 (Ahz _ _) (Aa (Fe a) (Aa (BD ⟨a.neg,a.top⟩ (by show a.top.length≤_;omega)) (Ac rfl)))
end
section
variable {a b:Num} {z y:Int} {d e:Nat}
def Mw(neg:Bool)(n:Num):Num:=⟨neg&&decide (0<n.top.length),n.top,n.bot⟩
theorem HV(neg:Bool)(h:RNum a z d):Sp 304 [.bool neg,dN a] [dN (Mw neg a)]:=by
 obtain ⟨l1,l2⟩:=h.len
 have e1:lb (nv a.top)=a.top:=by rw[h.eq];show lb (nv (lb _))=lb _;rw[Bq]
 have e2:lb (nv a.bot)=a.bot:=by rw[h.eq];show lb (nv (lb _))=lb _;rw[Bq]
 have n1:=G7 a.top (by omega)
 have n2:=G7 a.bot (by omega)
 rw[e1]at n1
 rw[e2]at n2
 refine Af 0 (Ah4 _ _ _) (Aa n1 (Aa n2 ?_))
 simp only[Ag,Bz,Amd,Az]
 unfold Mw
 cases neg with
 | true =>
  refine Bi rfl (Ac ?_)
  rw[Bool.true_and,show decide ((0:Int)<(a.top.length:Int))=decide (0<a.top.length) by rw[decide_eq_decide];omega];rfl
 | false=>exact D6 rfl (Ac rfl)
theorem RNum.top0 (h:RNum a z d):a.top = []↔z=0:=by rw[h.eq];show lb z.natAbs = []↔_;rw[EZ];omega
theorem RNum.sgn (h:RNum a z d):a.neg=decide (z<0):=by rw[h.eq];rfl
theorem AjT(h:RNum a z d):Mw (!a.neg) a=Ik a:=by
 unfold Mw Ik
 split
 · rename_i h0
   rw[h0]
   have hz:=h.top0.1 h0
   have hd:d=1:=by
    have:=h.cop
    rw[hz,Int.natAbs_zero,Nat.coprime_zero_left]at this
    exact this
   have hb:a.bot = [1]:=by rw[h.eq,hd];exact Ma
   rw[hb];simp[Cn,Ct]
 · rename_i h0
   rw[decide_eq_true (List.length_pos_iff.2 h0),Bool.and_true]
theorem AjU(h:RNum a z d):Mw a.neg a=a:=by
 unfold Mw
 have:(a.neg&&decide (0<a.top.length))=a.neg:=by
  by_cases h0:a.top = []
  · have:=h.top0.1 h0
    rw[h.sgn,this];simp
  · rw[decide_eq_true (List.length_pos_iff.2 h0),Bool.and_true]
 rw[this]
theorem Xm(h:RNum a z d):Sp 258 [dN a] [dN (Ik a)]:=by
 refine Af 0 (Aht _ _) ?_
 simp only[Lr,Az]
 refine Aa (HV _ h) (Ac ?_)
 rw[AjT h];rfl
theorem Ahd(h:RNum a z d):Sp 263 [dN a] [dN ⟨false,a.top,a.bot⟩]:=by
 refine Af 0 (Ahe _ _) (Aa (HV _ h) (Ac ?_))
 simp[Mw]
theorem UZ(ha:Gm a)(h:RNum b z d):Sp 278 [dN a,dN b] (Db (JS a b)) :=
 Af 0 (Ah1 _ _ _) (Aa (Xm h) (Aa (UV ha (FU h).sm) (Ac rfl)))
theorem ED(h:RNum a z d):Bs (D3 z (d:Int)).1≤32:=by
 have hd0:=h.d0
 obtain ⟨e1,_,e3,e4,_⟩:=AcB z (d:Int) (by omega)
 have hl:=h.lz
 have hz:=FD z
 have hz2:z.natAbs<B ^ 32:=Am_ hz (Nat.pow_le_pow_right Bw hl)
 have e5:=e4 (by omega)
 refine Qu ?_
 generalize (D3 z (d:Int)).1=q at *
 generalize (D3 z (d:Int)).2=r at *
 have hB2:4≤B ^ 32:=by decide
 generalize B ^ 32=P at *
 have hr:r<(d:Int):=by omega
 rcases Ann 1 d with h1 | h1
 ·
   rcases Ann q.natAbs P with h2 | h2
   · exact h2
   · exfalso
     rcases Int.le_total 0 q with h3 | h3
     · have:q*2≤q*(d:Int):=Int.mul_le_mul_of_nonneg_left (by omega) h3
       omega
     · have:(-q)*2≤(-q)*(d:Int):=Int.mul_le_mul_of_nonneg_left (by omega) (by omega)
       have h4:(-q)*(d:Int) = -(q*(d:Int)):=Int.neg_mul _ _
       have h5:(-q-1)*2≤(-q-1)*(d:Int):=Int.mul_le_mul_of_nonneg_left (by omega) (by omega)
       have h6:(-q-1)*(d:Int) = -(q*(d:Int))-(d:Int):=by rw[Int.sub_mul,Int.neg_mul,Int.one_mul]
       omega
 · obtain rfl:d=1:=by omega
   have:q*((1:Nat):Int)=q:=by simp
   omega
theorem EE(h:RNum a z d):RNum (I6 a) (D3 z (d:Int)).1 1:=by
 have hf:I6 a=Cn (D3 z (d:Int)).1:=by unfold I6;rw[h.top,h.bot]
 exact ⟨by rw[hf,Nt],by decide,Nat.coprime_one_right _,ED h,by rw[Ma];decide⟩
theorem Adt(h:RNum a z d):Lj (D3 (Bo a) (Bj a)).1=I6 a:=by
 unfold Lj I6
 have:=ED h
 rw[h.top,h.bot,if_neg (by unfold Bs at this;omega)]
theorem Ac_(h:RNum a z d):Bs (D3 (Bo a) (Bj a)).1≤32:=by rw[h.top,h.bot];exact ED h
theorem RNum.botnz (h:RNum a z d):Bj a≠0:=by rw[h.bot];have:=h.d0;omega
theorem HP(h:RNum a z d):Sp 262 [dN a] [dN (I6 a)]:=by
 obtain ⟨l1,l2⟩:=h.len
 have dm:=AlA ⟨a.neg,a.top⟩ ⟨false,a.bot⟩ (by show a.top.length≤_;omega) (by show a.bot.length≤_;omega) (V0 _ _ (by have:(lb (nv a.top)).length≤a.top.length:=A0.2 (B7 _);show (lb (nv a.top)).length≤_;omega))
 rw[Jv,Kp]at dm
 unfold DI at dm
 rw[if_neg h.botnz]at dm
 have dl:=Ac_ h
 have wh:=Xp (wz (D3 (Bo a) (Bj a)).1) (by rw[Fh];omega)
 rw[Cy,Adt h]at wh
 exact Af 0 (Ahk _ _) (Aa (Fe a) (Aa (Gf a) (Aa dm (Aa wh (Ac rfl)))))
theorem Ahg(h:RNum a z d):Sp 261 [dN a] [dN (Ik (I6 (Ik a)))] :=
 Af 0 (Ahh _ _) (Aa (Xm h) (Aa (HP (FU h)) (Aa (Xm (EE (FU h))) (Ac rfl))))
theorem NI(ha:RNum a z d)(hb:RNum b y e)(hy:y≠0)(h:(Lu a b).2=0) : ∃ x c,RNum (Lu a b).1 x c:=by
 have hq:Bj a*Bo b≠0:=Int.mul_ne_zero ha.botnz (by rw[hb.top];exact hy)
 obtain ⟨x,c,h1,_⟩:=(RE hq).1 h
 exact ⟨x,c,h1⟩
theorem AeW(ha:RNum a z d)(hb:RNum b y e)(h:(Od a b).2=0) : ∃ x c,RNum (Od a b).1 x c:=by
 have hq:Bj a*Bj b≠0:=Int.mul_ne_zero ha.botnz hb.botnz
 obtain ⟨x,c,h1,_⟩:=(RE hq).1 h
 exact ⟨x,c,h1⟩
theorem JI{x:Int} : Ff x=0↔x=0:=by unfold Ff;by_cases h1:x<0 <;> by_cases h2:x=0 <;> simp[h1,h2]
theorem Ahq(ha:RNum a z d)(hb:RNum b y e):Sp 280 [dN a,dN b] (Db (FO a b)):=by
 refine Af 0 (Ahr _ _ _) (Aa (Xn ha.sm) ?_)
 simp only[Ag,Al,Cd,Lr,Az]
 unfold FO
 refine Ae (fun h=>Aa (HV _ hb) (Ac ?_)) (fun h=>Aa (Xk hb.sm ha.sm) ?_)
 · rw[if_pos (ha.top0.2 (by rw[← ha.top];exact JI.1 h)),AjU hb];rfl
 have hz:z≠0:=fun hh=>h (by rw[ha.top,hh];rfl)
 rw[if_neg (fun hh=>hz (ha.top0.1 hh))]
 simp only[Db,Ag,Cm,Al,C0,Ia]
 unfold Na
 refine Ae (fun h1=>Ac ?_) (fun h1=> ?_)
 · rw[if_neg h1]
 have h1':=Amn.1 h1
 rw[if_pos h1']
 obtain ⟨x,c,hr⟩:=NI hb ha hz h1'
 refine Aa (HP hr) (Aa (HR ha.sm (EE hr).sm) ?_)
 simp only[Db,Ag,Cm,Al,C0]
 refine Ae (fun h2=>Ac ?_) (fun h2=> ?_)
 · rw[if_neg h2]
 have h2':=Amn.1 h2
 rw[if_pos h2']
 obtain ⟨x2,c2,hr2⟩:=AeW ha (EE hr) h2'
 exact Aa (UZ hb.sm hr2) (Ac rfl)
end
def L6:List (Nat×Orc):=[(6,⟨[(2,none),(3,none),(4,none),(5,none),(6,none),(22,none),(23,none)],[(2,true),(3,false),(4,false),(5,false)],[(.slot 6,1060,3)]⟩),(13,⟨[(2,none),(4,none),(5,none),(8,none),(37,none),(38,none),(39,none)],[(2,true),(4,false),(5,false)],[(.slot 8,1130,67),(.slot 37,1131,3)]⟩)]
def OU:List ResultVar:=[.cell 4 26,.cell 5 29]
noncomputable def Vb(n m13:Nat)(told8 t37:List D)(t38 t39:Int)(a2:D)(r4_0 e5:Int):Tree :=
 lA (eA L6 n 69 [1,1,1,1,1,1,1,0,1,0,0]) (Ak L6 13) m13 ⟨(.undef:: .undef:: .ptr 2 []:: .undef:: .ptr 4 []:: .ptr 5 []:: .undef:: .undef:: .row 1130::uA 28++(.row 1131:: .i .i64 t38:: .i .i64 t39::uA 16)),[(2,.var 26 (.d 26 a2) false),(4,.var 26 (.agg 26 [.i .u64 r4_0,.mt,.mt]) true),(5,.var 29 (.i .i64 e5) true),(1130,.row 67 told8 true),(1131,.row 3 t37 true)],[2,4,5,1130,1131],[(154,[.ptr 4 [],.ptr 5 []])],[]⟩
  (Ai 2 (Am (jA L6 n 69 [1,1,1,1,1,1,1,1]) (rA 69 [26,4] OU [26,29])))
noncomputable def Vc(n m6:Nat)(places6:List D)(t22 t23:Int)(a2:D)(down3:Bool)(r4_0 e5:Int):Tree :=
 lA (eA L6 n 69 [1,1,1,1,0,1,0,0]) (Ak L6 6) m6 ⟨(.undef:: .undef:: .ptr 2 []:: .ptr 3 []:: .ptr 4 []:: .ptr 5 []:: .row 1060::uA 15++(.i .i64 t22:: .i .i64 t23::uA 32)),[(2,.var 26 (.d 26 a2) true),(3,.var 4 (.b down3) true),(4,.var 26 (.agg 26 [.i .u64 r4_0,.mt,.mt]) true),(5,.var 29 (.i .i64 e5) true),(1060,.row 3 places6 true)],[2,3,4,5,1060],[(154,[.ptr 4 [],.ptr 5 []])],[]⟩
  (Ai 0 (Am (jA L6 n 69 [1,1,1,1,1]) (rA 69 [26,4] OU [26,29])))
theorem OS(n m13:Nat)(told8 t37:List D)(t38 t39:Int)(a2:D)(r4_0 e5:Int):Vb n (m13+1) told8 t37 t38 t39 a2 r4_0 e5 =
 bK (t39<t38) (kK (0≤t39) (kK (t39<(t37.length:Int)) (cK 138 [D.int (Al6 .i64 (((t37.getD (Ama t39) D.nil).toInt)+1))] fun Y2 =>
 kK (0≤t39) (kK (t39<(told8.length:Int)) (Vb n m13 (told8.set (Ama t39) (qA Y2)) t37 t38 (Al6 .i64 (t39+1)) a2 r4_0 e5)))))
 (cK 149 [D.sl told8] fun Y3 =>
 cK 84 [a2] fun Y4 =>
 cK 90 [qA Y3,D.int ((qA Y4).toInt)] fun Y5 =>
 .ret [qA Y5,D.int 0]):=by kernel_rfl
theorem OT(n m6:Nat)(places6:List D)(t22 t23:Int)(a2:D)(down3:Bool)(r4_0 e5:Int):Vc n (m6+1) places6 t22 t23 a2 down3 r4_0 e5 =
 bK (t23<t22) (kK (0≤t23) (kK (t23<(places6.length:Int)) (Vc n m6 (places6.set (Ama t23) (D.int t23)) t22 (Al6 .i64 (t23+1)) a2 down3 r4_0 e5)))
 (cK 155 [D.sl places6,D.fn 156 [.ref 4,.ref 26] [D.ref (D.bool down3),D.ref a2]] fun Y1 =>
 kK (0≤(((qA Y1).els).length:Int)) (kK ((((qA Y1).els).length:Int)≤(((qA Y1).els).length:Int)) (kK ((((qA Y1).els).length:Int)≤Aj) (Vb n n (Amc (Ama (((qA Y1).els).length:Int)) (D.agg [D.int 0,D.int 0,D.agg [D.bool false,D.sl [],D.sl []],D.int 0,D.sl []])) ((qA Y1).els) (((qA Y1).els).length:Int) 0 a2 r4_0 e5)))):=by kernel_rfl
theorem Ad2(n:Nat)(a0 down1:D):fA L6 n 69 [] [a0,down1] =
 .br ((((a0.fld 1).els).length:Int)!=1) (.ret [D.agg [D.int 0,D.sl [],D.sl []],D.int 5])
 (kK (0≤(((a0.fld 2).els).length:Int)) (kK ((((a0.fld 2).els).length:Int)≤(((a0.fld 2).els).length:Int)) (kK ((((a0.fld 2).els).length:Int)≤Aj) (Vc n n (Amc (Ama (((a0.fld 2).els).length:Int)) (D.int 0)) ((Amc (Ama (((a0.fld 2).els).length:Int)) (D.int 0)).length:Int) 0 a0 down1.toBool 0 0)))):=by kernel_rfl
theorem Ad1(n:Nat)(i0 j1:D)(c2 c3:D):fA [] n 156 [.ref 4,.ref 26] [i0,j1,c2,c3] =
 .br c2.unref.toBool (kK (0≤j1.toInt) (kK (j1.toInt<(((c3.unref.fld 2).els).length:Int)) (kK (0≤i0.toInt) (kK (i0.toInt<(((c3.unref.fld 2).els).length:Int)) (cK 157 [((c3.unref.fld 2).els).getD (Ama j1.toInt) D.nil,((c3.unref.fld 2).els).getD (Ama i0.toInt) D.nil] fun Y1 =>
 .ret [D.int ((qA Y1).toInt)])))))
 (kK (0≤i0.toInt) (kK (i0.toInt<(((c3.unref.fld 2).els).length:Int)) (kK (0≤j1.toInt) (kK (j1.toInt<(((c3.unref.fld 2).els).length:Int)) (cK 157 [((c3.unref.fld 2).els).getD (Ama i0.toInt) D.nil,((c3.unref.fld 2).els).getD (Ama j1.toInt) D.nil] fun Y2 =>
 .ret [D.int ((qA Y2).toInt)]))))):=by kernel_rfl
theorem Ad4(n:Nat)(x0 y1:D):fA [] n 157 [] [x0,y1] =
 .br (((x0.fld 1).toInt)!=((y1.fld 1).toInt)) (cK 218 [D.int ((x0.fld 1).toInt),D.int ((y1.fld 1).toInt)] fun Y1 =>
 .ret [D.int ((qA Y1).toInt)])
 (.br (((x0.fld 1).toInt)==0) (cK 219 [x0.fld 2,y1.fld 2] fun Y2 =>
 .ret [D.int ((qA Y2).toInt)])
 (.br (((x0.fld 1).toInt)==1) (cK 218 [D.int ((x0.fld 3).toInt),D.int ((y1.fld 3).toInt)] fun Y3 =>
 .ret [D.int ((qA Y3).toInt)])
 (kK (0≤0) (kK (0<(((x0.fld 4).els).length:Int)) (kK (0≤0) (kK (0<(((y1.fld 4).els).length:Int)) (cK 220 [((x0.fld 4).els).getD (Ama 0) D.nil,((y1.fld 4).els).getD (Ama 0) D.nil] fun Y4 =>
 .ret [D.int ((qA Y4).toInt)]))))))):=by kernel_rfl
def Ve:List (Nat×Orc):=[(8,⟨[(2,none),(3,none),(29,none),(30,none)],[(2,true),(3,true)],[]⟩)]
noncomputable def Vd(n m8:Nat)(t29 t30:Int)(a2 b3:D):Tree :=
 lA (eA Ve n 220 [1,1,1,0,1,0,0]) (Ak Ve 8) m8 ⟨(.undef:: .undef:: .ptr 2 []:: .ptr 3 []::uA 25++(.i .i64 t29:: .i .i64 t30::uA 17)),[(2,.var 26 (.d 26 a2) true),(3,.var 26 (.d 26 b3) true)],[2,3],[],[]⟩
  (Ai 0 (Am (jA Ve n 220 [1,1,1,1]) (rA 220 [26,26] [.tmp 4] [3])))
theorem OW(n m8:Nat)(t29 t30:Int)(a2 b3:D):Vd n (m8+1) t29 t30 a2 b3 =
 bK (t30<t29) (kK (0≤t30) (kK (t30<(((a2.fld 2).els).length:Int)) (kK (0≤t30) (kK (t30<(((b3.fld 2).els).length:Int)) (cK 157 [((a2.fld 2).els).getD (Ama t30) D.nil,((b3.fld 2).els).getD (Ama t30) D.nil] fun Y3 =>
 .br (((qA Y3).toInt)!=0) (.ret [D.int ((qA Y3).toInt)])
 (Vd n m8 t29 (Al6 .i64 (t30+1)) a2 b3))))))
 (.ret [D.int 0]):=by kernel_rfl
theorem Ad3(n:Nat)(a0 b1:D):fA Ve n 220 [] [a0,b1] =
 cK 218 [D.int (((a0.fld 1).els).length:Int),D.int (((b1.fld 1).els).length:Int)] fun Y1 =>
 .br (((qA Y1).toInt)!=0) (.ret [D.int ((qA Y1).toInt)])
 (cK 256 [a0.fld 1,b1.fld 1] fun Y2 =>
 .br (((qA Y2).toInt)!=0) (.ret [D.int ((qA Y2).toInt)])
 (Vd n n (((a0.fld 2).els).length:Int) 0 a0 b1)):=by kernel_rfl
theorem Acc(n:Nat)(x0 y1:D):fA [] n 218 [] [x0,y1] =
 cK 252 [D.int x0.toInt] fun Y1 =>
 cK 252 [D.int y1.toInt] fun Y2 =>
 .br ((qA Y1).toBool) (.br ((qA Y2).toBool) (.ret [D.int 0])
 (.ret [D.int (-1)]))
 (.br ((qA Y2).toBool) (.ret [D.int 1])
 (bK (x0.toInt<y1.toInt) (.ret [D.int (-1)])
 (bK (y1.toInt<x0.toInt) (.ret [D.int 1])
 (.ret [D.int 0])))):=by kernel_rfl
theorem Acd(n:Nat)(x0:D):fA [] n 252 [] [x0] =
 .ret [D.bool (x0.toInt != x0.toInt)]:=by kernel_rfl
structure Row {α:Type} (S:α→Prop) (f:α→α→Int):Prop where
 val : ∀ x y,S x→S y→f x y = -1∨f x y=0∨f x y=1
 flip : ∀ x y,S x→S y→f y x = - f x y
 go : ∀ x y z,S x→S y→S z→f x y≤0→f y z≤0→f x z≤0
section
variable {α:Type} {S:α→Prop} {f g:α→α→Int}
theorem Row.self (h:Row S f) {x:α} (hx:S x):f x x=0:=by have:=h.flip x x hx hx;omega
theorem Row.two (h:Row S f) {x y z:α} (hx:S x) (hy:S y) (hz:S z) (h1:f x y≤0) (h2:f y z≤0) (h3:f x z=0):f x y=0∧f y z=0:=by
 have a1:=h.flip x z hx hz
 have a2:=h.flip x y hx hy
 have a3:=h.flip y z hy hz
 have b1:=h.go y z x hy hz hx h2 (by omega)
 have b2:=h.go z x y hz hx hy (by omega) h1
 omega
theorem Row.mono {T:α→Prop} (h:Row S f) (hs : ∀ x,T x→S x):Row T f:=⟨fun x y hx hy=>h.val x y (hs x hx) (hs y hy),fun x y hx hy=>h.flip x y (hs x hx) (hs y hy),fun x y z hx hy hz=>h.go x y z (hs x hx) (hs y hy) (hs z hz)⟩
theorem Row.congr (h:Row S f) (e : ∀ x y,S x→S y→g x y=f x y):Row S g:=⟨fun x y hx hy=>by rw[e x y hx hy];exact h.val x y hx hy,fun x y hx hy=>by rw[e x y hx hy,e y x hy hx];exact h.flip x y hx hy,fun x y z hx hy hz=>by rw[e x y hx hy,e y z hy hz,e x z hx hz];exact h.go x y z hx hy hz⟩
theorem Row.lex (hf:Row S f) (hg : ∀ x,S x→Row (fun y=>S y∧f x y=0) g):Row S (fun x y=>if f x y≠0 then f x y else g x y) where
 val x y hx hy:=by
  split
  · exact hf.val x y hx hy
  · rename_i h;exact (hg x hx).val x y ⟨hx,hf.self hx⟩ ⟨hy,Amn.1 h⟩
 flip x y hx hy:=by
  have a:=hf.flip x y hx hy
  by_cases h:f x y=0
  · rw[if_neg (by omega),if_neg (by omega)]
    exact (hg x hx).flip x y ⟨hx,hf.self hx⟩ ⟨hy,h⟩
  · rw[if_pos (by omega),if_pos (by omega)];exact a
 go x y z hx hy hz h1 h2:=by
  have p1:f x y≤0:=by
    by_cases h:f x y=0
    · omega
    · rw[if_pos h]at h1;exact h1
  have p2:f y z≤0:=by
    by_cases h:f y z=0
    · omega
    · rw[if_pos h]at h2;exact h2
  have p3:=hf.go x y z hx hy hz p1 p2
  by_cases h:f x z=0
  · obtain ⟨q1,q2⟩:=hf.two hx hy hz p1 p2 h
    rw[if_neg (by omega)]at h1 h2 ⊢
    exact (hg x hx).go x y z ⟨hx,hf.self hx⟩ ⟨hy,q1⟩ ⟨hz,h⟩ h1 h2
  · rw[if_pos h];exact p3
def Dj(f:α→α→Int):List (α×α)→Int
 | []=>0
 | (x,y)::r=>if f x y≠0 then f x y else Dj f r
theorem QJ(h:Row S f) : ∀ (l m:List α),(∀ x∈l,S x)→(∀ x∈m,S x)→Dj f (l.zip m) = -1∨Dj f (l.zip m)=0∨Dj f (l.zip m)=1
 | [],_,_,_=> .inr (.inl rfl)
 | _::_,[],_,_=> .inr (.inl rfl)
 | x::xs,y::ys,hl,hm=>by
  simp only[List.zip_cons_cons,Dj]
  split
  · exact h.val x y (hl x (by simp)) (hm y (by simp))
  · exact QJ h xs ys (fun z hz=>hl z (by simp[hz])) (fun z hz=>hm z (by simp[hz]))
theorem QH(h:Row S f) : ∀ (l m:List α),(∀ x∈l,S x)→(∀ x∈m,S x)→Dj f (m.zip l) = - Dj f (l.zip m)
 | [],[],_,_=>rfl
 | [],_::_,_,_=>rfl
 | _::_,[],_,_=>rfl
 | x::xs,y::ys,hl,hm=>by
  have a:=h.flip x y (hl x (by simp)) (hm y (by simp))
  have b:=QH h xs ys (fun z hz=>hl z (by simp[hz])) (fun z hz=>hm z (by simp[hz]))
  simp only[List.zip_cons_cons,Dj]
  by_cases hh:f x y=0
  · rw[if_neg (by omega),if_neg (by omega)];exact b
  · rw[if_pos (by omega),if_pos (by omega)];exact a
theorem QI(h:Row S f) : ∀ (l m k:List α),l.length=m.length→m.length=k.length→(∀ x∈l,S x)→(∀ x∈m,S x)→(∀ x∈k,S x)→Dj f (l.zip m)≤0→Dj f (m.zip k)≤0→Dj f (l.zip k)≤0
 | [],_,_,_,_,_,_,_,_,_=>by simp[Dj]
 | x::xs,[],_,e,_,_,_,_,_,_=>by simp at e
 | x::xs,y::ys,[],_,e,_,_,_,_,_=>by simp at e
 | x::xs,y::ys,z::zs,e1,e2,hl,hm,hk,h1,h2=>by
  simp only[List.zip_cons_cons,Dj]at h1 h2 ⊢
  have hx:=hl x (by simp)
  have hy:=hm y (by simp)
  have hz:=hk z (by simp)
  have p1:f x y≤0:=by
    by_cases h:f x y=0
    · omega
    · rw[if_pos h]at h1;exact h1
  have p2:f y z≤0:=by
    by_cases h:f y z=0
    · omega
    · rw[if_pos h]at h2;exact h2
  have p3:=h.go x y z hx hy hz p1 p2
  by_cases hh:f x z=0
  · obtain ⟨q1,q2⟩:=h.two hx hy hz p1 p2 hh
    rw[if_neg (by omega)]at h1 h2 ⊢
    exact QI h xs ys zs (by simpa using e1) (by simpa using e2) (fun z hz=>hl z (by simp[hz])) (fun z hz=>hm z (by simp[hz])) (fun z hz=>hk z (by simp[hz])) h1 h2
  · rw[if_pos hh];exact p3
theorem Row.list (h:Row S f) (n:Nat):Row (fun l:List α=>l.length=n∧∀ x∈l,S x) (fun l m=>Dj f (l.zip m)) :=
 ⟨fun l m hl hm=>QJ h l m hl.2 hm.2,fun l m hl hm=>QH h l m hl.2 hm.2,fun l m k hl hm hk=>QI h l m k (hl.1.trans hm.1.symm) (hm.1.trans hk.1.symm) hl.2 hm.2 hk.2⟩
theorem QK{β:Type}{r:α→β}(h0 : ∀ x y,S x→S y→(f x y=0↔r x=r y)) : ∀ (l m:List α),l.length=m.length→(∀ x∈l,S x)→(∀ x∈m,S x)→(Dj f (l.zip m)=0↔l.map r=m.map r)
 | [],[],_,_,_=>by simp[Dj]
 | [],_::_,e,_,_=>by simp at e
 | _::_,[],e,_,_=>by simp at e
 | x::xs,y::ys,e,hl,hm=>by
  have a:=h0 x y (hl x (by simp)) (hm y (by simp))
  have b:=QK h0 xs ys (by simpa using e) (fun z hz=>hl z (by simp[hz])) (fun z hz=>hm z (by simp[hz]))
  simp only[List.zip_cons_cons,Dj,Ani,List.cons.injEq]
  by_cases hh:f x y=0
  · rw[if_neg (by omega),b]
    exact ⟨fun h=>⟨a.1 hh,h⟩,fun h=>h.2⟩
  · rw[if_pos hh]
    exact ⟨fun h=>absurd h hh,fun h=>absurd (a.2 h.1) hh⟩
end
theorem Gq(x y:Int):(Ch x y = -1∧x<y)∨(Ch x y=0∧x=y)∨(Ch x y=1∧y<x):=by
 unfold Ch
 split
 · exact .inl ⟨rfl,by assumption⟩
 · split
   · exact .inr (.inl ⟨rfl,by assumption⟩)
   · exact .inr (.inr ⟨rfl,by omega⟩)
theorem E8{x y:Int} : Ch x y=0↔x=y:=by rcases Gq x y with ⟨h,h'⟩ | ⟨h,h'⟩ | ⟨h,h'⟩ <;> omega
theorem Zf{α:Type}{S:α→Prop}(k:α→Int):Row S (fun x y=>Ch (k x) (k y)) :=
 ⟨fun x y _ _=>by rcases Gq (k x) (k y) with h | h | h <;> simp[h.1],
  fun x y _ _=>by rcases Gq (k x) (k y) with h | h | h <;> rcases Gq (k y) (k x) with h' | h' | h' <;> omega,
  fun x y z _ _ _ h1 h2=>by rcases Gq (k x) (k y) with h | h | h <;> rcases Gq (k y) (k z) with h' | h' | h' <;> rcases Gq (k x) (k z) with h'' | h'' | h'' <;> omega⟩
def CO(r:Arr→Arr→Int)(x y:Cell):Int:=if Ch x.kind y.kind≠0 then Ch x.kind y.kind else if x.kind=0 then Gp x.n y.n else if x.kind=1 then Ch x.c y.c else r (x.inn.headD .none) (y.inn.headD .none)
def Jl(a b:Arr):Int:=if Ch a.shape.length b.shape.length≠0 then Ch a.shape.length b.shape.length else Dj Ch (a.shape.zip b.shape)
def I1:Nat→Arr→Arr→Int
 | 0,_,_=>0
 | d+1,a,b=>if Jl a b≠0 then Jl a b else Dj (CO (I1 d)) (a.cells.zip b.cells)
def H9(d:Nat):Cell→Cell→Int:=CO (I1 d)
theorem Acb(d:Nat)(a b:Arr):I1 (d+1) a b=if Jl a b≠0 then Jl a b else Dj (H9 d) (a.cells.zip b.cells):=rfl
theorem Ry{d:Nat}{c:Cell}(h:B8 d c=true):(c.kind=0∧c.c=0∧c.inn = []∧Eo c.n=true)∨(c.kind=1∧c.n = .zero∧c.inn = [])∨(c.kind=2∧c.n = .zero∧c.c=0∧∃ e x,d=e+1∧c.inn = [x]∧Ba e x=true):=by
 have hinn:=Rz h
 have key : ∀ k r,D7 k r c=true→(c.kind=0∧c.c=0∧c.inn = []∧Eo c.n=true)∨(c.kind=1∧c.n = .zero∧c.inn = [])∨(c.kind=2∧c.n = .zero∧c.c=0∧∃ x,c.inn = [x]):=by
   intro k r h
   unfold D7 at h
   split at h
   · simp only[Ami,decide_eq_true_eq]at h
     exact .inl ⟨by assumption,h.1.1,Am1.1 h.1.2,h.2⟩
   split at h
   · simp only[Ami,decide_eq_true_eq]at h
     exact .inr (.inl ⟨by assumption,h.1.1,Am1.1 h.1.2⟩)
   · simp only[Ami,decide_eq_true_eq]at h
     have hb:=h.2.2
     unfold Ku at hb
     split at hb
     · rename_i hi;exact .inr (.inr ⟨h.1.1,h.1.2.1,h.1.2.2,_,hi⟩)
     · cases hb
 have h2:(c.kind=0∧c.c=0∧c.inn = []∧Eo c.n=true)∨(c.kind=1∧c.n = .zero∧c.inn = [])∨(c.kind=2∧c.n = .zero∧c.c=0∧∃ x,c.inn = [x]):=by
   cases d with
   | zero=>exact key _ _ h
   | succ d=>exact key _ _ h
 rcases h2 with h2 | h2 | ⟨h1,h2,h3,x,h4⟩
 · exact .inl h2
 · exact .inr (.inl h2)
 · obtain ⟨e,he,_,hr,_⟩:=hinn x (by rw[h4];simp)
   exact .inr (.inr ⟨h1,h2,h3,e,x,he,h4,hr⟩)
theorem Ajk:Row (fun x:Cell=>Eo x.n=true) (fun x y=>Gp x.n y.n):=by
 refine ⟨fun x y _ _=> ?_,fun x y _ _=> ?_,fun x y z hx hy hz=> ?_⟩
 · have:=Gq (Bo x.n*Bj y.n) (Bo y.n*Bj x.n);unfold Gp;omega
 · have:=Gq (Bo x.n*Bj y.n) (Bo y.n*Bj x.n)
   have:=Gq (Bo y.n*Bj x.n) (Bo x.n*Bj y.n);unfold Gp;omega
 · obtain ⟨a,p,ra⟩:=O0 hx
   obtain ⟨b,q,rb⟩:=O0 hy
   obtain ⟨c,r,rc⟩:=O0 hz
   unfold Gp
   rw[ra.top,ra.bot,rb.top,rb.bot,rc.top,rc.bot]
   have p0:(0:Int)<p:=by have:=ra.d0;omega
   have q0:(0:Int)<q:=by have:=rb.d0;omega
   have r0:(0:Int)<r:=by have:=rc.d0;omega
   intro h1 h2
   have g1:a*q≤b*p:=by rcases Gq (a*q) (b*p) with h | h | h <;> omega
   have g2:b*r≤c*q:=by rcases Gq (b*r) (c*q) with h | h | h <;> omega
   have g3:a*r≤c*p:=by
    have e1:a*q*r≤b*p*r:=Int.mul_le_mul_of_nonneg_right g1 (by omega)
    have e2:b*r*p≤c*q*p:=Int.mul_le_mul_of_nonneg_right g2 (by omega)
    have e3:(a*r)*q≤(c*p)*q:=by
     have i1:a*q*r=a*r*q:=by rw[Int.mul_assoc,Int.mul_comm (q:Int) r,← Int.mul_assoc]
     have i2:b*p*r=b*r*p:=by rw[Int.mul_assoc,Int.mul_comm (p:Int) r,← Int.mul_assoc]
     have i3:c*q*p=c*p*q:=by rw[Int.mul_assoc,Int.mul_comm (q:Int) p,← Int.mul_assoc]
     omega
    exact Int.le_of_mul_le_mul_right e3 q0
   rcases Gq (a*r) (c*p) with h | h | h <;> omega
theorem Ajm:Row (fun _:Arr=>True) Jl:=by
 refine Row.lex (f:=fun a b:Arr=>Ch a.shape.length b.shape.length) (Zf fun a:Arr=>(a.shape.length:Int)) (fun a _=> ?_)
 have h:Row (fun _:Int=>True) Ch:=Zf (fun x:Int=>x)
 have:=h.list a.shape.length
 exact ⟨fun x y hx hy=>this.val x.shape y.shape ⟨by have:=E8.1 hx.2;omega,fun _ _=>trivial⟩ ⟨by have:=E8.1 hy.2;omega,fun _ _=>trivial⟩,
  fun x y hx hy=>this.flip x.shape y.shape ⟨by have:=E8.1 hx.2;omega,fun _ _=>trivial⟩ ⟨by have:=E8.1 hy.2;omega,fun _ _=>trivial⟩,
  fun x y z hx hy hz=>this.go x.shape y.shape z.shape ⟨by have:=E8.1 hx.2;omega,fun _ _=>trivial⟩ ⟨by have:=E8.1 hy.2;omega,fun _ _=>trivial⟩ ⟨by have:=E8.1 hz.2;omega,fun _ _=>trivial⟩⟩
theorem ZC{a b:Arr} : Jl a b=0↔a.shape=b.shape:=by
 unfold Jl
 by_cases h:a.shape.length=b.shape.length
 · rw[if_neg (by rw[Ne,E8];omega)]
   have:=QK (S:=fun _:Int=>True) (f:=Ch) (r:=fun x=>x) (fun x y _ _=>E8) a.shape b.shape h (fun _ _=>trivial) (fun _ _=>trivial)
   rw[this];simp
 · rw[if_pos (by rw[Ne,E8];omega)]
   constructor
   · intro h';have:=E8.1 h';omega
   · intro h';rw[h']at h;exact absurd rfl h
theorem XW{d:Nat}{a b:Arr}(ha:Ba d a=true)(hb:Ba d b=true)(h:a.shape=b.shape):a.cells.length=b.cells.length:=by
 have h1:=(Dy ha).1
 have h2:=(Dy hb).1
 rw[h,h2]at h1
 have:=(Prod.mk.inj h1).1
 omega
theorem YB{d:Nat}(h:Row (fun x=>B8 d x=true) (H9 d)):Row (fun a=>Ba d a=true) (I1 (d+1)):=by
 refine Row.lex (Ajm.mono fun _ _=>trivial) (fun a ha=> ?_)
 have:=h.list a.cells.length
 have ok : ∀ x,Ba d x=true∧Jl a x=0→x.cells.length=a.cells.length∧∀ c∈x.cells,B8 d c=true:=fun x hx=>⟨(XW ha hx.1 (ZC.1 hx.2)).symm,(Dy hx.1).2⟩
 exact ⟨fun x y hx hy=>this.val _ _ (ok x hx) (ok y hy),fun x y hx hy=>this.flip _ _ (ok x hx) (ok y hy),fun x y z hx hy hz=>this.go _ _ _ (ok x hx) (ok y hy) (ok z hz)⟩
theorem YA{d:Nat}(h : ∀ e,d=e+1→Row (fun a=>Ba e a=true) (I1 d)):Row (fun x=>B8 d x=true) (H9 d):=by
 refine Row.lex (f:=fun x y:Cell=>Ch x.kind y.kind) (Zf fun x:Cell=>x.kind) (fun x hx=> ?_)
 rcases Ry hx with h0 | h0 | ⟨h0,h1,h2,e,x',he,h3,h4⟩
 · have ok : ∀ y:Cell,B8 d y=true∧Ch x.kind y.kind=0→Eo y.n=true∧y.kind=0:=fun y hy=>by
    have:=E8.1 hy.2
    rcases Ry hy.1 with g | g | g
    · exact ⟨g.2.2.2,g.1⟩
    · omega
    · omega
   exact (Ajk.mono (fun y hy=>(ok y hy).1)).congr (fun y z hy hz=>by rw[if_pos (ok y hy).2])
 · have ok : ∀ y:Cell,B8 d y=true∧Ch x.kind y.kind=0→y.kind=1:=fun y hy=>by have:=E8.1 hy.2;omega
   exact (Zf (fun y:Cell=>y.c)).congr (fun y z hy hz=>by rw[if_neg (by have:=ok y hy;omega),if_pos (ok y hy)])
 · subst he
   have ok : ∀ y:Cell,B8 (e+1) y=true∧Ch x.kind y.kind=0→y.kind=2∧Ba e (y.inn.headD .none)=true:=fun y hy=>by
    have:=E8.1 hy.2
    rcases Ry hy.1 with g | g | ⟨g0,_,_,e',y',he',h5,h6⟩
    · omega
    · omega
    · have:e'=e:=by omega
      subst this
      exact ⟨g0,by rw[h5];exact h6⟩
   have hr:=h e rfl
   have:Row (fun y:Cell=>B8 (e+1) y=true∧Ch x.kind y.kind=0) (fun y z=>I1 (e+1) (y.inn.headD .none) (z.inn.headD .none)):=⟨fun y z hy hz=>hr.val _ _ (ok y hy).2 (ok z hz).2,fun y z hy hz=>hr.flip _ _ (ok y hy).2 (ok z hz).2,fun y z w hy hz hw=>hr.go _ _ _ (ok y hy).2 (ok z hz).2 (ok w hw).2⟩
   exact this.congr (fun y z hy hz=>by rw[if_neg (by have:=(ok y hy).1;omega),if_neg (by have:=(ok y hy).1;omega)])
theorem XZ : ∀ d:Nat,Row (fun x=>B8 d x=true) (H9 d)∧Row (fun a=>Ba d a=true) (I1 (d+1))
 | 0=>by
  have h:=YA (d:=0) (fun e he=>by omega)
  exact ⟨h,YB h⟩
 | d+1=>by
  have h:=YA (d:=d+1) (fun e he=>by cases he;exact (XZ d).2)
  exact ⟨h,YB h⟩
theorem PP(x:Int):Sp 252 [.int x] [.bool false]:=Af 0 (Acd _ _) (Ac (by simp))
theorem Tl(x y:Int):Sp 218 [.int x,.int y] [.int (Ch x y)]:=by
 refine Af 0 (Acc _ _ _) (Aa (PP x) (Aa (PP y) (D6 rfl (D6 rfl ?_))))
 simp only[Al]
 refine Ae (fun h=>Ac (by unfold Ch;rw[if_pos h])) (fun h=>Ae (fun h'=>Ac (by unfold Ch;rw[if_neg h,if_neg (by omega)])) (fun h'=>Ac (by unfold Ch;rw[if_neg h,if_pos (by omega)])))
theorem AaP{α β:Type}{l:List α}{m:List β}{k:Nat}{x:α}{y:β}(h:(l.zip m)[k]? = some (x,y)):l[k]? = some x∧m[k]? = some y:=by
 rw[List.getElem?_zip_eq_some]at h;exact h
theorem QO{α:Type}{l:List α}{k:Nat}{x:α}(h:l[k]? = some x):k<l.length:=(Ame.1 h).1
theorem Akb(l m:List Int)(hl:l.length≤1048576)(e:l.length=m.length):Sp 256 [dI l,dI m] [.int (Dj Ch (l.zip m))]:=by
 refine Af 1048577 (Aka _ _ _) ?_
 have hz:(l.zip m).length=l.length:=by simp[List.length_zip,e]
 have key:=B3 (l.zip m) (fun q k (_:Unit)=>Zy 1048577 q (dI l) (dI m) (dI l) (l.length:Int) (k:Int)) (fun rest _=>[.int (Dj Ch rest)]) (fun _ _=>True)
  (fun q k s hk _=>by
   simp only[ZM,B_,Amd]
   exact Aq (Aq (Ac rfl)))
  (fun q k s p rest hd _ ih=>by
   obtain ⟨h1,h2,h3⟩:=Bx hd
   obtain ⟨x,y⟩:=p
   obtain ⟨g1,g2⟩:=AaP h2
   have l1:=QO g1
   simp only[ZM,B_,Amd,Amj,As g1,As g2,Al,Bb k]
   refine Ad (Ad (Ad (Aq (Ad (Ad (Aa (Tl x y) ?_))))))
   simp only[Ag,Al,C0,Dj]
   exact Ae (fun h=>Ac (by rw[if_pos h])) (fun h=>by rw[if_neg h];exact ih () trivial))
  1048577 0 () (by omega) (by omega) trivial
 simp only[B_,Amd]
 exact key
theorem Aac{n:Num}(h:Eo n=true):Gm n:=⟨by have:=(Ze h).1;omega,by have:=(Ze h).2;omega⟩
theorem LU{d:Nat}(h : ∀ x y:Cell,B8 d x=true→B8 d y=true→Sp 157 [dC x,dC y] [.int (H9 d x y)])(a b:Arr)(ha:Ba d a=true)(hb:Ba d b=true):Sp 220 [dA a,dA b] [.int (I1 (d+1) a b)]:=by
 have la:=E0 ha
 have lb:=E0 hb
 refine Af 1048577 (Ad3 _ _ _) ?_
 simp only[Ah]
 refine Aa (Tl _ _) ?_
 rw[Acb]
 unfold Jl
 simp only[Ag,Al,C0]
 refine Ae (fun h=>Ac (by simp only[if_pos h])) (fun h1=> ?_)
 simp only[if_neg h1]
 have hl:a.shape.length=b.shape.length:=by have:=E8.1 (Amn.1 h1);omega
 refine Aa (Akb a.shape b.shape (by omega) hl) ?_
 simp only[Ag,Al]
 refine Ae (fun h=>Ac (by simp only[if_pos h])) (fun h2=> ?_)
 simp only[if_neg h2]
 have hs:a.shape=b.shape:=ZC.1 (by unfold Jl;rw[if_neg h1];exact Amn.1 h2)
 have hc:=XW ha hb hs
 have hz:(a.cells.zip b.cells).length=a.cells.length:=by simp[List.length_zip,hc]
 have key:=B3 (a.cells.zip b.cells) (fun q k (_:Unit)=>Vd 1048577 q (a.cells.length:Int) (k:Int) (dA a) (dA b)) (fun rest _=>[.int (Dj (H9 d) rest)]) (fun _ _=>True)
  (fun q k s hk _=>by
   simp only[OW,Ah]
   exact Aq (Ac rfl))
  (fun q k s p rest hd _ ih=>by
   obtain ⟨_,k2,k3⟩:=Bx hd
   obtain ⟨x,y⟩:=p
   obtain ⟨g1,g2⟩:=AaP k2
   have l1:=QO g1
   simp only[OW,Ah,As g1,As g2,Bb k]
   refine Ad (Ad (Ad (Ad (Ad (Aa (h x y ((Dy ha).2 x (Amh g1)) ((Dy hb).2 y (Amh g2))) ?_)))))
   simp only[Ag,Al,Dj]
   exact Ae (fun h=>Ac (by rw[if_pos h])) (fun h=>by rw[if_neg h];exact ih () trivial))
  1048577 0 () (by omega) (by omega) trivial
 exact key
theorem OQ{d:Nat}(h : ∀ e,d=e+1→∀ a b:Arr,Ba e a=true→Ba e b=true→Sp 220 [dA a,dA b] [.int (I1 d a b)])(x y:Cell)(hx:B8 d x=true)(hy:B8 d y=true):Sp 157 [dC x,dC y] [.int (H9 d x y)]:=by
 refine Af 0 (Ad4 _ _ _) ?_
 unfold H9 CO
 simp only[Ah]
 refine Ae (fun hk=>Aa (Tl _ _) (Ac (by rw[if_pos (by rw[Ne,E8];exact hk)];rfl))) (fun hk=> ?_)
 have hk:=Amn.1 hk
 rw[if_neg (by rw[Ne,E8];omega)]
 rcases Ry hx with h0 | h0 | ⟨h0,h1,h2,e,x',he,h3,h4⟩ <;> rcases Ry hy with g0 | g0 | ⟨g0,g1,g2,e',y',he',g3,g4⟩
 · exact Ax h0.1 (Aa (Xj (Aac h0.2.2.2) (Aac g0.2.2.2)) (Ac (by rw[if_pos h0.1];rfl)))
 · omega
 · omega
 · omega
 · exact Aq (Ax h0.1 (Aa (Tl _ _) (Ac (by rw[if_neg (by omega),if_pos h0.1];rfl))))
 · omega
 · omega
 · omega
 · subst he
   have:e'=e:=by omega
   subst this
   simp only[DB,h3,g3,Ds,Ani,List.map_nil,Amg,Amu,Int.toNat_zero,Ag]
   exact Aq (Aq (Ad (Ad (Ad (Ad (Aa (h _ rfl x' y' h4 g4) (Ac (by rw[if_neg (by omega),if_neg (by omega)];rfl))))))))
theorem EI : ∀ d:Nat,(∀ x y:Cell,B8 d x=true→B8 d y=true→Sp 157 [dC x,dC y] [.int (H9 d x y)])∧∀ a b:Arr,Ba d a=true→Ba d b=true→Sp 220 [dA a,dA b] [.int (I1 (d+1) a b)]
 | 0=>by
  have h:=OQ (d:=0) (fun e he=>by omega)
  exact ⟨h,LU h⟩
 | d+1=>by
  have h:=OQ (d:=d+1) (fun e he=>by cases he;exact (EI d).2)
  exact ⟨h,LU h⟩
def Bt(k:Nat→Nat→Int)(i j:Nat):Prop:=k i j<0∨(k i j=0∧i≤j)
instance (k:Nat→Nat→Int) (i j:Nat):Decidable (Bt k i j):=by unfold Bt;infer_instance
abbrev Sy(f:Nat→Nat→Int):Prop:=Row (fun _:Nat=>True) f
section
variable {k:Nat→Nat→Int} (hk:Sy k)
include hk
theorem Aej(i j:Nat):Bt k i j∨Bt k j i:=by
 have:=hk.flip i j trivial trivial
 unfold Bt;omega
theorem Aei{i j:Nat}(h1:Bt k i j)(h2:Bt k j i):i=j:=by
 have:=hk.flip i j trivial trivial
 unfold Bt at h1 h2;omega
theorem N5{i j m:Nat}(h1:Bt k i j)(h2:Bt k j m):Bt k i m:=by
 have g1:k i j≤0:=by unfold Bt at h1;omega
 have g2:k j m≤0:=by unfold Bt at h2;omega
 have g3:=hk.go i j m trivial trivial trivial g1 g2
 by_cases h:k i m=0
 · obtain ⟨q1,q2⟩:=hk.two (x:=i) (y:=j) (z:=m) trivial trivial trivial g1 g2 h
   unfold Bt at h1 h2 ⊢; omega
 · unfold Bt;omega
theorem K1{i j:Nat}(h:i<j):(k j i<0)↔¬ Bt k i j:=by
 have:=hk.flip i j trivial trivial
 unfold Bt;omega
omit hk in
theorem Mb(hk:Sy k){i j:Nat}(h : ¬ Bt k i j):Bt k j i:=(Aej hk i j).resolve_left h
end
def L8(k:Nat→Nat→Int)(x:Nat):List Nat→List Nat
 | []=>[x]
 | y::ys=>if Bt k x y then x::y::ys else y::L8 k x ys
def Bg(k:Nat→Nat→Int):List Nat→List Nat
 | []=>[]
 | x::xs=>L8 k x (Bg k xs)
theorem ER(k:Nat→Nat→Int)(x:Nat) : ∀ l,(L8 k x l).Perm (x::l)
 | []=>List.Perm.refl _
 | y::ys=>by
  rw[L8]
  split
  · exact List.Perm.refl _
  · exact ((ER k x ys).cons y).trans (List.Perm.swap x y ys)
theorem Jo(k:Nat→Nat→Int) : ∀ l,(Bg k l).Perm l
 | []=>List.Perm.refl _
 | x::xs=>by rw[Bg];exact (ER k x _).trans ((Jo k xs).cons x)
theorem Df(k:Nat→Nat→Int)(l:List Nat):(Bg k l).length=l.length:=(Jo k l).length_eq
theorem Hc{k:Nat→Nat→Int}{l:List Nat}{x:Nat} : x∈Bg k l↔x∈l:=(Jo k l).mem_iff
section
variable {k:Nat→Nat→Int} (hk:Sy k)
include hk
theorem PM(x:Nat) : ∀ l,l.Pairwise (Bt k)→(L8 k x l).Pairwise (Bt k)
 | [],_=>by simp[L8]
 | y::ys,h=>by
  rw[L8]
  rw[List.pairwise_cons]at h
  split
  · rename_i hxy
    refine List.pairwise_cons.2 ⟨fun z hz=> ?_,List.pairwise_cons.2 h⟩
    rcases Amw.1 hz with rfl | hz
    · exact hxy
    · exact N5 hk hxy (h.1 z hz)
  · rename_i hxy
    refine List.pairwise_cons.2 ⟨fun z hz=> ?_,PM x ys h.2⟩
    rcases Amw.1 ((ER k x ys).mem_iff.1 hz) with rfl | hz
    · exact Mb hk hxy
    · exact h.1 z hz
theorem Jp : ∀ l,(Bg k l).Pairwise (Bt k)
 | []=>List.Pairwise.nil
 | x::xs=>PM hk x _ (Jp xs)
theorem Aae : ∀ {l m:List Nat},l.Perm m→l.Pairwise (Bt k)→m.Pairwise (Bt k)→l=m
 | [],m,hp,_,_=>(List.Perm.nil_eq hp)
 | x::xs,[],hp,_,_=>by have:=hp.length_eq;simp at this
 | x::xs,y::ys,hp,h1,h2=>by
  rw[List.pairwise_cons]at h1 h2
  have hx:x∈y::ys:=hp.mem_iff.1 (by simp)
  have hy:y∈x::xs:=hp.mem_iff.2 (by simp)
  have e:x=y:=by
   rcases Amw.1 hx with e | hx
   · exact e
   · rcases Amw.1 hy with e | hy
     · exact e.symm
     · exact Aei hk (h1.1 y hy) (h2.1 x hx)
  subst e
  rw[Aae ((List.perm_cons x).1 hp) h1.2 h2.2]
theorem Kf{l z:List Nat}(hp:z.Perm l)(hs:z.Pairwise (Bt k)):Bg k l=z:=(Aae hk (hp.trans (Jo k l).symm) hs (Jp hk l)).symm
omit hk in
theorem AkD{l:List Nat}(h:l.length≤1):Bg k l=l:=by
 match l with
 | []=>rfl
 | [x]=>rfl
 | _::_::_=>simp at h
omit hk in
theorem AI{l m:List Nat}(h1:l.Pairwise (Bt k))(h2:m.Pairwise (Bt k))(h : ∀ x∈l,∀ y∈m,Bt k x y):(l++m).Pairwise (Bt k):=List.pairwise_append.2 ⟨h1,h2,h⟩
theorem Sj{l:List Nat}{i:Nat}{y z:Nat}(hs:l.Pairwise (Bt k))(hi:l[i]? = some y)(h:Bt k y z) : ∀ x∈l.take (i+1),Bt k x z:=by
 intro x hx
 obtain ⟨j,hj,rfl⟩:=List.mem_iff_getElem.1 hx
 obtain ⟨hi',rfl⟩:=Ame.1 hi
 rw[Amr]at hj
 rw[List.getElem_take]
 by_cases e:j=i
 · subst e;exact h
 · exact N5 hk (List.pairwise_iff_getElem.1 hs j i (by omega) hi' (by omega)) h
theorem U8{l:List Nat}{i:Nat}{y z:Nat}(hs:l.Pairwise (Bt k))(hi:l[i]? = some y)(h:Bt k z y) : ∀ x∈l.drop i,Bt k z x:=by
 intro x hx
 obtain ⟨j,hj,rfl⟩:=List.mem_iff_getElem.1 hx
 obtain ⟨hi',rfl⟩:=Ame.1 hi
 rw[Amp]at hj
 rw[List.getElem_drop]
 by_cases e:j=0
 · subst e;exact h
 · exact N5 hk h (List.pairwise_iff_getElem.1 hs i (i+j) hi' (by omega) (by omega))
end
def sg(k:Nat→Nat→Int)(bs:Nat):Nat→List Nat→List Nat
 | 0,l=>Bg k l
 | q+1,l=>if l.length<bs then Bg k l else Bg k (l.take bs)++sg k bs q (l.drop bs)
theorem JH{k:Nat→Nat→Int}{bs:Nat}(hb:1≤bs) : ∀ {q q':Nat} {l:List Nat},l.length≤q→l.length≤q'→sg k bs q l=sg k bs q' l
 | 0,0,l,_,_=>rfl
 | 0,q'+1,l,h,_=>by rw[sg,sg,if_pos (by omega)]
 | q+1,0,l,_,h=>by rw[sg,sg,if_pos (by omega)]
 | q+1,q'+1,l,h,h'=>by
  rw[sg,sg]
  split
  · rfl
  · rw[JH hb (q:=q) (q':=q') (by rw[Amp];omega) (by rw[Amp];omega)]
def SG(k:Nat→Nat→Int)(bs:Nat)(l:List Nat):List Nat:=sg k bs l.length l
theorem Jy{k:Nat→Nat→Int}{bs:Nat}(hb:1≤bs)(l:List Nat):SG k bs l=if l.length<bs then Bg k l else Bg k (l.take bs)++SG k bs (l.drop bs):=by
 unfold SG
 rw[JH hb (q:=l.length) (q':=l.length+1) (by omega) (by omega),sg]
 split
 · rfl
 · rw[JH hb (q:=l.length) (q':=(l.drop bs).length) (by rw[Amp];omega) (by omega)]
theorem M6{k:Nat→Nat→Int}{bs:Nat}(hb:1≤bs){l:List Nat}(h:l.length≤bs):SG k bs l=Bg k l:=by
 rw[Jy hb]
 split
 · rfl
 · have h1:l.take bs=l:=Am7 h
   have h2:l.drop bs = []:=List.drop_of_length_le h
   rw[h1,h2,Jy hb,if_pos (by simp;omega)]
   simp[Bg]
theorem KQ{k:Nat→Nat→Int}{bs:Nat}(hb:1≤bs) : ∀ (q:Nat) (l:List Nat),l.length≤q→(SG k bs l).length=l.length
 | 0,l,h=>by rw[Jy hb,if_pos (by omega),Df]
 | q+1,l,h=>by
  rw[Jy hb]
  split
  · rw[Df]
  · rw[Amm,Df,KQ hb q _ (by rw[Amp];omega),Amr,Amp];omega
def dP(i:Nat):D:= .int (i:Int)
theorem ND(i:Nat):(dP i).toInt=(i:Int):=rfl
theorem Pq{A:List Nat}{x:Nat}{B:List Nat}{i:Nat}(h:i=A.length):((A++x::B).map dP).getD i D.nil=dP x:=by
 subst h;simp[Amf]
theorem Td{A M:List Nat}{x y:Nat}{B:List Nat}{i:Nat}(h:i=A.length+1+M.length):((A++x::(M++y::B)).map dP).getD i D.nil=dP y:=by
 rw[show A++x::(M++y::B)=(A++x::M)++y::B by simp]
 exact Pq (by simp;omega)
theorem JE{A:List Nat}{x y:Nat}{B:List Nat}{i:Nat}(h:i=A.length):((A++x::B).map dP).set i (dP y)=(A++y::B).map dP:=by
 subst h;simp
theorem YZ{A M:List Nat}{x y z:Nat}{B:List Nat}{i:Nat}(h:i=A.length+1+M.length):((A++x::(M++y::B)).map dP).set i (dP z)=(A++x::(M++z::B)).map dP:=by
 rw[show A++x::(M++y::B)=(A++x::M)++y::B by simp,JE (by simp;omega)]
 simp
theorem Aan{A M:List Nat}{x y:Nat}{B:List Nat}{i j:Nat}(hi:i=A.length)(hj:j=A.length+1+M.length):(((A++x::(M++y::B)).map dP).set i (dP y)).set j (dP x)=(A++y::(M++x::B)).map dP:=by
 rw[JE hi,YZ hj]
theorem Aam{A M:List Nat}{x y:Nat}{B:List Nat}{i j:Nat}(hi:i=A.length)(hj:j=A.length+1+M.length):(((A++x::(M++y::B)).map dP).set j (dP x)).set i (dP y)=(A++y::(M++x::B)).map dP:=by
 rw[YZ hj,JE hi]
theorem Vf{i j:Nat}(h:i+j≤1000000):Al6 .i64 (Am3 (Al6 .u64 (Al6 .i64 ((i:Int)+(j:Int)))) (2 ^ (min (Ama 1) (Aml .u64))))=(((i+j) / 2:Nat):Int):=by
 rw[At (x:=(i:Int)+(j:Int)) (by omega) (by omega),Bn (by omega) (by omega),show (2:Int) ^ (min (Ama 1) (Aml .u64))=2 by decide,Int.fdiv_eq_ediv_of_nonneg _ (by decide),At (by omega) (by omega)]
 omega
end Go.Proofs.YtokkbgpgaheakaaGreat
